/- What Merge of gauges computes: the walk. -/
import Derived.Test.YteohmcjclmaanaaGaugeW
namespace Go.Proofs.Yteohmcjclmaanaa
set_option linter.unusedVariables false
set_option linter.unusedSimpArgs false
open Go.RowKit
set_option maxRecDepth 100000 in
set_option maxHeartbeats 1600000 in
theorem merge_any (a b : G4) (w : World) (ha : a.wf) (hb : b.wf) :
    Calls Try.prog 13 #[gval a, gval b] w fun e w' => e = .returned (gval (mergeG a b)) ∧ Below w.heap.size w w' := by
  obtain ⟨an, am, al, ah⟩ := a
  obtain ⟨bn, bm, bl, bh⟩ := b
  obtain ⟨a1, a2, a3, a4⟩ := ha
  obtain ⟨b1, b2, b3, b4⟩ := hb
  simp only at a1 a2 a3 a4 b1 b2 b3 b4
  show Calls Try.prog 13 #[.agg #[.int .u64 (an : Int), .int .u64 (am : Int), .int .u64 (al : Int), .int .u64 (ah : Int)], .agg #[.int .u64 (bn : Int), .int .u64 (bm : Int), .int .u64 (bl : Int), .int .u64 (bh : Int)]] w _
  have hq : ((an : Int) == 0) = true ∧ Hid (mergeG ⟨an, am, al, ah⟩ ⟨bn, bm, bl, bh⟩ = ⟨satN an bn, satN am bm, bl, bh⟩) ∨
      ((an : Int) == 0) = false ∧ (((bn : Int) == 0) = true ∧ Hid (mergeG ⟨an, am, al, ah⟩ ⟨bn, bm, bl, bh⟩ = ⟨satN an bn, satN am bm, al, ah⟩) ∨
        ((bn : Int) == 0) = false ∧ Hid (mergeG ⟨an, am, al, ah⟩ ⟨bn, bm, bl, bh⟩ = ⟨satN an bn, satN am bm, minF al bl, maxF ah bh⟩)) := by
    by_cases h0 : an = 0
    · exact .inl ⟨by rw [beq_iff_eq]; omega, by show _ = _; simp [mergeG, h0]⟩
    · refine .inr ⟨by rw [beq_eq_false_iff_ne]; omega, ?_⟩
      by_cases h1 : bn = 0
      · exact .inl ⟨by rw [beq_iff_eq]; omega, by show _ = _; simp [mergeG, h0, h1]⟩
      · exact .inr ⟨by rw [beq_eq_false_iff_ne]; omega, by show _ = _; simp [mergeG, h0, h1]⟩
  rcases hq with ⟨q1, HM⟩ | ⟨q1, ⟨q2, HM⟩ | ⟨q2, HM⟩⟩
  · go_enter Try.func13, Try.ntmps13
    go_wp2
    go_region_held3 (fun W => W.cell? ⟨w.heap.size, 0, none⟩ = some (.int .u64 (an : Int)) ∧ W.cell? ⟨w.heap.size, 1, none⟩ = some (.int .u64 (am : Int)) ∧ W.cell? ⟨w.heap.size + 1, 0, none⟩ = some (.int .u64 (bn : Int)) ∧ W.cell? ⟨w.heap.size + 1, 1, none⟩ = some (.int .u64 (bm : Int))) (go_keep) (first | (go_at_call 30; (with_reducible refine (wadd_any _ _ _ (by assumption) (by assumption)).mono ?_); rintro e w' ⟨rfl, rfl⟩))
    go_wp2
    exact bodyPost_ret (v := gval (mergeG ⟨an, am, al, ah⟩ ⟨bn, bm, bl, bh⟩)) (by rw [HM.out]; simp [results, Try.results13, gval, go_sem]) rfl ⟨rfl, by repeat (first | exact Below.refl _ _ | apply Below.drew | apply Below.setCell | (refine Below.alloc ?_ (by first | (simp; done) | (simp; omega)) _))⟩
  · go_enter Try.func13, Try.ntmps13
    go_wp2
    go_region_held3 (fun W => W.cell? ⟨w.heap.size, 0, none⟩ = some (.int .u64 (an : Int)) ∧ W.cell? ⟨w.heap.size, 1, none⟩ = some (.int .u64 (am : Int)) ∧ W.cell? ⟨w.heap.size + 1, 0, none⟩ = some (.int .u64 (bn : Int)) ∧ W.cell? ⟨w.heap.size + 1, 1, none⟩ = some (.int .u64 (bm : Int))) (go_keep) (first | (go_at_call 30; (with_reducible refine (wadd_any _ _ _ (by assumption) (by assumption)).mono ?_); rintro e w' ⟨rfl, rfl⟩))
    go_wp2
    exact bodyPost_ret (v := gval (mergeG ⟨an, am, al, ah⟩ ⟨bn, bm, bl, bh⟩)) (by rw [HM.out]; simp [results, Try.results13, gval, go_sem]) rfl ⟨rfl, by repeat (first | exact Below.refl _ _ | apply Below.drew | apply Below.setCell | (refine Below.alloc ?_ (by first | (simp; done) | (simp; omega)) _))⟩
  · rcases g1 : lessB bl al with _ | _ <;> rcases g2 : lessB ah bh with _ | _
    all_goals
      have HG : Hid (minF al bl = (if lessB bl al = true then bl else al) ∧ maxF ah bh = (if lessB ah bh = true then bh else ah)) := ⟨rfl, rfl⟩
      rw [g1, g2] at HG
      go_enter Try.func13, Try.ntmps13
      go_wp2
      go_region_held3 (fun W => W.cell? ⟨w.heap.size, 0, none⟩ = some (.int .u64 (an : Int)) ∧ W.cell? ⟨w.heap.size, 1, none⟩ = some (.int .u64 (am : Int)) ∧ W.cell? ⟨w.heap.size + 1, 0, none⟩ = some (.int .u64 (bn : Int)) ∧ W.cell? ⟨w.heap.size + 1, 1, none⟩ = some (.int .u64 (bm : Int))) (go_keep) (first | (go_at_call 30; (with_reducible refine (wadd_any _ _ _ (by assumption) (by assumption)).mono ?_); rintro e w' ⟨rfl, rfl⟩))
      go_wp2_with (first | (go_at_call 31; (with_reducible refine (less_any _ _ _ (by assumption) (by assumption)).mono ?_); rintro e w' ⟨rfl, rfl⟩))
      exact bodyPost_ret (v := gval (mergeG ⟨an, am, al, ah⟩ ⟨bn, bm, bl, bh⟩)) (by rw [HM.out, HG.out.1, HG.out.2]; simp [results, Try.results13, gval, go_sem]) rfl ⟨rfl, by repeat (first | exact Below.refl _ _ | apply Below.drew | apply Below.setCell | (refine Below.alloc ?_ (by first | (simp; done) | (simp; omega)) _))⟩
end Go.Proofs.Yteohmcjclmaanaa
