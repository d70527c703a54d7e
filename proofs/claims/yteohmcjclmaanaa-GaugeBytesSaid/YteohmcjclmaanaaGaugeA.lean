/- What the two Adds of gauges compute, and the statements' own start: the walks. -/
import Derived.Test.YteohmcjclmaanaaGaugeM
import Derived.Test.YteohmcjclmaanaaGaugeR
namespace Go.Proofs.Yteohmcjclmaanaa
set_option linter.unusedVariables false
set_option linter.unusedSimpArgs false
open Go.RowKit
theorem bcell {W w1 : World} (hb : Below W.heap.size W w1) : (∀ b o, b < W.heap.size → w1.cell? ⟨b, o, none⟩ = W.cell? ⟨b, o, none⟩) ∧ (∀ b o, b < W.heap.size → w1.frozen? ⟨b, o, none⟩ = W.frozen? ⟨b, o, none⟩) :=
  ⟨fun b o h => hb.cell (p := ⟨b, o, none⟩) h, fun b o h => hb.frozen (p := ⟨b, o, none⟩) h⟩
section
variable {an am al ah bn bm bl bh n m l h : Nat}
theorem merge_at (ha : G4.wf ⟨an, am, al, ah⟩) (hb : G4.wf ⟨bn, bm, bl, bh⟩) (hg : mergeG ⟨an, am, al, ah⟩ ⟨bn, bm, bl, bh⟩ = ⟨n, m, l, h⟩) :
    ∀ W : World, Calls Try.prog 13 #[.agg #[.int .u64 (an : Int), .int .u64 (am : Int), .int .u64 (al : Int), .int .u64 (ah : Int)], .agg #[.int .u64 (bn : Int), .int .u64 (bm : Int), .int .u64 (bl : Int), .int .u64 (bh : Int)]] W fun e w' =>
      e = .returned (.agg #[.int .u64 (n : Int), .int .u64 (m : Int), .int .u64 (l : Int), .int .u64 (h : Int)]) ∧ Below W.heap.size W w' := fun W => by
  have := merge_any _ _ W ha hb
  rw [hg] at this
  exact this
theorem rmerge_at (ha : G4.wf ⟨an, am, al, ah⟩) (hb : G4.wf ⟨bn, bm, bl, bh⟩) (hg : mergeG ⟨an, am, al, ah⟩ ⟨bn, bm, bl, bh⟩ = ⟨n, m, l, h⟩) :
    ∀ W : World, Calls Try.prog 21 #[.agg #[.int .u64 (an : Int), .int .u64 (am : Int), .int .u64 (al : Int), .int .u64 (ah : Int)], .agg #[.int .u64 (bn : Int), .int .u64 (bm : Int), .int .u64 (bl : Int), .int .u64 (bh : Int)]] W fun e w' =>
      e = .returned (.agg #[.int .u64 (n : Int), .int .u64 (m : Int), .int .u64 (l : Int), .int .u64 (h : Int)]) ∧ Below W.heap.size W w' := fun W => by
  have := rmerge_any _ _ W ha hb
  rw [hg] at this
  exact this
theorem check_at {c : Bool} (ha : G4.wf ⟨an, am, al, ah⟩) (hc : checkG ⟨an, am, al, ah⟩ = c) :
    ∀ W : World, Calls Try.prog 19 #[.agg #[.int .u64 (an : Int), .int .u64 (am : Int), .int .u64 (al : Int), .int .u64 (ah : Int)]] W fun e w' => e = .returned (.bool c) ∧ Below W.heap.size W w' := fun W => by
  have := check_any _ W ha
  rw [hc] at this
  exact this
theorem rcheck_at {c : Bool} (ha : G4.wf ⟨an, am, al, ah⟩) (hc : checkG ⟨an, am, al, ah⟩ = c) :
    ∀ W : World, Calls Try.prog 11 #[.agg #[.int .u64 (an : Int), .int .u64 (am : Int), .int .u64 (al : Int), .int .u64 (ah : Int)]] W fun e w' => e = .returned (.bool c) ∧ Below W.heap.size W w' := fun W => by
  have := rcheck_any _ W ha
  rw [hc] at this
  exact this
end
theorem wadd_one (a : Nat) (w : World) (ha : a < 18446744073709551616) :
    Calls Try.prog 30 #[.int .u64 (a : Int), .int .u64 1] w fun e w' => e = .returned (.int .u64 (satN a 1 : Int)) ∧ w = w' := wadd_any a 1 w ha (by decide)
set_option maxRecDepth 100000 in
set_option maxHeartbeats 800000 in
theorem gadd_any (g : G4) (x : Nat) (w : World) (hg : g.wf) (hx : x < 18446744073709551616) :
    Calls Try.prog 14 #[gval g, .int .u64 (x : Int)] w fun e w' => e = .returned (gval (addG g x)) ∧ Below w.heap.size w w' := by
  obtain ⟨an, am, al, ah⟩ := g
  obtain ⟨a1, a2, a3, a4⟩ := id hg
  simp only at a1 a2 a3 a4
  show Calls Try.prog 14 #[.agg #[.int .u64 (an : Int), .int .u64 (am : Int), .int .u64 (al : Int), .int .u64 (ah : Int)], .int .u64 (x : Int)] w _
  rcases hn : nanB x with _ | _
  · rcases hg' : mergeG ⟨an, am, al, ah⟩ ⟨1, 0, x, x⟩ with ⟨n, m, l, h⟩
    have HA : Hid (addG ⟨an, am, al, ah⟩ x = ⟨n, m, l, h⟩) := by
      show _ = _
      rw [← hg']
      simp [addG, hn, oneG]
    have HM := Lib.hid (merge_at hg ⟨(by decide : 1 < 18446744073709551616), (by decide : 0 < 18446744073709551616), hx, hx⟩ hg')
    clear hg' hg
    go_enter Try.func14, Try.ntmps14
    go_wp2_with (first | (go_at_call 32; (with_reducible refine (none_any _ _ (by assumption)).mono ?_); rintro e w' ⟨rfl, rfl⟩))
    refine (HM.out _).mono ?_
    rintro e w1 ⟨rfl, hb1⟩
    obtain ⟨hc, hf⟩ := bcell hb1
    have hb2 : Below w.heap.size w w1 := ((below_new w _).alloc (by simp) _).trans (hb1.mono (by simp; omega))
    clear hb1
    go_wp2
    exact bodyPost_ret (v := gval (addG ⟨an, am, al, ah⟩ x)) (by rw [HA.out]; simp [results, Try.results14, gval, go_sem, hc]) rfl ⟨rfl, (((hb2.setCell (by simp) _).setCell (by simp) _).setCell (by simp) _).setCell (by simp) _⟩
  · have HA : Hid (addG ⟨an, am, al, ah⟩ x = ⟨an, satN am 1, al, ah⟩) := by
      show _ = _
      simp [addG, hn]
    go_enter Try.func14, Try.ntmps14
    go_wp2_with (first | (go_at_call 32; (with_reducible refine (none_any _ _ (by assumption)).mono ?_); rintro e w' ⟨rfl, rfl⟩) | (go_at_call 30; (with_reducible refine (wadd_one _ _ (by assumption)).mono ?_); rintro e w' ⟨rfl, rfl⟩))
    exact bodyPost_ret (v := gval (addG ⟨an, am, al, ah⟩ x)) (by rw [HA.out]; simp [results, Try.results14, gval, go_sem]) rfl ⟨rfl, by repeat (first | exact Below.refl _ _ | apply Below.drew | apply Below.setCell | (refine Below.alloc ?_ (by first | (simp; done) | (simp; omega)) _))⟩
end Go.Proofs.Yteohmcjclmaanaa
