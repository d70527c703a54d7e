/- What the reference's Add of gauges computes; the statements' own start: the walks. -/
import Derived.Test.YteohmcjclmaanaaGaugeA
namespace Go.Proofs.Yteohmcjclmaanaa
set_option linter.unusedVariables false
set_option linter.unusedSimpArgs false
open Go.RowKit
set_option maxRecDepth 100000 in
set_option maxHeartbeats 800000 in
theorem rgadd_any (g : G4) (x : Nat) (w : World) (hok : okG g) (hx : x < 18446744073709551616) :
    Calls Try.prog 20 #[gval g, .int .u64 (x : Int)] w fun e w' => e = .returned (gval (addG g x)) ∧ Below w.heap.size w w' := by
  obtain ⟨an, am, al, ah⟩ := g
  have hnan := add_nan hok
  have hg := hok.1
  obtain ⟨a1, a2, a3, a4⟩ := id hg
  simp only at a1 a2 a3 a4
  have HG := Lib.hid hg
  show Calls Try.prog 20 #[.agg #[.int .u64 (an : Int), .int .u64 (am : Int), .int .u64 (al : Int), .int .u64 (ah : Int)], .int .u64 (x : Int)] w _
  rcases hn : nanB x with _ | _
  · rcases hg' : mergeG ⟨an, am, al, ah⟩ ⟨1, 0, x, x⟩ with ⟨n, m, l, h⟩
    have HA : Hid (addG ⟨an, am, al, ah⟩ x = ⟨n, m, l, h⟩) := by
      show _ = _
      rw [← hg']
      simp [addG, hn, oneG]
    have HM := Lib.hid (rmerge_at HG.out ⟨(by decide : 1 < 18446744073709551616), (by decide : 0 < 18446744073709551616), hx, hx⟩ hg')
    have hk : (((kindN x : Nat) : Int) == 4) = false := by
      rw [beq_eq_false_iff_ne]
      intro h'
      rw [(kind_nan_iff x).1 (by omega)] at hn
      cases hn
    clear hg' hg hok hnan
    go_enter Try.func20, Try.ntmps20
    go_wp2_with (first | (go_at_call 17; (with_reducible refine (rkind_any _ _ (by assumption)).mono ?_); rintro e w' ⟨rfl, rfl⟩))
    refine (HM.out _).mono ?_
    rintro e w1 ⟨rfl, hb1⟩
    obtain ⟨hc, hf⟩ := bcell hb1
    have hb2 : Below w.heap.size w w1 := ((below_new w _).alloc (by simp) _).trans (hb1.mono (by simp; omega))
    clear hb1
    go_wp2
    exact bodyPost_ret (v := gval (addG ⟨an, am, al, ah⟩ x)) (by rw [HA.out]; simp [results, Try.results20, gval, go_sem, hc]) rfl ⟨rfl, (((hb2.setCell (by simp) _).setCell (by simp) _).setCell (by simp) _).setCell (by simp) _⟩
  · have HA : Hid (addG ⟨an, am, al, ah⟩ x = ⟨an, satN am 1, al, ah⟩) := by
      show _ = _
      simp [addG, hn]
    have HM := Lib.hid (rmerge_at HG.out ⟨(by decide : 0 < 18446744073709551616), (by decide : 1 < 18446744073709551616), (by decide : 0 < 18446744073709551616), (by decide : 0 < 18446744073709551616)⟩ hnan)
    have hk : kindN x = 4 := (kind_nan_iff x).2 hn
    clear hg hok hnan
    go_enter Try.func20, Try.ntmps20
    go_wp2_with (first | (go_at_call 17; (with_reducible refine (rkind_any _ _ (by assumption)).mono ?_); rintro e w' ⟨rfl, rfl⟩))
    refine (HM.out _).mono ?_
    rintro e w1 ⟨rfl, hb1⟩
    obtain ⟨hc, hf⟩ := bcell hb1
    have hb2 : Below w.heap.size w w1 := ((below_new w _).alloc (by simp) _).trans (hb1.mono (by simp; omega))
    clear hb1
    go_wp2
    exact bodyPost_ret (v := gval (addG ⟨an, am, al, ah⟩ x)) (by rw [HA.out]; simp [results, Try.results20, gval, go_sem, hc]) rfl ⟨rfl, (((hb2.setCell (by simp) _).setCell (by simp) _).setCell (by simp) _).setCell (by simp) _⟩
section
variable {an am al ah x n m l h : Nat}
theorem gadd_at (ha : G4.wf ⟨an, am, al, ah⟩) (hx : x < 18446744073709551616) (hg : addG ⟨an, am, al, ah⟩ x = ⟨n, m, l, h⟩) :
    ∀ W : World, Calls Try.prog 14 #[.agg #[.int .u64 (an : Int), .int .u64 (am : Int), .int .u64 (al : Int), .int .u64 (ah : Int)], .int .u64 (x : Int)] W fun e w' =>
      e = .returned (.agg #[.int .u64 (n : Int), .int .u64 (m : Int), .int .u64 (l : Int), .int .u64 (h : Int)]) ∧ Below W.heap.size W w' := fun W => by
  have := gadd_any _ _ W ha hx
  rw [hg] at this
  exact this
theorem rgadd_at (ha : okG ⟨an, am, al, ah⟩) (hx : x < 18446744073709551616) (hg : addG ⟨an, am, al, ah⟩ x = ⟨n, m, l, h⟩) :
    ∀ W : World, Calls Try.prog 20 #[.agg #[.int .u64 (an : Int), .int .u64 (am : Int), .int .u64 (al : Int), .int .u64 (ah : Int)], .int .u64 (x : Int)] W fun e w' =>
      e = .returned (.agg #[.int .u64 (n : Int), .int .u64 (m : Int), .int .u64 (l : Int), .int .u64 (h : Int)]) ∧ Below W.heap.size W w' := fun W => by
  have := rgadd_any _ _ W ha hx
  rw [hg] at this
  exact this
end
theorem mathnan_any (w : World) :
    Calls Try.prog 29 #[] w fun e w' => e = .returned (.float .f64 9221120237041090561) ∧ w = w' := by
  have x32 : ∀ W : World, (callFunc 15 #[.int .u64 9221120237041090561]).run Try.prog W = .ok (.value (.float .f64 9221120237041090561)) W := fun W => run_frombits 9221120237041090561 W
  go_enter Try.func29, Try.ntmps29
  go_wp2
  go_ret
  exact ⟨rfl, rfl⟩
theorem awake1 (W : World) : Calls Try.prog 14 #[.agg #[.int .u64 0, .int .u64 0, .int .u64 0, .int .u64 0], .int .u64 9223372036854775808] W fun e w' =>
      e = .returned (.agg #[.int .u64 1, .int .u64 0, .int .u64 9223372036854775808, .int .u64 9223372036854775808]) ∧ Below W.heap.size W w' :=
  gadd_at (an := 0) (am := 0) (al := 0) (ah := 0) (x := 9223372036854775808) (n := 1) (m := 0) (l := 9223372036854775808) (h := 9223372036854775808) (by unfold G4.wf; simp) (by decide) (by decide) W
theorem awake2 (W : World) : Calls Try.prog 14 #[.agg #[.int .u64 1, .int .u64 0, .int .u64 9223372036854775808, .int .u64 9223372036854775808], .int .u64 0] W fun e w' =>
      e = .returned (.agg #[.int .u64 2, .int .u64 0, .int .u64 9223372036854775808, .int .u64 0]) ∧ Below W.heap.size W w' :=
  gadd_at (an := 1) (am := 0) (al := 9223372036854775808) (ah := 9223372036854775808) (x := 0) (n := 2) (m := 0) (l := 9223372036854775808) (h := 0) (by unfold G4.wf; simp) (by decide) (by decide) W
theorem awake3 (W : World) : Calls Try.prog 14 #[.agg #[.int .u64 0, .int .u64 0, .int .u64 0, .int .u64 0], .int .u64 9221120237041090561] W fun e w' =>
      e = .returned (.agg #[.int .u64 0, .int .u64 1, .int .u64 0, .int .u64 0]) ∧ Below W.heap.size W w' :=
  gadd_at (an := 0) (am := 0) (al := 0) (ah := 0) (x := 9221120237041090561) (n := 0) (m := 1) (l := 0) (h := 0) (by unfold G4.wf; simp) (by decide) (by decide) W
set_option maxRecDepth 100000 in
set_option maxHeartbeats 800000 in
theorem awake_any (w : World) :
    Calls Try.prog 12 #[] w fun e w' => e = .returned (.bool true) ∧ Below w.heap.size w w' := by
  have x23 : ∀ W : World, (callFunc 22 #[.float .f64 9221120237041090561]).run Try.prog W = .ok (.value (.int .u64 9221120237041090561)) W := fun W => run_tobits 9221120237041090561 W
  go_enter Try.func12, Try.ntmps12
  go_wp2_with fail
  refine (awake1 _).mono ?_
  rintro e w1 ⟨rfl, hb1⟩
  go_wp2_with fail
  refine (awake2 _).mono ?_
  rintro e w2 ⟨rfl, hb2⟩
  have hb3 := below_then hb1 hb2
  clear hb1 hb2
  go_wp2_with (go_at_call 29; (with_reducible refine (mathnan_any _).mono ?_); rintro e w' ⟨rfl, rfl⟩)
  refine (awake3 _).mono ?_
  rintro e w4 ⟨rfl, hb4⟩
  have hz : w2.heap.size < w4.heap.size := by have := hb4.size; simp at this; omega
  obtain ⟨hc, hf⟩ := bcell hb4
  have hb5 : Below w.heap.size w w4 := (hb3.alloc hb3.size _).trans (hb4.mono (by have := hb3.size; simp; omega))
  clear hb3 hb4
  go_wp2
  go_ret
  exact ⟨rfl, hb5.alloc hb5.size _⟩
end Go.Proofs.Yteohmcjclmaanaa
