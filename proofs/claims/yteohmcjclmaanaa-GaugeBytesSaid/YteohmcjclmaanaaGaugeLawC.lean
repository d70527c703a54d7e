/- What the statements on three gauges, and on one come to: the walks. -/
import Derived.Test.YteohmcjclmaanaaGaugeLawA
namespace Go.Proofs.Yteohmcjclmaanaa
set_option linter.unusedVariables false
set_option linter.unusedSimpArgs false
open Go.RowKit
set_option maxRecDepth 100000 in
set_option maxHeartbeats 3200000 in
theorem gaugeTurns_walk (x0 x1 x2 : G4) (w : World) (wf0 : x0.wf) (wf1 : x1.wf) (wf2 : x2.wf) :
    Calls Try.prog 3 #[gval x0, gval x1, gval x2] w fun e w' => e = .returned (.bool true) ∧ Below w.heap.size w w' := by
  obtain ⟨an, am, al, ah⟩ := x0
  obtain ⟨bn, bm, bl, bh⟩ := x1
  obtain ⟨cn, cm, cl, ch⟩ := x2
  rcases hca : checkG ⟨an, am, al, ah⟩ with _ | _
  · have A2 := Lib.hid (rcheck_at wf0 hca)
    clear hca wf0 wf1 wf2
    show Calls Try.prog 3 #[.agg #[.int .u64 (an : Int), .int .u64 (am : Int), .int .u64 (al : Int), .int .u64 (ah : Int)], .agg #[.int .u64 (bn : Int), .int .u64 (bm : Int), .int .u64 (bl : Int), .int .u64 (bh : Int)], .agg #[.int .u64 (cn : Int), .int .u64 (cm : Int), .int .u64 (cl : Int), .int .u64 (ch : Int)]] w _
    go_enter Try.func3, Try.ntmps3
    go_wp2_with fail
    refine (A2.out _).mono ?_
    rintro e w1 ⟨rfl, hb1⟩
    have hb0 : Below w.heap.size w w1 := (((below_new w _).alloc (by simp) _).alloc (by simp; omega) _).trans (hb1.mono (by simp; omega))
    go_wp2_with fail
    refine (awake_any _).mono ?_
    rintro e w2 ⟨rfl, hb2⟩
    go_wp2
    go_ret
    exact ⟨rfl, below_then hb0 hb2⟩
  · rcases hcb : checkG ⟨bn, bm, bl, bh⟩ with _ | _
    · have A2 := Lib.hid (rcheck_at wf0 hca)
      have B2 := Lib.hid (rcheck_at wf1 hcb)
      clear hca hcb wf0 wf1 wf2
      show Calls Try.prog 3 #[.agg #[.int .u64 (an : Int), .int .u64 (am : Int), .int .u64 (al : Int), .int .u64 (ah : Int)], .agg #[.int .u64 (bn : Int), .int .u64 (bm : Int), .int .u64 (bl : Int), .int .u64 (bh : Int)], .agg #[.int .u64 (cn : Int), .int .u64 (cm : Int), .int .u64 (cl : Int), .int .u64 (ch : Int)]] w _
      go_enter Try.func3, Try.ntmps3
      go_wp2_with fail
      refine (A2.out _).mono ?_
      rintro e w1 ⟨rfl, hb1⟩
      obtain ⟨r0, r1, r2, r3⟩ := (((GB.new2 w _ bn bm bl bh).alloc _).below hb1).cells
      have hb0 : Below w.heap.size w w1 := (((below_new w _).alloc (by simp) _).alloc (by simp; omega) _).trans (hb1.mono (by simp; omega))
      clear hb1
      go_wp2_with fail
      refine (B2.out _).mono ?_
      rintro e w2 ⟨rfl, hb2⟩
      clear r0 r1 r2 r3
      have hb3 := below_then hb0 hb2
      clear hb0 hb2
      go_wp2_with fail
      refine (awake_any _).mono ?_
      rintro e w4 ⟨rfl, hb4⟩
      go_wp2
      go_ret
      exact ⟨rfl, below_then hb3 hb4⟩
    · have oka := (check_iff _ wf0).1 hca
      have okb := (check_iff _ wf1).1 hcb
      have A2 := Lib.hid (rcheck_at wf0 hca)
      have B2 := Lib.hid (rcheck_at wf1 hcb)
      rcases hcc : checkG ⟨cn, cm, cl, ch⟩ with _ | _
      all_goals
        have C2 := Lib.hid (rcheck_at wf2 hcc)
        have HCC := Lib.hid hcc
        clear hca hcb hcc
        show Calls Try.prog 3 #[.agg #[.int .u64 (an : Int), .int .u64 (am : Int), .int .u64 (al : Int), .int .u64 (ah : Int)], .agg #[.int .u64 (bn : Int), .int .u64 (bm : Int), .int .u64 (bl : Int), .int .u64 (bh : Int)], .agg #[.int .u64 (cn : Int), .int .u64 (cm : Int), .int .u64 (cl : Int), .int .u64 (ch : Int)]] w _
        go_enter Try.func3, Try.ntmps3
        go_wp2_with fail
        refine (A2.out _).mono ?_
        rintro e w1 ⟨rfl, hb1⟩
        obtain ⟨r0, r1, r2, r3⟩ := (((GB.new2 w _ bn bm bl bh).alloc _).below hb1).cells
        have ga := Lib.hid ((((GB.new w an am al ah).alloc _).alloc _).below hb1)
        have gb := Lib.hid (((GB.new2 w _ bn bm bl bh).alloc _).below hb1)
        have gc := Lib.hid ((GB.new3 w _ _ cn cm cl ch).below hb1)
        have hb0 : Below w.heap.size w w1 := (((below_new w _).alloc (by simp) _).alloc (by simp; omega) _).trans (hb1.mono (by simp; omega))
        clear hb1
        go_wp2_with fail
        refine (B2.out _).mono ?_
        rintro e w2 ⟨rfl, hb2⟩
        clear r0 r1 r2 r3
        obtain ⟨r0, r1, r2, r3⟩ := (gc.out.below hb2).cells
        have ga2 := Lib.hid (ga.out.below hb2)
        have gb2 := Lib.hid (gb.out.below hb2)
        have gc2 := Lib.hid (gc.out.below hb2)
        have hb3 := below_then hb0 hb2
        clear hb0 hb2 ga gb gc
        go_wp2_with fail
        refine (C2.out _).mono ?_
        rintro e w3 ⟨rfl, hb4⟩
        clear r0 r1 r2 r3
        obtain ⟨p0, p1, p2, p3⟩ := (ga2.out.below hb4).rules
        obtain ⟨q0, q1, q2, q3⟩ := (gb2.out.below hb4).rules
        obtain ⟨r0, r1, r2, r3⟩ := (gc2.out.below hb4).rules
        have hb0 := below_then hb3 hb4
        clear hb3 hb4 ga2 gb2 gc2
      · go_wp2_with fail
        refine (awake_any _).mono ?_
        rintro e w4 ⟨rfl, hb4⟩
        go_wp2
        go_ret
        exact ⟨rfl, below_then hb0 hb4⟩
      · have okc := (check_iff _ wf2).1 HCC.out
        have okab := ok_merge oka okb
        have okbc := ok_merge okb okc
        have e1 := merge_comm oka okb
        have e2 := merge_assoc oka okb okc
        have e3 := merge_zero oka
        rcases hab : mergeG ⟨an, am, al, ah⟩ ⟨bn, bm, bl, bh⟩ with ⟨dn, dm, dl, dh⟩
        rcases hbc : mergeG ⟨bn, bm, bl, bh⟩ ⟨cn, cm, cl, ch⟩ with ⟨en, em, el, eh⟩
        rw [hab] at e1 e2 okab
        rw [hbc] at e2 okbc
        rcases habc : mergeG ⟨dn, dm, dl, dh⟩ ⟨cn, cm, cl, ch⟩ with ⟨fn, fm, fl, fh⟩
        rw [habc] at e2
        have M1 := Lib.hid (merge_at wf0 wf1 hab)
        have M2 := Lib.hid (merge_at wf1 wf0 e1.symm)
        have M3 := Lib.hid (merge_at okab.1 wf2 habc)
        have M4 := Lib.hid (merge_at wf1 wf2 hbc)
        have M5 := Lib.hid (merge_at wf0 okbc.1 e2.symm)
        have M6 : Hid (∀ W : World, Calls Try.prog 13 #[.agg #[.int .u64 (an : Int), .int .u64 (am : Int), .int .u64 (al : Int), .int .u64 (ah : Int)], .agg #[.int .u64 0, .int .u64 0, .int .u64 0, .int .u64 0]] W fun e w' => e = .returned (.agg #[.int .u64 (an : Int), .int .u64 (am : Int), .int .u64 (al : Int), .int .u64 (ah : Int)]) ∧ Below W.heap.size W w') := merge_at (bn := 0) (bm := 0) (bl := 0) (bh := 0) wf0 (by unfold G4.wf; simp) e3
        clear e1 e2 e3 hab hbc habc oka okb okc okab okbc wf0 wf1 wf2 HCC A2 B2 C2
        go_wp2_with fail
        go_region_held3 (fun W' => Below w3.heap.size w3 W') (first | exact (Below.refl _ _).drew | exact below_then (by assumption) (by assumption)) (first | (go_at_call 13; (with_reducible refine (M1.out _).mono ?_); rintro e w2 ⟨rfl, hb2⟩) | (go_at_call 13; (with_reducible refine (M2.out _).mono ?_); rintro e w2 ⟨rfl, hb2⟩) | (go_at_call 13; (with_reducible refine (M3.out _).mono ?_); rintro e w2 ⟨rfl, hb2⟩) | (go_at_call 13; (with_reducible refine (M4.out _).mono ?_); rintro e w2 ⟨rfl, hb2⟩) | (go_at_call 13; (with_reducible refine (M5.out _).mono ?_); rintro e w2 ⟨rfl, hb2⟩) | (go_at_call 13; (with_reducible refine (M6.out _).mono ?_); rintro e w2 ⟨rfl, hb2⟩) | (go_at_call 12; (with_reducible refine (awake_any _).mono ?_); rintro e w2 ⟨rfl, hb2⟩))
        all_goals
          go_wp2
          all_goals go_ret
          all_goals exact ⟨rfl, below_then hb0 (by assumption)⟩
theorem wf_i64 {x : Int} (h : (Lit.int .i64 x).wf = true) : -9223372036854775808 ≤ x ∧ x ≤ 9223372036854775807 := by
  simp [Lit.wf, IntKind.min, IntKind.max, IntKind.signed, IntKind.bits] at h
  exact h
theorem wf_u64 {x : Int} (h : (Lit.int .u64 x).wf = true) : ∃ n : Nat, x = (n : Int) ∧ n < 18446744073709551616 := by
  simp [Lit.wf, IntKind.min, IntKind.max, IntKind.signed, IntKind.bits] at h
  exact ⟨x.toNat, by omega, by omega⟩
theorem add_zero (x : Nat) : addG zeroG x = if nanB x = true then nanG else oneG x := by
  unfold addG mergeG zeroG oneG nanG
  split
  · rfl
  · rfl
theorem one_add {a : Nat} (ha : real a) {b : Nat} (hb : b < 18446744073709551616) : addG (oneG a) b = addG (addG zeroG b) a := by
  rw [add_zero b]
  rcases hn : nanB b with _ | _
  · have hrb : real b := ⟨hb, hn⟩
    simp only [Bool.false_eq_true, if_false]
    have e1 : addG (oneG a) b = mergeG (oneG a) (oneG b) := by unfold addG; rw [hn]; rfl
    have e2 : addG (oneG b) a = mergeG (oneG b) (oneG a) := by unfold addG; rw [ha.2]; rfl
    rw [e1, e2, merge_comm (ok_one ha) (ok_one hrb)]
  · simp only [if_true]
    unfold addG
    rw [hn, ha.2]
    rfl
set_option maxRecDepth 100000 in
set_option maxHeartbeats 1600000 in
theorem gaugeOne_walk (x0 x1 : Int) (w : World) (wf0 : (Lit.int .u64 x0).wf = true) (wf1 : (Lit.int .u64 x1).wf = true) :
    Calls Try.prog 5 #[.int .u64 x0, .int .u64 x1] w fun e w' => e = .returned (.bool true) ∧ Below w.heap.size w w' := by
  obtain ⟨a, rfl, ha⟩ := wf_u64 wf0
  obtain ⟨b, rfl, hb⟩ := wf_u64 wf1
  clear wf0 wf1
  have z := add_zero a
  rcases hn : nanB a with _ | _
  · rw [hn] at z
    have hk : (((kindN a : Nat) : Int) == 4) = false := by
      rw [beq_eq_false_iff_ne]
      intro h'
      rw [(kind_nan_iff a).1 (by omega)] at hn
      cases hn
    have e1 := one_add ⟨ha, hn⟩ hb
    have okz := ok_add (x := b) ok_zero hb
    rcases hg1 : addG zeroG b with ⟨gn, gm, gl, gh⟩
    rcases hg2 : addG (oneG a) b with ⟨en, em, el, eh⟩
    rw [hg1, hg2] at e1
    rw [hg1] at okz
    have A1 : Hid (∀ W : World, Calls Try.prog 14 #[.agg #[.int .u64 0, .int .u64 0, .int .u64 0, .int .u64 0], .int .u64 (a : Int)] W fun e w' => e = .returned (.agg #[.int .u64 1, .int .u64 0, .int .u64 (a : Int), .int .u64 (a : Int)]) ∧ Below W.heap.size W w') := gadd_at (an := 0) (am := 0) (al := 0) (ah := 0) (n := 1) (m := 0) (l := a) (h := a) (by unfold G4.wf; simp) ha z
    have A2 : Hid (∀ W : World, Calls Try.prog 14 #[.agg #[.int .u64 1, .int .u64 0, .int .u64 (a : Int), .int .u64 (a : Int)], .int .u64 (b : Int)] W fun e w' => e = .returned (.agg #[.int .u64 (en : Int), .int .u64 (em : Int), .int .u64 (el : Int), .int .u64 (eh : Int)]) ∧ Below W.heap.size W w') := gadd_at (an := 1) (am := 0) (al := a) (ah := a) ⟨(by decide : 1 < 18446744073709551616), (by decide : 0 < 18446744073709551616), ha, ha⟩ hb hg2
    have A3 : Hid (∀ W : World, Calls Try.prog 14 #[.agg #[.int .u64 0, .int .u64 0, .int .u64 0, .int .u64 0], .int .u64 (b : Int)] W fun e w' => e = .returned (.agg #[.int .u64 (gn : Int), .int .u64 (gm : Int), .int .u64 (gl : Int), .int .u64 (gh : Int)]) ∧ Below W.heap.size W w') := gadd_at (an := 0) (am := 0) (al := 0) (ah := 0) (by unfold G4.wf; simp) hb hg1
    have A4 := Lib.hid (gadd_at okz.1 ha e1.symm)
    clear z e1 hg1 hg2 okz hn
    go_enter Try.func5, Try.ntmps5
    go_wp2_with fail
    refine (A1.out _).mono ?_
    rintro e w1 ⟨rfl, hb1⟩
    go_wp2_with (go_at_call 17; (with_reducible refine (rkind_any _ _ ha).mono ?_); rintro e w' ⟨rfl, rfl⟩)
    have hb2 := hb1.alloc hb1.size (.cells #[.int .u64 1, .int .u64 0, .int .u64 (a : Int), .int .u64 (a : Int)] 24)
    refine (A2.out _).mono ?_
    rintro e w3 ⟨rfl, hb3⟩
    have hb4 : Below w.heap.size w w3 := hb2.trans (hb3.mono hb2.size)
    clear hb1 hb2 hb3
    go_wp2_with fail
    refine (A3.out _).mono ?_
    rintro e w5 ⟨rfl, hb5⟩
    have hb6 := below_then hb4 hb5
    clear hb4 hb5
    go_wp2_with fail
    refine (A4.out _).mono ?_
    rintro e w7 ⟨rfl, hb7⟩
    have hb8 := below_then hb6 hb7
    clear hb6 hb7
    go_wp2_with fail
    refine (awake_any _).mono ?_
    rintro e w9 ⟨rfl, hb9⟩
    go_wp2
    go_ret
    exact ⟨rfl, below_then hb8 hb9⟩
  · rw [hn] at z
    have hk : kindN a = 4 := (kind_nan_iff a).2 hn
    have A1 : Hid (∀ W : World, Calls Try.prog 14 #[.agg #[.int .u64 0, .int .u64 0, .int .u64 0, .int .u64 0], .int .u64 (a : Int)] W fun e w' => e = .returned (.agg #[.int .u64 0, .int .u64 1, .int .u64 0, .int .u64 0]) ∧ Below W.heap.size W w') := gadd_at (an := 0) (am := 0) (al := 0) (ah := 0) (n := 0) (m := 1) (l := 0) (h := 0) (by unfold G4.wf; simp) ha z
    clear z hn
    go_enter Try.func5, Try.ntmps5
    go_wp2_with fail
    refine (A1.out _).mono ?_
    rintro e w1 ⟨rfl, hb1⟩
    go_wp2_with (go_at_call 17; (with_reducible refine (rkind_any _ _ ha).mono ?_); rintro e w' ⟨rfl, rfl⟩)
    have hb2 := hb1.alloc hb1.size (.cells #[.int .u64 0, .int .u64 1, .int .u64 0, .int .u64 0] 24)
    refine (awake_any _).mono ?_
    rintro e w3 ⟨rfl, hb3⟩
    go_wp2
    go_ret
    exact ⟨rfl, hb2.trans (hb3.mono hb2.size)⟩
end Go.Proofs.Yteohmcjclmaanaa
