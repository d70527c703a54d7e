/- What the statement on a gauge's bounds comes to: the walk. -/
import Derived.Test.YteohmcjclmaanaaGaugeLawC
namespace Go.Proofs.Yteohmcjclmaanaa
set_option linter.unusedVariables false
set_option linter.unusedSimpArgs false
open Go.RowKit
theorem real_lo : real 18442240474082181120 := ⟨by decide, by decide⟩
theorem real_hi : real 9218868437227405312 := ⟨by decide, by decide⟩
theorem key_lo {x : Nat} (hx : real x) : keyN 18442240474082181120 ≤ keyN x := by
  obtain ⟨h1, h2⟩ := hx
  rw [nan_false x h1] at h2
  unfold keyN
  split <;> split <;> omega
theorem key_hi {x : Nat} (hx : real x) : keyN x ≤ keyN 9218868437227405312 := by
  obtain ⟨h1, h2⟩ := hx
  rw [nan_false x h1] at h2
  unfold keyN
  split <;> split <;> omega
theorem min_lo {x : Nat} (hx : real x) : minF x 18442240474082181120 = 18442240474082181120 :=
  key_inj (min_real hx real_lo) real_lo (by rw [min_key hx real_lo]; have := key_lo hx; omega)
theorem lo_min {x : Nat} (hx : real x) : minF 18442240474082181120 x = 18442240474082181120 := by rw [min_comm' real_lo hx, min_lo hx]
theorem max_hi {x : Nat} (hx : real x) : maxF x 9218868437227405312 = 9218868437227405312 :=
  key_inj (max_real hx real_hi) real_hi (by rw [max_key hx real_hi]; have := key_hi hx; omega)
theorem hi_max {x : Nat} (hx : real x) : maxF 9218868437227405312 x = 9218868437227405312 := by rw [max_comm' real_hi hx, max_hi hx]
theorem bound_two {g : G4} (hg : okG g) (hn : g.n ≤ 9223372036854775808) : addG (addG g 18442240474082181120) 9218868437227405312 = ⟨g.n + 2, g.nans, 18442240474082181120, 9218868437227405312⟩ := by
  obtain ⟨n, m, l, h⟩ := g
  obtain ⟨⟨h1, h2, h3, h4⟩, hq⟩ := hg
  simp only at h1 h2 h3 h4 hq hn
  have hl := real_lo.2
  have hh := real_hi.2
  have e1 : satN n 1 = n + 1 := by unfold satN; rw [if_neg (by omega)]
  have e2 : satN (n + 1) 1 = n + 2 := by unfold satN; rw [if_neg (by omega)]
  have e3 : satN m 0 = m := sat_zero m h2
  unfold addG
  rw [hl, hh]
  simp only [Bool.false_eq_true, if_false]
  rcases hq with ⟨rfl, _, _⟩ | ⟨q1, q2, q3, q4⟩
  · simp only [mergeG, oneG, e1, e2, e3, if_true, Nat.zero_add, Nat.reduceEqDiff, if_false, lo_min real_hi, max_hi real_lo]
  · simp only [mergeG, oneG, e1, e2, e3, q1, if_false, Nat.reduceEqDiff, Nat.add_eq_zero_iff, and_false, min_lo q2, lo_min real_hi, max_hi (max_real q3 real_lo)]
theorem bound_more (n m x : Nat) (hn : n ≠ 0) (hn2 : n < 18446744073709551616) (hm : m < 18446744073709551616) (hx : x < 18446744073709551616) : ∃ yn ym, addG ⟨n, m, 18442240474082181120, 9218868437227405312⟩ x = ⟨yn, ym, 18442240474082181120, 9218868437227405312⟩ := by
  unfold addG
  rcases hq : nanB x with _ | _
  · refine ⟨satN n 1, satN m 0, ?_⟩
    simp only [Bool.false_eq_true, if_false, mergeG, oneG, hn, Nat.reduceEqDiff, lo_min ⟨hx, hq⟩, hi_max ⟨hx, hq⟩]
  · exact ⟨n, satN m 1, rfl⟩
theorem quiet_bits (b : Nat) (hb : b < 18446744073709551616) : ∃ q : Nat, bits .or .u64 9221120237041090560 ((b % 1048576 : Nat) : Int) = (q : Int) ∧ q < 18446744073709551616 ∧ nanB q = true := by
  have e := u64_or_nat 9221120237041090560 (b % 1048576) (by decide) (by omega)
  rw [nat_join 51 _ _ (by decide) (by omega)] at e
  refine ⟨9221120237041090560 + b % 1048576, e, by omega, ?_⟩
  rw [nan_bound _ (by omega)]
  omega
theorem and_20 (b : Nat) (hb : b < 18446744073709551616) : bits .and .u64 (b : Int) 1048575 = ((b % 1048576 : Nat) : Int) := by
  have e := u64_and_nat b 1048575 hb (by decide)
  rw [show (1048575 : Nat) = 2 ^ 20 - 1 from rfl, Nat.and_two_pow_sub_one_eq_mod] at e
  exact e
theorem inf_lo (w : World) :
    Calls Try.prog 23 #[.int .i64 (-1)] w fun e w' => e = .returned (.float .f64 18442240474082181120) ∧ w = w' := by
  have x32 : ∀ W : World, (callFunc 15 #[.int .u64 18442240474082181120]).run Try.prog W = .ok (.value (.float .f64 18442240474082181120)) W := fun W => run_frombits 18442240474082181120 W
  go_enter Try.func23, Try.ntmps23
  go_wp2
  go_ret
  exact ⟨rfl, rfl⟩
theorem inf_hi (w : World) :
    Calls Try.prog 23 #[.int .i64 1] w fun e w' => e = .returned (.float .f64 9218868437227405312) ∧ w = w' := by
  have x32 : ∀ W : World, (callFunc 15 #[.int .u64 9218868437227405312]).run Try.prog W = .ok (.value (.float .f64 9218868437227405312)) W := fun W => run_frombits 9218868437227405312 W
  go_enter Try.func23, Try.ntmps23
  go_wp2
  go_ret
  exact ⟨rfl, rfl⟩
set_option maxRecDepth 100000 in
set_option maxHeartbeats 1600000 in
theorem gaugeBounds_walk (x0 : G4) (x1 : Int) (w : World) (wf0 : x0.wf) (wf1 : (Lit.int .u64 x1).wf = true) :
    Calls Try.prog 9 #[gval x0, .int .u64 x1] w fun e w' => e = .returned (.bool true) ∧ Below w.heap.size w w' := by
  obtain ⟨b, rfl, hb⟩ := wf_u64 wf1
  obtain ⟨an, am, al, ah⟩ := x0
  clear wf1
  have hshort : ∀ (h : checkG ⟨an, am, al, ah⟩ = false ∨ checkG ⟨an, am, al, ah⟩ = true ∧ (9223372036854775808 < an ∨ an ≤ 9223372036854775808 ∧ 9223372036854775808 < am)),
      Calls Try.prog 9 #[gval ⟨an, am, al, ah⟩, .int .u64 (b : Int)] w fun e w' => e = .returned (.bool true) ∧ Below w.heap.size w w' := by
    intro h
    show Calls Try.prog 9 #[.agg #[.int .u64 (an : Int), .int .u64 (am : Int), .int .u64 (al : Int), .int .u64 (ah : Int)], .int .u64 (b : Int)] w _
    rcases h with hca | ⟨hca, h | ⟨h, h'⟩⟩
    · have A2 := Lib.hid (rcheck_at wf0 hca)
      clear hca wf0
      go_enter Try.func9, Try.ntmps9
      go_wp2_with fail
      refine (A2.out _).mono ?_
      rintro e w1 ⟨rfl, hb1⟩
      go_wp2_with fail
      refine (awake_any _).mono ?_
      rintro e w2 ⟨rfl, hb2⟩
      go_wp2
      go_ret
      exact ⟨rfl, below_then ((below_new w _).trans (hb1.mono (by simp))) hb2⟩
    · have A2 := Lib.hid (rcheck_at wf0 hca)
      have t1 : (9223372036854775808 : Int) < (an : Int) := by omega
      clear hca wf0 h
      go_enter Try.func9, Try.ntmps9
      go_wp2_with fail
      refine (A2.out _).mono ?_
      rintro e w1 ⟨rfl, hb1⟩
      obtain ⟨p0, p1, p2, p3⟩ := ((GB.new w an am al ah).below hb1).cells
      go_wp2_with fail
      refine (awake_any _).mono ?_
      rintro e w2 ⟨rfl, hb2⟩
      go_wp2
      go_ret
      exact ⟨rfl, below_then ((below_new w _).trans (hb1.mono (by simp))) hb2⟩
    · have A2 := Lib.hid (rcheck_at wf0 hca)
      have t1 : decide ((9223372036854775808 : Int) < (an : Int)) = false := by rw [decide_eq_false_iff_not]; omega
      have t2 : (9223372036854775808 : Int) < (am : Int) := by omega
      clear hca wf0 h h'
      go_enter Try.func9, Try.ntmps9
      go_wp2_with fail
      refine (A2.out _).mono ?_
      rintro e w1 ⟨rfl, hb1⟩
      obtain ⟨p0, p1, p2, p3⟩ := ((GB.new w an am al ah).below hb1).cells
      go_wp2_with fail
      refine (awake_any _).mono ?_
      rintro e w2 ⟨rfl, hb2⟩
      go_wp2
      go_ret
      exact ⟨rfl, below_then ((below_new w _).trans (hb1.mono (by simp))) hb2⟩
  rcases hca : checkG ⟨an, am, al, ah⟩ with _ | _
  · exact hshort (.inl hca)
  · by_cases hn1 : 9223372036854775808 < an
    · exact hshort (.inr ⟨hca, .inl hn1⟩)
    · by_cases hm1 : 9223372036854775808 < am
      · exact hshort (.inr ⟨hca, .inr ⟨by omega, hm1⟩⟩)
      · have hok := (check_iff _ wf0).1 hca
        have hx := bound_two hok (show an ≤ 9223372036854775808 by omega)
        have ok1 := ok_add (x := 18442240474082181120) hok (by decide)
        have ok2 := ok_add (x := 9218868437227405312) ok1 (by decide)
        rw [hx] at ok2
        rcases h1 : addG ⟨an, am, al, ah⟩ 18442240474082181120 with ⟨gn, gm, gl, gh⟩
        rw [h1] at ok1 hx
        simp only at hx
        obtain ⟨yn, ym, hy⟩ := bound_more (an + 2) am b (by omega) (by omega) (by omega) hb
        obtain ⟨q, hor, hq1, hq2⟩ := quiet_bits b hb
        have hand := and_20 b hb
        obtain ⟨r, hr⟩ : ∃ r, b % 1048576 = r := ⟨_, rfl⟩
        rw [hr] at hor hand
        have hn' : addG ⟨an, am, al, ah⟩ q = ⟨an, am + 1, al, ah⟩ := by
          unfold addG
          rw [hq2]
          simp only [if_true]
          have : satN am 1 = am + 1 := by unfold satN; rw [if_neg (by omega)]
          rw [this]
        obtain ⟨d, hd⟩ : ∃ d, an + 2 = d := ⟨_, rfl⟩
        obtain ⟨c, hc⟩ : ∃ c, am + 1 = c := ⟨_, rfl⟩
        rw [hd] at hx hy ok2
        rw [hc] at hn'
        have hd1 : IntKind.u64.wrap ((an : Int) + 2) = (d : Int) := by rw [IntKind.wrap_u64]; omega
        have hc1 : IntKind.u64.wrap ((am : Int) + 1) = (c : Int) := by rw [IntKind.wrap_u64]; omega
        have A2 := Lib.hid (rcheck_at wf0 hca)
        have A3 : Hid (∀ W : World, Calls Try.prog 14 #[.agg #[.int .u64 (an : Int), .int .u64 (am : Int), .int .u64 (al : Int), .int .u64 (ah : Int)], .int .u64 18442240474082181120] W fun e w' => e = .returned (.agg #[.int .u64 (gn : Int), .int .u64 (gm : Int), .int .u64 (gl : Int), .int .u64 (gh : Int)]) ∧ Below W.heap.size W w') := gadd_at (x := 18442240474082181120) wf0 (by decide) h1
        have A4 : Hid (∀ W : World, Calls Try.prog 14 #[.agg #[.int .u64 (gn : Int), .int .u64 (gm : Int), .int .u64 (gl : Int), .int .u64 (gh : Int)], .int .u64 9218868437227405312] W fun e w' => e = .returned (.agg #[.int .u64 (d : Int), .int .u64 (am : Int), .int .u64 18442240474082181120, .int .u64 9218868437227405312]) ∧ Below W.heap.size W w') := gadd_at (x := 9218868437227405312) (l := 18442240474082181120) (h := 9218868437227405312) ok1.1 (by decide) hx
        have A5 : Hid (∀ W : World, Calls Try.prog 14 #[.agg #[.int .u64 (d : Int), .int .u64 (am : Int), .int .u64 18442240474082181120, .int .u64 9218868437227405312], .int .u64 (b : Int)] W fun e w' => e = .returned (.agg #[.int .u64 (yn : Int), .int .u64 (ym : Int), .int .u64 18442240474082181120, .int .u64 9218868437227405312]) ∧ Below W.heap.size W w') := gadd_at (al := 18442240474082181120) (ah := 9218868437227405312) (l := 18442240474082181120) (h := 9218868437227405312) ok2.1 hb hy
        have A6 := Lib.hid (gadd_at wf0 hq1 hn')
        have x23a : ∀ W : World, (callFunc 22 #[.float .f64 18442240474082181120]).run Try.prog W = .ok (.value (.int .u64 18442240474082181120)) W := fun W => run_tobits 18442240474082181120 W
        have x23b : ∀ W : World, (callFunc 22 #[.float .f64 9218868437227405312]).run Try.prog W = .ok (.value (.int .u64 9218868437227405312)) W := fun W => run_tobits 9218868437227405312 W
        have t1 : decide ((9223372036854775808 : Int) < (an : Int)) = false := by rw [decide_eq_false_iff_not]; omega
        have t2 : decide ((9223372036854775808 : Int) < (am : Int)) = false := by rw [decide_eq_false_iff_not]; omega
        clear hshort hca wf0 hn1 hm1 hok hx ok1 ok2 h1 hy hq1 hq2 hr hn' hd hc
        show Calls Try.prog 9 #[.agg #[.int .u64 (an : Int), .int .u64 (am : Int), .int .u64 (al : Int), .int .u64 (ah : Int)], .int .u64 (b : Int)] w _
        go_enter Try.func9, Try.ntmps9
        go_wp2_with fail
        refine (A2.out _).mono ?_
        rintro e w1 ⟨rfl, hb1⟩
        have ga := Lib.hid ((GB.new w an am al ah).below hb1)
        have hb0 : Below w.heap.size w w1 := (below_new w _).trans (hb1.mono (by simp))
        obtain ⟨p0, p1, p2, p3⟩ := ga.out.cells
        clear hb1
        go_wp2_with (first | (go_at_call 23; (with_reducible refine (inf_lo _).mono ?_); rintro e w' ⟨rfl, rfl⟩) | (go_at_call 23; (with_reducible refine (inf_hi _).mono ?_); rintro e w' ⟨rfl, rfl⟩))
        refine (A3.out _).mono ?_
        rintro e w2 ⟨rfl, hb2⟩
        clear p0 p1 p2 p3
        have gb := Lib.hid (ga.out.below hb2)
        have hb3 := below_then hb0 hb2
        clear ga hb0 hb2
        go_wp2_with fail
        refine (A4.out _).mono ?_
        rintro e w4 ⟨rfl, hb4⟩
        have gc := Lib.hid (gb.out.below hb4)
        have hb5 := below_then hb3 hb4
        have hs5 := gc.out.lt
        clear gb hb3 hb4
        go_wp2_with fail
        refine (A5.out _).mono ?_
        rintro e w6 ⟨rfl, hb6⟩
        have gd := Lib.hid ((gc.out.alloc (.cells #[.int .u64 (d : Int), .int .u64 (am : Int), .int .u64 18442240474082181120, .int .u64 9218868437227405312] 24)).below hb6)
        have gx := Lib.hid ((GB.new w4 d am 18442240474082181120 9218868437227405312).below hb6)
        have hb7 : Below w.heap.size w w6 := (hb5.alloc hb5.size _).trans (hb6.mono (by have := hb5.size; simp; omega))
        obtain ⟨p0, p1, p2, p3⟩ := gd.out.cells
        obtain ⟨q0, q1, q2, q3⟩ := gx.out.cells
        have hsd := gd.out.lt
        have hsx := gx.out.lt
        have GC := Lib.hid gc.out
        clear gc hb5 hb6 hs5
        go_wp2_with fail
        refine (A6.out _).mono ?_
        rintro e w8 ⟨rfl, hb8⟩
        clear p0 p1 p2 p3 q0 q1 q2 q3
        have ge := Lib.hid ((gd.out.alloc (.cells #[.int .u64 (yn : Int), .int .u64 (ym : Int), .int .u64 18442240474082181120, .int .u64 9218868437227405312] 24)).below hb8)
        have hb9 : Below w.heap.size w w8 := (hb7.alloc hb7.size _).trans (hb8.mono (by have := hb7.size; simp; omega))
        obtain ⟨p0, p1, p2, p3⟩ := ge.out.cells
        have hse := ge.out.lt
        clear hb7 hb8 gd gx hsd hsx GC
        go_wp2_with fail
        refine (awake_any _).mono ?_
        rintro e wz ⟨rfl, hbz⟩
        go_wp2
        go_ret
        exact ⟨rfl, (hb9.alloc hb9.size _).trans (hbz.mono (by have := hb9.size; simp; omega))⟩
end Go.Proofs.Yteohmcjclmaanaa
