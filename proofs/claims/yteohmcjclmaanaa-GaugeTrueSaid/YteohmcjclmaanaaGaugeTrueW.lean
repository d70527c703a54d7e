/- What the statement on a gauge and Go's own floats comes to: the walk. -/
import Derived.Test.YteohmcjclmaanaaGaugeNums
import Derived.Deep.Cut
namespace Go.Proofs.Yteohmcjclmaanaa
set_option linter.unusedVariables false
set_option linter.unusedSimpArgs false
open Go.RowKit
/-! ### the plain law -/
theorem ok_add_all3 {xs : List Nat} (hx : ∀ n ∈ xs, n < 18446744073709551616) : ∀ j, okG (addAll zeroG (xs.take j)) := fun j =>
  ok_add_all ok_zero _ fun x hxj => hx x (List.mem_of_mem_take hxj)
/-- the same float, but for the sign of noughts -/
def eqv (a b : Nat) : Prop := a = b ∨ zeroB a = true ∧ zeroB b = true
def ltF (a b : Nat) : Bool := lessB a b && !(zeroB a && zeroB b)
theorem lt_eqv {x a b : Nat} (hx : real x) (ha : real a) (hb : real b) (h : eqv a b) : eqv (if ltF x a = true then x else a) (minF b x) := by
  have e1 := less_real hx ha
  have e2 := less_real hx hb
  have zk : ∀ y, real y → zeroB y = true → keyN y = 9223372036854775808 ∨ keyN y = 9223372036854775807 := by
    intro y hy hz
    unfold zeroB at hz
    rw [decide_eq_true_eq] at hz
    rcases hz with rfl | rfl
    · left; decide
    · right; decide
  have kz : ∀ y, real y → (keyN y = 9223372036854775808 ∨ keyN y = 9223372036854775807) → zeroB y = true := by
    intro y hy hk
    unfold zeroB
    rw [decide_eq_true_eq]
    unfold keyN at hk
    have := hy.1
    split at hk <;> omega
  unfold ltF minF
  rcases h with rfl | ⟨z1, z2⟩
  · by_cases l1 : lessB x a = true
    · rw [if_pos l1, l1, Bool.true_and]
      by_cases z : (zeroB x && zeroB a) = true
      · rw [z]
        rw [Bool.and_eq_true] at z
        exact .inr ⟨z.2, z.1⟩
      · simp only [Bool.not_eq_true] at z
        rw [z]
        exact .inl rfl
    · rw [if_neg l1]
      simp only [Bool.not_eq_true] at l1
      rw [l1]
      exact .inl rfl
  · by_cases zx : zeroB x = true
    · simp only [zx, z1, Bool.and_self, Bool.not_true, Bool.and_false, Bool.false_eq_true, if_false]
      right
      refine ⟨z1, ?_⟩
      split
      · exact zx
      · exact z2
    · have k1 := zk a ha z1
      have k2 := zk b hb z2
      have k3 : ¬ (keyN x = 9223372036854775808 ∨ keyN x = 9223372036854775807) := fun h' => zx (kz x hx h')
      have e3 : lessB x a = true ↔ lessB x b = true := by rw [e1, e2]; omega
      simp only [Bool.not_eq_true] at zx
      simp only [zx, Bool.false_and, Bool.not_false, Bool.and_true]
      by_cases l1 : lessB x a = true
      · rw [if_pos l1, if_pos (e3.1 l1)]
        exact .inl rfl
      · rw [if_neg l1, if_neg (fun h' => l1 (e3.2 h'))]
        exact .inr ⟨z1, z2⟩
theorem gt_eqv {x a b : Nat} (hx : real x) (ha : real a) (hb : real b) (h : eqv a b) : eqv (if ltF a x = true then x else a) (maxF b x) := by
  have e1 := less_real ha hx
  have e2 := less_real hb hx
  have zk : ∀ y, real y → zeroB y = true → keyN y = 9223372036854775808 ∨ keyN y = 9223372036854775807 := by
    intro y hy hz
    unfold zeroB at hz
    rw [decide_eq_true_eq] at hz
    rcases hz with rfl | rfl
    · left; decide
    · right; decide
  have kz : ∀ y, real y → (keyN y = 9223372036854775808 ∨ keyN y = 9223372036854775807) → zeroB y = true := by
    intro y hy hk
    unfold zeroB
    rw [decide_eq_true_eq]
    unfold keyN at hk
    have := hy.1
    split at hk <;> omega
  unfold ltF maxF
  rcases h with rfl | ⟨z1, z2⟩
  · by_cases l1 : lessB a x = true
    · rw [if_pos l1, l1, Bool.true_and]
      by_cases z : (zeroB a && zeroB x) = true
      · rw [z]
        rw [Bool.and_eq_true] at z
        exact .inr ⟨z.1, z.2⟩
      · simp only [Bool.not_eq_true] at z
        rw [z]
        exact .inl rfl
    · rw [if_neg l1]
      simp only [Bool.not_eq_true] at l1
      rw [l1]
      exact .inl rfl
  · by_cases zx : zeroB x = true
    · simp only [zx, z1, Bool.and_self, Bool.not_true, Bool.and_false, Bool.false_eq_true, if_false]
      right
      refine ⟨z1, ?_⟩
      split
      · exact zx
      · exact z2
    · have k1 := zk a ha z1
      have k2 := zk b hb z2
      have k3 : ¬ (keyN x = 9223372036854775808 ∨ keyN x = 9223372036854775807) := fun h' => zx (kz x hx h')
      have e3 : lessB a x = true ↔ lessB b x = true := by rw [e1, e2]; omega
      simp only [Bool.not_eq_true] at zx
      simp only [zx, Bool.and_false, Bool.not_false, Bool.and_true]
      by_cases l1 : lessB a x = true
      · rw [if_pos l1, if_pos (e3.1 l1)]
        exact .inl rfl
      · rw [if_neg l1, if_neg (fun h' => l1 (e3.2 h'))]
        exact .inr ⟨z1, z2⟩
theorem eqv_order {a b : Nat} (ha : real a) (hb : real b) (h : eqv b a) : (FloatKind.f64.format.order a b == some Ordering.eq) = true := by
  show (Ieee.double.order a b == some Ordering.eq) = true
  rw [order_eq a b ha.1 hb.1, ha.2, hb.2]
  rcases h with rfl | ⟨z1, z2⟩
  · simp
  · simp [z1, z2]
theorem lt_float (a b : Nat) (ha : a < 18446744073709551616) (hb : b < 18446744073709551616) : (FloatKind.f64.format.order a b == some Ordering.lt) = ltF a b := order_lt a b ha hb
theorem gt_float (a b : Nat) (ha : a < 18446744073709551616) (hb : b < 18446744073709551616) : (FloatKind.f64.format.order a b == some Ordering.gt) = ltF b a := order_gt a b ha hb
/-- what the statement keeps beside the gauge -/
structure Beside (g : G4) (j lo hi : Nat) : Prop where
  cnt : g.n ≤ j
  nan : g.nans ≤ j
  lo : g.n ≠ 0 → real lo ∧ eqv lo g.lo
  hi : g.n ≠ 0 → real hi ∧ eqv hi g.hi
theorem beside_nan {g : G4} {j lo hi x : Nat} (h : Beside g j lo hi) (hj : j ≤ 300) (hx : nanB x = true) : addG g x = ⟨g.n, g.nans + 1, g.lo, g.hi⟩ ∧ Beside (addG g x) (j + 1) lo hi := by
  have e : addG g x = ⟨g.n, g.nans + 1, g.lo, g.hi⟩ := by
    unfold addG
    rw [if_pos hx]
    have := h.nan
    have : satN g.nans 1 = g.nans + 1 := by unfold satN; rw [if_neg (by omega)]
    rw [this]
  refine ⟨e, ?_⟩
  rw [e]
  exact ⟨Nat.le_succ_of_le h.cnt, Nat.succ_le_succ h.nan, h.lo, h.hi⟩
theorem beside_one {g : G4} {j lo hi x : Nat} (h : Beside g j lo hi) (hg : okG g) (hj : j ≤ 300) (hx : real x) : ∃ l' h', addG g x = ⟨g.n + 1, g.nans, l', h'⟩ ∧
    Beside (addG g x) (j + 1) (if g.n = 0 then x else if ltF x lo = true then x else lo) (if g.n = 0 then x else if ltF hi x = true then x else hi) := by
  obtain ⟨n, m, l, hh⟩ := g
  obtain ⟨h1, h2, h3, h4⟩ := h
  obtain ⟨⟨g1, g2, g3, g4⟩, hq⟩ := hg
  simp only at h1 h2 h3 h4 g1 g2 g3 g4 hq ⊢
  have e1 : satN n 1 = n + 1 := by unfold satN; rw [if_neg (by omega)]
  have e2 : satN m 0 = m := sat_zero m g2
  have e : addG ⟨n, m, l, hh⟩ x = ⟨n + 1, m, if n = 0 then x else minF l x, if n = 0 then x else maxF hh x⟩ := by
    unfold addG
    rw [hx.2]
    simp only [Bool.false_eq_true, if_false, mergeG, oneG, e1, e2, Nat.reduceEqDiff]
  refine ⟨_, _, e, ?_⟩
  rw [e]
  by_cases hn : n = 0
  · simp only [hn, if_true]
    exact ⟨by simp, by simp; omega, fun _ => ⟨hx, .inl rfl⟩, fun _ => ⟨hx, .inl rfl⟩⟩
  · obtain ⟨q1, q2⟩ := h3 hn
    obtain ⟨q3, q4⟩ := h4 hn
    obtain ⟨r1, r2⟩ : real l ∧ real hh := by
      rcases hq with ⟨p, _⟩ | ⟨_, p1, p2, _⟩
      · exact absurd p hn
      · exact ⟨p1, p2⟩
    simp only [hn, if_false]
    refine ⟨by simp; omega, by simp; omega, fun _ => ⟨?_, lt_eqv hx q1 r1 q2⟩, fun _ => ⟨?_, gt_eqv hx q3 r2 q4⟩⟩
    · split
      · exact hx
      · exact q1
    · split
      · exact hx
      · exact q3
/-! ### the walk -/
set_option maxRecDepth 100000 in
set_option maxHeartbeats 3200000 in
theorem gaugeTrue_walk (A : Option Addr) (xs : List Nat) (c : Nat) (w : World) (hr : ReadsN w A xs) (hx : ∀ n ∈ xs, n < 18446744073709551616) (hc : xs.length ≤ c) (hcb : c * 8 ≤ 140737488351232) :
    Calls Try.prog 4 #[.slice A xs.length c] w fun e w' => e = .returned (.bool true) ∧ Below w.heap.size w w' := by
  have HR := Lib.hid hr
  have HX := Lib.hid hx
  have hlen : (xs.length : Int) ≤ 140737488351232 := by omega
  clear hr hx
  by_cases hbig : 300 < xs.length
  · have t1 : (300 : Int) < (xs.length : Int) := by omega
    go_enter Try.func4, Try.ntmps4
    go_wp2_with fail
    refine (awake_any _).mono ?_
    rintro e w1 ⟨rfl, hb1⟩
    go_wp2
    go_ret
    exact ⟨rfl, hb1⟩
  have t1 : (xs.length : Int) ≤ 300 := by omega
  have OK0 := Lib.hid (ok_add_all3 HX.out)
  have x32 := run_frombits
  clear hbig
  go_enter Try.func4, Try.ntmps4
  go_wp2
  go_loopw [4, 5, 6, 7, 8] (fun a b lo hi i wr => ∃ (j n m l h lov hiv : Nat), a = .int .i64 (n : Int) ∧ b = .int .i64 (m : Int) ∧ lo = .float .f64 lov ∧ hi = .float .f64 hiv ∧ i = .int .i64 (j : Int) ∧ j ≤ xs.length ∧ n ≤ 300 ∧ m ≤ 300 ∧ Hid (Beside ⟨n, m, l, h⟩ j lov hiv) ∧ Hid (addAll zeroG (xs.take j) = ⟨n, m, l, h⟩) ∧ Hid (GB wr w.heap.size n m l h) ∧ Hid (Below w.heap.size w wr)) (fun _ _ _ _ i _ => xs.length - (intOf i).toNat)
  case atStart => exact ⟨0, 0, 0, 0, 0, 0, 0, rfl, rfl, rfl, rfl, rfl, Nat.zero_le _, by omega, by omega, ⟨Nat.le_refl _, Nat.le_refl _, fun h => absurd rfl h, fun h => absurd rfl h⟩, rfl, GB.new _ 0 0 0 0, below_new _ _⟩
  case round =>
    obtain ⟨j, n, m, l, h, lov, hiv, rfl, rfl, rfl, rfl, rfl, hj, hn300, hm300, HBS, HS, HG, HW⟩ := hrel
    have okj := OK0.out j
    rw [HS.out] at okj
    have OKJ := Lib.hid okj
    clear okj
    by_cases hjl : j < xs.length
    · have hxj := getD_lt HX.out hjl
      have hstep := add_all_step zeroG hjl
      rw [HS.out] at hstep
      obtain ⟨x, hxx⟩ : ∃ x, xs.getD j 0 = x := ⟨_, rfl⟩
      obtain ⟨ad, hA, hcx⟩ := (HR.out.below HW.out).at hjl
      rw [hxx] at hxj hstep hcx
      have HXX := Lib.hid hxx
      clear hxx
      subst hA
      have i1 : (j : Int) < (xs.length : Int) := by omega
      obtain ⟨p0, p1, p2, p3⟩ := HG.out.cells
      rcases hn : nanB x with _ | _
      · have hb := beside_one HBS.out OKJ.out (by omega) ⟨hxj, hn⟩
        obtain ⟨l', h', hg', hbs⟩ := hb
        simp only at hg' hbs
        rw [hg'] at hbs hstep
        have hn1 : n + 1 ≤ 300 := by have := hbs.cnt; simp only at this; omega
        have HBS' := Lib.hid hbs
        have HS' := Lib.hid hstep
        have C1 := Lib.hid (gadd_at OKJ.out.1 hxj hg')
        have hlt := fun (h0 : n ≠ 0) => lt_float x lov hxj (HBS.out.lo h0).1.1
        have hgt := fun (h0 : n ≠ 0) => gt_float x hiv hxj (HBS.out.hi h0).1.1
        have hcase : ((n : Int) == 0) = true ∧ Hid (n = 0) ∨ ((n : Int) == 0) = false ∧ Hid (n ≠ 0) ∧ (FloatKind.f64.format.order x lov == some Ordering.lt) = ltF x lov ∧ (FloatKind.f64.format.order x hiv == some Ordering.gt) = ltF hiv x := by
          by_cases h0 : n = 0
          · exact .inl ⟨by rw [beq_iff_eq]; omega, h0⟩
          · exact .inr ⟨by rw [beq_eq_false_iff_ne]; omega, h0, hlt h0, hgt h0⟩
        clear hstep hg' hbs hlt hgt HBS HS
        obtain ⟨n1, hn11⟩ : ∃ n1, n + 1 = n1 := ⟨_, rfl⟩
        rw [hn11] at HS' C1 HBS' hn1
        have HN1 := Lib.hid hn11
        clear hn11
        rcases hcase with ⟨c1, HN⟩ | ⟨c1, HN, c2, c3⟩
        · rw [HN.out] at HBS'
          simp only [if_true] at HBS'
          go_wp2_with fail
          go_still_tail 5, (by kernel_rfl)
          go_wp2_with fail
          refine (C1.out _).mono ?_
          rintro e w4 ⟨rfl, hb6⟩
          replace hb6 := below_drew hb6
          clear p0 p1 p2 p3
          have gg := Lib.hid (HG.out.below hb6)
          have hb7 := below_then HW.out hb6
          obtain ⟨p0, p1, p2, p3⟩ := gg.out.cells
          obtain ⟨q0, q1, q2, q3⟩ := gg.out.marks
          clear hb6 HG HW hcx
          go_upto_region 10 with (fail)
          obtain ⟨w5, hw5⟩ : ∃ w5, w5 = set4 w4 w.heap.size n1 m l' h' := ⟨_, rfl⟩
          change Code.wp _ _ _ _ (set4 w4 w.heap.size n1 m l' h')
          rw [← hw5]
          have g5 : GB w5 w.heap.size n1 m l' h' := by rw [hw5]; exact gg.out.set4
          have hb8 : Below w.heap.size w w5 := by rw [hw5]; exact below_set4 hb7 (Nat.le_refl _)
          have G5 := Lib.hid g5
          clear p0 p1 p2 p3 q0 q1 q2 q3 hw5 g5 gg hb7
          obtain ⟨ad', hA', hcx⟩ := (HR.out.below hb8).at hjl
          rw [HXX.out] at hcx
          injection hA' with hA'
          subst hA'
          have HB8 := Lib.hid hb8
          clear hb8
          go_wp2_with (first | (go_at_call 16; (with_reducible refine (isnan_any x _ hxj).mono ?_); rintro e w' ⟨rfl, rfl⟩))
          go_roundw
          case rel => exact ⟨j + 1, n1, m, l', h', x, x, by have := HN1.out; subst this; go_num, rfl, rfl, rfl, by go_num, by omega, hn1, hm300, HBS'.out, HS'.out, G5.out, HB8.out⟩
          case measure => simp [intOf]; omega
        · have hbs2 := HBS'.out
          rw [if_neg HN.out, if_neg HN.out] at hbs2
          rcases f1 : ltF x lov with _ | _ <;> rcases f2 : ltF hiv x with _ | _
          all_goals
            rw [f1, f2] at hbs2
            simp only [Bool.false_eq_true, if_true, if_false] at hbs2
            have HB2 := Lib.hid hbs2
            clear hbs2 HBS'
            go_wp2_with fail
            go_still_tail 5, (by kernel_rfl)
            go_wp2_with fail
            refine (C1.out _).mono ?_
            rintro e w4 ⟨rfl, hb6⟩
            replace hb6 := below_drew hb6
            clear p0 p1 p2 p3
            have gg := Lib.hid (HG.out.below hb6)
            have hb7 := below_then HW.out hb6
            obtain ⟨p0, p1, p2, p3⟩ := gg.out.cells
            obtain ⟨q0, q1, q2, q3⟩ := gg.out.marks
            clear hb6 HG HW hcx
            go_upto_region 10 with (fail)
            obtain ⟨w5, hw5⟩ : ∃ w5, w5 = set4 w4 w.heap.size n1 m l' h' := ⟨_, rfl⟩
            change Code.wp _ _ _ _ (set4 w4 w.heap.size n1 m l' h')
            rw [← hw5]
            have g5 : GB w5 w.heap.size n1 m l' h' := by rw [hw5]; exact gg.out.set4
            have hb8 : Below w.heap.size w w5 := by rw [hw5]; exact below_set4 hb7 (Nat.le_refl _)
            have G5 := Lib.hid g5
            clear p0 p1 p2 p3 q0 q1 q2 q3 hw5 g5 gg hb7
            obtain ⟨ad', hA', hcx⟩ := (HR.out.below hb8).at hjl
            rw [HXX.out] at hcx
            injection hA' with hA'
            subst hA'
            have HB8 := Lib.hid hb8
            clear hb8
            go_wp2_with (first | (go_at_call 16; (with_reducible refine (isnan_any x _ hxj).mono ?_); rintro e w' ⟨rfl, rfl⟩))
            go_roundw
            case rel => exact ⟨j + 1, n1, m, l', h', _, _, by have := HN1.out; subst this; go_num, rfl, rfl, rfl, by go_num, by omega, hn1, hm300, HB2.out, HS'.out, G5.out, HB8.out⟩
            case measure => simp [intOf]; omega
      · obtain ⟨hg', hbs⟩ := beside_nan HBS.out (show j ≤ 300 by omega) hn
        simp only at hg'
        rw [hg'] at hbs hstep
        have hm1 : m + 1 ≤ 300 := by have := hbs.nan; simp only at this; omega
        obtain ⟨m1, hm11⟩ : ∃ m1, m + 1 = m1 := ⟨_, rfl⟩
        rw [hm11] at hstep hbs hm1 hg'
        have C1 := Lib.hid (gadd_at OKJ.out.1 hxj hg')
        have HBS' := Lib.hid hbs
        have HS' := Lib.hid hstep
        have HM1 := Lib.hid hm11
        clear hstep hg' hbs hm11 HBS HS
        go_wp2_with fail
        go_still_tail 5, (by kernel_rfl)
        go_wp2_with fail
        refine (C1.out _).mono ?_
        rintro e w4 ⟨rfl, hb6⟩
        replace hb6 := below_drew hb6
        clear p0 p1 p2 p3
        have gg := Lib.hid (HG.out.below hb6)
        have hb7 := below_then HW.out hb6
        obtain ⟨p0, p1, p2, p3⟩ := gg.out.cells
        obtain ⟨q0, q1, q2, q3⟩ := gg.out.marks
        clear hb6 HG HW hcx
        go_upto_region 10 with (fail)
        obtain ⟨w5, hw5⟩ : ∃ w5, w5 = set4 w4 w.heap.size n m1 l h := ⟨_, rfl⟩
        change Code.wp _ _ _ _ (set4 w4 w.heap.size n m1 l h)
        rw [← hw5]
        have g5 : GB w5 w.heap.size n m1 l h := by rw [hw5]; exact gg.out.set4
        have hb8 : Below w.heap.size w w5 := by rw [hw5]; exact below_set4 hb7 (Nat.le_refl _)
        have G5 := Lib.hid g5
        clear p0 p1 p2 p3 q0 q1 q2 q3 hw5 g5 gg hb7
        obtain ⟨ad', hA', hcx⟩ := (HR.out.below hb8).at hjl
        rw [HXX.out] at hcx
        injection hA' with hA'
        subst hA'
        have HB8 := Lib.hid hb8
        clear hb8
        go_wp2_with (first | (go_at_call 16; (with_reducible refine (isnan_any x _ hxj).mono ?_); rintro e w' ⟨rfl, rfl⟩))
        go_roundw
        case rel => exact ⟨j + 1, n, m1, l, h, lov, hiv, rfl, by have := HM1.out; subst this; go_num, rfl, rfl, by go_num, by omega, hn300, hm1, HBS'.out, HS'.out, G5.out, HB8.out⟩
        case measure => simp [intOf]; omega
    · obtain rfl : j = xs.length := by omega
      obtain ⟨p0, p1, p2, p3⟩ := HG.out.cells
      have hcase : ((n : Int) == 0) = true ∨ ((n : Int) == 0) = false ∧ (FloatKind.f64.format.order l lov == some Ordering.eq) = true ∧ (FloatKind.f64.format.order h hiv == some Ordering.eq) = true := by
        by_cases h0 : n = 0
        · exact .inl (by rw [beq_iff_eq]; omega)
        · obtain ⟨r1, r2⟩ : real l ∧ real h := by
            obtain ⟨_, hq | ⟨_, p1, p2, _⟩⟩ := OKJ.out
            · exact absurd hq.1 h0
            · exact ⟨p1, p2⟩
          exact .inr ⟨by rw [beq_eq_false_iff_ne]; omega, eqv_order r1 (HBS.out.lo h0).1 (HBS.out.lo h0).2, eqv_order r2 (HBS.out.hi h0).1 (HBS.out.hi h0).2⟩
      clear hjl hj HBS HS HG
      rcases hcase with c1 | ⟨c1, c2, c3⟩
      all_goals
        go_wp2_with fail
        refine (awake_any _).mono ?_
        rintro e w4 ⟨rfl, hb4⟩
        go_wp2
        go_ret
        exact ⟨rfl, below_then HW.out hb4⟩
end Go.Proofs.Yteohmcjclmaanaa
