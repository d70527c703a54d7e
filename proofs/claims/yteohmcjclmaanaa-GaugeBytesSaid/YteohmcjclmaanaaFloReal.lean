/- Go's own floats: which of two is less or equal, in the words of their bits. No program in sight. -/
import Derived.Test.YteohmcjclmaanaaFloLaw
namespace Go.Proofs.Yteohmcjclmaanaa
set_option linter.unusedVariables false
set_option linter.unusedSimpArgs false
open Ieee
def zeroB (b : Nat) : Bool := decide (b = 0 ∨ b = 9223372036854775808)
theorem dbl_signWeight : double.signWeight = 9223372036854775808 := by decide
theorem dbl_binade : double.binade = 4503599627370496 := by decide
theorem dbl_infRung : double.infRung = 9218868437227405312 := by decide
theorem dbl_leastPlace : double.leastPlace = -1074 := by decide
theorem dbl_neg (b : Nat) (hb : b < 18446744073709551616) : (b / 9223372036854775808 % 2 == 1) = negB b := by
  unfold negB
  rw [Bool.eq_iff_iff, beq_iff_eq, decide_eq_true_eq]
  omega
theorem read_num (b : Nat) (hb : b < 18446744073709551616) (h : b % 9223372036854775808 < 9218868437227405312) :
    ∃ m k : Nat, double.read b = .number (negB b) m (-1074 + (k : Int)) ∧ magN (b % 9223372036854775808) = m * 2 ^ k ∧ (m = b % 9223372036854775808 ∧ k = 0 ∧ m < 4503599627370496 ∨ 4503599627370496 ≤ m ∧ m < 9007199254740992 ∧ b % 9223372036854775808 = k * 4503599627370496 + m) := by
  unfold Format.read
  simp only [dbl_signWeight, dbl_binade, dbl_infRung, dbl_leastPlace]
  rw [dbl_neg b hb]
  generalize b % 9223372036854775808 = r at *
  by_cases h1 : r < 4503599627370496
  · refine ⟨r, 0, by rw [if_pos h1]; rfl, by unfold magN; rw [if_pos h1]; simp,   .inl ⟨rfl, rfl, h1⟩⟩
  · refine ⟨4503599627370496 + r % 4503599627370496, r / 4503599627370496 - 1, by rw [if_neg h1, if_pos h], by unfold magN; rw [if_neg h1], .inr ⟨by omega, by omega, by omega⟩⟩
theorem read_inf (b : Nat) (hb : b < 18446744073709551616) (h : b % 9223372036854775808 = 9218868437227405312) : double.read b = .infinity (negB b) := by
  unfold Format.read
  simp only [dbl_signWeight, dbl_binade, dbl_infRung, dbl_leastPlace]
  rw [dbl_neg b hb, h]
  rfl
theorem read_nan (b : Nat) (hb : b < 18446744073709551616) (h : nanB b = true) : ∃ f, double.read b = .nan (negB b) f := by
  rw [nan_bound b hb] at h
  unfold Format.read
  simp only [dbl_signWeight, dbl_binade, dbl_infRung, dbl_leastPlace]
  rw [dbl_neg b hb, if_neg (by omega), if_neg (by omega), if_neg (by omega)]
  exact ⟨_, rfl⟩
def sv (b : Nat) : Int := if 9223372036854775808 ≤ b then -(magN (b % 9223372036854775808) : Int) else (magN (b % 9223372036854775808) : Int)
theorem cmp_scaled (x y : Int) (c : Nat) (hc : 0 < c) : compare (x * (c : Int)) (y * (c : Int)) = compare x y := by
  have h1 : x * (c : Int) < y * (c : Int) ↔ x < y := Int.mul_lt_mul_right (by omega)
  have h2 : x * (c : Int) = y * (c : Int) ↔ x = y := by
    rw [Int.mul_eq_mul_right_iff (by omega)]
  show compareOfLessAndEq _ _ = compareOfLessAndEq _ _
  unfold compareOfLessAndEq
  simp only [h1, h2]
theorem signed_eq (s : Bool) (m up : Nat) : signed s m up = (if s then -((m * 2 ^ up : Nat) : Int) else ((m * 2 ^ up : Nat) : Int)) := by
  unfold signed
  rw [Nat.shiftLeft_eq]
theorem signed_scaled (s : Bool) (m k l : Nat) (h : l ≤ k) : signed s m (k - l) * ((2 ^ l : Nat) : Int) = (if s then -((m * 2 ^ k : Nat) : Int) else ((m * 2 ^ k : Nat) : Int)) := by
  rw [signed_eq]
  have e : m * 2 ^ (k - l) * 2 ^ l = m * 2 ^ k := by rw [Nat.mul_assoc, ← Nat.pow_add, Nat.sub_add_cancel h]
  cases s
  · simp only [Bool.false_eq_true, if_false]
    rw [← Int.natCast_mul, e]
  · simp only [if_true]
    rw [Int.neg_mul, ← Int.natCast_mul, e]
theorem sv_eq (b : Nat) : sv b = (if negB b then -((magN (b % 9223372036854775808) : Nat) : Int) else ((magN (b % 9223372036854775808) : Nat) : Int)) := by
  unfold sv negB
  simp only [decide_eq_true_eq]
theorem cmp_lt {x y : Int} (h : x < y) : compare x y = .lt := by
  show compareOfLessAndEq _ _ = _
  unfold compareOfLessAndEq
  rw [if_pos h]
theorem cmp_gt {x y : Int} (h : y < x) : compare x y = .gt := by
  show compareOfLessAndEq _ _ = _
  unfold compareOfLessAndEq
  rw [if_neg (by omega), if_neg (by omega)]
theorem cmp_eq (x : Int) : compare x x = .eq := by
  show compareOfLessAndEq _ _ = _
  unfold compareOfLessAndEq
  rw [if_neg (by omega), if_pos rfl]
theorem order_sv (a b : Nat) (ha : a < 18446744073709551616) (hb : b < 18446744073709551616) (na : nanB a = false) (nb : nanB b = false) : double.order a b = some (compare (sv a) (sv b)) := by
  rw [nan_false a ha] at na
  rw [nan_false b hb] at nb
  unfold Format.order
  by_cases ia : a % 9223372036854775808 = 9218868437227405312
  · by_cases ib : b % 9223372036854775808 = 9218868437227405312
    · rw [read_inf a ha ia, read_inf b hb ib, sv_eq, sv_eq, ia, ib]
      have hp : (0 : Int) < (magN 9218868437227405312 : Nat) := by
        have := mag_lt (show 0 < 9218868437227405312 by decide)
        omega
      generalize (magN 9218868437227405312 : Nat) = M at *
      show some (compare _ _) = _
      congr 1
      cases negB a <;> cases negB b <;> simp only [Bool.false_eq_true, if_false, if_true, Bool.toNat_false, Bool.toNat_true]
      · rw [cmp_eq]; rfl
      · rw [cmp_gt (by omega)]; rfl
      · rw [cmp_lt (by omega)]; rfl
      · rw [cmp_eq]; rfl
    · obtain ⟨m, k, hr, hm, _⟩ := read_num b hb (by omega)
      rw [read_inf a ha ia, hr, sv_eq, sv_eq, ia]
      have hp := mag_lt (show b % 9223372036854775808 < 9218868437227405312 by omega)
      generalize (magN 9218868437227405312 : Nat) = M at *
      generalize magN (b % 9223372036854775808) = M2 at *
      show some _ = _
      congr 1
      cases negB a <;> cases negB b <;> simp only [Bool.false_eq_true, if_false, if_true]
      · rw [cmp_gt (by omega)]
      · rw [cmp_gt (by omega)]
      · rw [cmp_lt (by omega)]
      · rw [cmp_lt (by omega)]
  · obtain ⟨m, k, hr, hm, _⟩ := read_num a ha (by omega)
    by_cases ib : b % 9223372036854775808 = 9218868437227405312
    · rw [read_inf b hb ib, hr, sv_eq, sv_eq, ib]
      have hp := mag_lt (show a % 9223372036854775808 < 9218868437227405312 by omega)
      generalize (magN 9218868437227405312 : Nat) = M at *
      generalize magN (a % 9223372036854775808) = M2 at *
      show some _ = _
      congr 1
      cases negB a <;> cases negB b <;> simp only [Bool.false_eq_true, if_false, if_true]
      · rw [cmp_lt (by omega)]
      · rw [cmp_gt (by omega)]
      · rw [cmp_lt (by omega)]
      · rw [cmp_gt (by omega)]
    · obtain ⟨n, l, hr2, hm2, _⟩ := read_num b hb (by omega)
      rw [hr, hr2, sv_eq, sv_eq, hm, hm2]
      show some (compare (signed _ m _) (signed _ n _)) = _
      congr 1
      rw [show (-1074 + (k : Int) - min (-1074 + (k : Int)) (-1074 + (l : Int))).toNat = k - min k l by omega,
        show (-1074 + (l : Int) - min (-1074 + (k : Int)) (-1074 + (l : Int))).toNat = l - min k l by omega,
        ← cmp_scaled _ _ (2 ^ min k l) (Nat.two_pow_pos _), signed_scaled _ _ _ _ (Nat.min_le_left _ _), signed_scaled _ _ _ _ (Nat.min_le_right _ _)]
theorem order_nan (a b : Nat) (ha : a < 18446744073709551616) (hb : b < 18446744073709551616) (h : nanB a = true ∨ nanB b = true) : double.order a b = none := by
  unfold Format.order
  rcases h with h | h
  · obtain ⟨f, hf⟩ := read_nan a ha h
    rw [hf]
    rfl
  · obtain ⟨f, hf⟩ := read_nan b hb h
    rw [hf]
    cases double.read a <;> rfl
theorem sv_lt (a b : Nat) (ha : a < 18446744073709551616) (hb : b < 18446744073709551616) : sv a < sv b ↔ keyN a < keyN b ∧ ¬ (a = 9223372036854775808 ∧ b = 0) := by
  have z : magN 0 = 0 := by decide
  have m1 := mag_lt_iff (a % 9223372036854775808) (b % 9223372036854775808)
  have m2 := mag_lt_iff (b % 9223372036854775808) (a % 9223372036854775808)
  have m3 := mag_lt_iff 0 (a % 9223372036854775808)
  have m4 := mag_lt_iff 0 (b % 9223372036854775808)
  rw [z] at m3 m4
  unfold sv keyN
  split <;> split <;> omega
theorem sv_eq_iff (a b : Nat) (ha : a < 18446744073709551616) (hb : b < 18446744073709551616) : sv a = sv b ↔ a = b ∨ (zeroB a = true ∧ zeroB b = true) := by
  have h1 := sv_lt a b ha hb
  have h2 := sv_lt b a hb ha
  have h3 : keyN a = keyN b ↔ a = b := by
    constructor
    · intro h
      have := congrArg ofN h
      rwa [of_key a ha, of_key b hb] at this
    · rintro rfl; rfl
  have e1 : keyN 0 = 9223372036854775808 := by decide
  have e2 : keyN 9223372036854775808 = 9223372036854775807 := by decide
  unfold zeroB
  simp only [decide_eq_true_eq]
  constructor
  · intro h
    by_cases e : a = b
    · exact .inl e
    · have : keyN a ≠ keyN b := fun hh => e (h3.1 hh)
      right
      omega
  · rintro (rfl | ⟨rfl | rfl, rfl | rfl⟩)
    · rfl
    · rfl
    · rw [e1, e2] at *; omega
    · rw [e1, e2] at *; omega
    · rfl
theorem order_lt (a b : Nat) (ha : a < 18446744073709551616) (hb : b < 18446744073709551616) : (double.order a b == some .lt) = (lessB a b && !(zeroB a && zeroB b)) := by
  rw [Bool.eq_iff_iff, Bool.and_eq_true, less_iff]
  rcases na : nanB a with _ | _
  · rcases nb : nanB b with _ | _
    · rw [order_sv a b ha hb na nb]
      have h1 := sv_lt a b ha hb
      have h2 := sv_eq_iff a b ha hb
      have e : (some (compare (sv a) (sv b)) == some Ordering.lt) = true ↔ sv a < sv b := by
        rcases Int.lt_trichotomy (sv a) (sv b) with h | h | h
        · rw [cmp_lt h]; simp [h]
        · rw [h, cmp_eq]; simp
        · rw [cmp_gt h]; simp; omega
      rw [e, h1]
      simp only [zeroB, Bool.not_eq_true', Bool.and_eq_false_iff, decide_eq_false_iff_not]
      unfold keyN
      constructor
      · rintro ⟨h3, h4⟩
        refine ⟨⟨trivial, trivial, h3⟩, ?_⟩
        split at h3 <;> split at h3 <;> omega
      · rintro ⟨⟨_, _, h3⟩, h4⟩
        exact ⟨h3, by omega⟩
    · rw [order_nan a b ha hb (.inr nb)]; simp
  · rw [order_nan a b ha hb (.inl na)]; simp
theorem order_eq (a b : Nat) (ha : a < 18446744073709551616) (hb : b < 18446744073709551616) : (double.order a b == some .eq) = (!nanB a && !nanB b && (decide (a = b) || (zeroB a && zeroB b))) := by
  rw [Bool.eq_iff_iff]
  rcases na : nanB a with _ | _
  · rcases nb : nanB b with _ | _
    · rw [order_sv a b ha hb na nb]
      have h2 := sv_eq_iff a b ha hb
      have e : (some (compare (sv a) (sv b)) == some Ordering.eq) = true ↔ sv a = sv b := by
        rcases Int.lt_trichotomy (sv a) (sv b) with h | h | h
        · rw [cmp_lt h]; simp; omega
        · rw [h, cmp_eq]; simp
        · rw [cmp_gt h]; simp; omega
      rw [e, h2]
      simp
    · rw [order_nan a b ha hb (.inr nb)]; simp
  · rw [order_nan a b ha hb (.inl na)]; simp
theorem order_gt (a b : Nat) (ha : a < 18446744073709551616) (hb : b < 18446744073709551616) : (double.order a b == some .gt) = (lessB b a && !(zeroB b && zeroB a)) := by
  rw [← order_lt b a hb ha, Bool.eq_iff_iff]
  rcases na : nanB a with _ | _
  · rcases nb : nanB b with _ | _
    · rw [order_sv a b ha hb na nb, order_sv b a hb ha nb na]
      rcases Int.lt_trichotomy (sv a) (sv b) with h | h | h
      · rw [cmp_lt h, cmp_gt h]; simp
      · rw [h, cmp_eq]; simp
      · rw [cmp_gt h, cmp_lt h]; simp
    · rw [order_nan a b ha hb (.inr nb), order_nan b a hb ha (.inl nb)]; simp
  · rw [order_nan a b ha hb (.inl na), order_nan b a hb ha (.inr na)]; simp
/-- what is NaN -/
theorem order_self (a : Nat) (ha : a < 18446744073709551616) : (double.order a a != some .eq) = nanB a := by
  show (!(double.order a a == some .eq)) = nanB a
  rw [order_eq a a ha ha]
  cases nanB a <;> simp
end Go.Proofs.Yteohmcjclmaanaa
