/- The nearest float of a number, and sums, in the words of their bits. No program in sight. -/
import Derived.Test.YtmkobcheemgofaaFloReal
namespace Go.Proofs.Ytmkobcheemgofaa
set_option linter.unusedVariables false
set_option linter.unusedSimpArgs false
open Ieee
def rnd (v k : Nat) : Nat := v / 2 ^ k + (if 2 ^ k < 2 * (v % 2 ^ k) ∨ (2 ^ k = 2 * (v % 2 ^ k) ∧ v / 2 ^ k % 2 = 1) then 1 else 0)
def keptN (v : Nat) : Nat := if v.log2 ≤ 52 then v * 2 ^ (52 - v.log2) else rnd v (v.log2 - 52)
def fromN (v : Nat) : Nat := if v = 0 then 0 else (v.log2 + 1022) * 4503599627370496 + keptN v
theorem cut_even (s : Bool) (n drop : Nat) (h : drop ≤ n.log2 + 2) : Toward.even.cut s n drop = rnd n drop := by
  unfold Toward.cut rnd
  simp only [Nat.min_eq_left h, Nat.shiftLeft_eq, Nat.one_mul]
  congr 1
  by_cases h1 : 2 ^ drop < 2 * (n % 2 ^ drop)
  · simp [h1]
  · by_cases h2 : 2 ^ drop = 2 * (n % 2 ^ drop) ∧ n / 2 ^ drop % 2 = 1
    · simp [h2.1.symm, h2.2]
    · rw [if_neg (by omega)]
      simp only [h1, decide_false, Bool.false_or]
      rw [Bool.toNat_eq_zero, Bool.and_eq_false_iff, beq_eq_false_iff_ne, beq_eq_false_iff_ne]
      omega
theorem rnd_exact (m k : Nat) : rnd (m * 2 ^ k) k = m := by
  unfold rnd
  have h0 : 0 < 2 ^ k := Nat.two_pow_pos _
  rw [Nat.mul_div_cancel _ h0, Nat.mul_mod_left, if_neg (by omega), Nat.add_zero]
theorem rnd_zero (m : Nat) : rnd m 0 = m := by
  have := rnd_exact m 0
  simpa using this
theorem kept_bd (v : Nat) (h : v ≠ 0) : 4503599627370496 ≤ keptN v ∧ keptN v ≤ 9007199254740992 ∧ (v.log2 ≤ 52 → keptN v < 9007199254740992) := by
  have h1 := Nat.log2_self_le h
  have h2 := @Nat.lt_log2_self v
  unfold keptN
  split
  · rename_i hl
    have e1 : 2 ^ v.log2 * 2 ^ (52 - v.log2) = 2 ^ 52 := by rw [← Nat.pow_add]; congr 1; omega
    have e2 : 2 ^ (v.log2 + 1) * 2 ^ (52 - v.log2) = 2 ^ 53 := by rw [← Nat.pow_add]; congr 1; omega
    have h3 : 2 ^ v.log2 * 2 ^ (52 - v.log2) ≤ v * 2 ^ (52 - v.log2) := Nat.mul_le_mul_right _ h1
    have h4 : v * 2 ^ (52 - v.log2) < 2 ^ (v.log2 + 1) * 2 ^ (52 - v.log2) := Nat.mul_lt_mul_of_pos_right h2 (Nat.two_pow_pos _)
    rw [e1] at h3
    rw [e2] at h4
    omega
  · rename_i hl
    have e1 : 2 ^ v.log2 = 2 ^ 52 * 2 ^ (v.log2 - 52) := by rw [← Nat.pow_add]; congr 1; omega
    have e2 : 2 ^ (v.log2 + 1) = 2 ^ (v.log2 - 52) * 2 ^ 53 := by rw [← Nat.pow_add]; congr 1; omega
    rw [e1] at h1
    rw [e2] at h2
    have h3 : 2 ^ 52 ≤ v / 2 ^ (v.log2 - 52) := (Nat.le_div_iff_mul_le (Nat.two_pow_pos _)).2 h1
    have h4 : v / 2 ^ (v.log2 - 52) < 2 ^ 53 := Nat.div_lt_of_lt_mul h2
    unfold rnd
    split <;> omega
theorem log2_lt64 (v : Nat) (h : v < 18446744073709551616) : v.log2 < 64 := by
  rcases Nat.eq_zero_or_pos v with h0 | h0
  · subst h0; decide
  · rw [Nat.log2_lt (by omega)]; omega
theorem nearest_nat (v : Nat) (hv : v < 18446744073709551616) : double.nearest false v 0 = fromN v := by
  unfold Format.nearest fromN
  by_cases h : v = 0
  · subst h; rfl
  · rw [if_neg h, if_neg h]
    have hl := log2_lt64 v hv
    have hk := kept_bd v h
    simp only [dbl_leastPlace, dbl_binade, dbl_infRung, show (double.fractionBits : Int) = 52 from rfl]
    have hlast : max ((0 : Int) + (v.log2 : Int) - 52) (-1074) = (v.log2 : Int) - 52 := by omega
    rw [hlast]
    have hc : Toward.even.cut false (v <<< ((0 : Int) - ((v.log2 : Int) - 52)).toNat) ((v.log2 : Int) - 52 - 0).toNat = keptN v := by
      unfold keptN
      by_cases h52 : v.log2 ≤ 52
      · rw [if_pos h52, show ((0 : Int) - ((v.log2 : Int) - 52)).toNat = 52 - v.log2 by omega, show ((v.log2 : Int) - 52 - 0).toNat = 0 by omega, cut_even _ _ _ (by omega), rnd_zero, Nat.shiftLeft_eq]
      · rw [if_neg h52, show ((0 : Int) - ((v.log2 : Int) - 52)).toNat = 0 by omega, show ((v.log2 : Int) - 52 - 0).toNat = v.log2 - 52 by omega, Nat.shiftLeft_zero, cut_even _ _ _ (by omega)]
    rw [hc, show ((v.log2 : Int) - 52 - (-1074)).toNat = v.log2 + 1022 by omega]
    unfold Format.word
    rw [if_neg (by simp)]
    omega
theorem from_float (v : Nat) (hv : v < 18446744073709551616) : floatOfInt .f64 (v : Int) = fromN v := by
  rw [← nearest_nat v hv]
  show double.write (.number (decide ((v : Int) < 0)) (v : Int).natAbs 0) = _
  rw [show decide ((v : Int) < 0) = false by rw [decide_eq_false_iff_not]; omega, Int.natAbs_natCast]
  rfl
theorem from_bd (v : Nat) (hv : v < 18446744073709551616) : fromN v < 9218868437227405312 := by
  unfold fromN
  split
  · omega
  · rename_i h
    have hl := log2_lt64 v hv
    have hk := kept_bd v h
    omega
theorem rnd_mono (v w k : Nat) (h : v ≤ w) : rnd v k ≤ rnd w k := by
  have hd : v / 2 ^ k ≤ w / 2 ^ k := Nat.div_le_div_right h
  have ev := Nat.div_add_mod v (2 ^ k)
  have ew := Nat.div_add_mod w (2 ^ k)
  unfold rnd
  rcases Nat.lt_or_ge (v / 2 ^ k) (w / 2 ^ k) with h1 | h1
  · split <;> split <;> omega
  · have e : v / 2 ^ k = w / 2 ^ k := by omega
    rw [e] at ev ⊢
    have hm : v % 2 ^ k ≤ w % 2 ^ k := by omega
    clear ev ew
    split <;> split <;> omega
theorem log2_mono (v w : Nat) (h0 : v ≠ 0) (h : v ≤ w) : v.log2 ≤ w.log2 := by
  rw [Nat.le_log2 (by omega)]
  exact Nat.le_trans (Nat.log2_self_le h0) h
theorem from_mono (v w : Nat) (h : v ≤ w) : fromN v ≤ fromN w := by
  unfold fromN
  by_cases h0 : v = 0
  · rw [if_pos h0]; exact Nat.zero_le _
  · rw [if_neg h0, if_neg (show w ≠ 0 by omega)]
    have hl := log2_mono v w h0 h
    have kv := kept_bd v h0
    have kw := kept_bd w (by omega)
    rcases Nat.lt_or_ge v.log2 w.log2 with h1 | h1
    · omega
    · have e : v.log2 = w.log2 := by omega
      have : keptN v ≤ keptN w := by
        unfold keptN
        rw [e]
        split
        · exact Nat.mul_le_mul_right _ h
        · exact rnd_mono _ _ _ h
      omega
/-- FloWhole's first half -/
theorem from_whole (v : Nat) (h : v ≤ 9007199254740992) : unitsN (fromN v) 0 = (v, 0) := by
  rcases Nat.eq_or_lt_of_le h with rfl | hlt
  · decide +kernel
  · by_cases h0 : v = 0
    · subst h0; decide +kernel
    · have hl : v.log2 < 53 := by rw [Nat.log2_lt h0]; omega
      have hk := kept_bd v h0
      have hk3 := hk.2.2 (by omega)
      have hfb := from_bd v (by omega)
      have hb : fromN v = (v.log2 + 1022) * 4503599627370496 + keptN v := by unfold fromN; rw [if_neg h0]
      obtain ⟨n, hn⟩ : ∃ n, n = 1074 := ⟨_, rfl⟩
      have hm : magN (fromN v) = v * 2 ^ n := by
        unfold magN
        rw [if_neg (by omega), hb, show ((v.log2 + 1022) * 4503599627370496 + keptN v) / 4503599627370496 - 1 = v.log2 + 1022 by omega,
          show 4503599627370496 + ((v.log2 + 1022) * 4503599627370496 + keptN v) % 4503599627370496 = keptN v by omega]
        unfold keptN
        rw [if_pos (by omega), Nat.mul_assoc, ← Nat.pow_add, show 52 - v.log2 + (v.log2 + 1022) = n by omega]
      have hs : scaled (magN (fromN v)) (clampI 0 - 1074) = v := by
        rw [hm]
        unfold scaled
        rw [if_neg (by decide), show (-(clampI 0 - 1074)).toNat = n by rw [hn]; decide]
        exact Nat.mul_div_cancel _ (Nat.two_pow_pos _)
      unfold unitsN
      rw [hs, if_neg (by rw [nan_bound _ (by omega)]; omega), if_neg (by omega), if_neg (by omega), if_neg (by omega), if_neg (by omega)]
/-! ### sums -/
theorem sum_comm (d e : Datum) : d.sum e = e.sum d := by
  cases d <;> cases e <;> simp only [Datum.sum]
  · rename_i s m i t n j
    rw [Int.min_comm j i, Int.add_comm (signed t n _), Bool.and_comm t s]
  · rename_i s t
    cases s <;> cases t <;> simp
theorem fadd_comm (a b : Nat) : double.add a b = double.add b a := by
  unfold Format.add
  rw [sum_comm]
theorem mir_neg (b : Nat) (hb : b < 18446744073709551616) : negB (mirN b) = !negB b := by
  unfold negB mirN
  rw [Bool.eq_iff_iff]
  simp
  split <;> omega
theorem mir_rung (b : Nat) (hb : b < 18446744073709551616) : mirN b % 9223372036854775808 = b % 9223372036854775808 := by
  unfold mirN
  split <;> omega
theorem read_mir (b : Nat) (hb : b < 18446744073709551616) : double.read (mirN b) = (double.read b).opposite := by
  unfold Format.read
  simp only [dbl_signWeight, dbl_binade, dbl_infRung, dbl_leastPlace]
  rw [dbl_neg b hb, dbl_neg _ (mir_lt b hb), mir_neg b hb, mir_rung b hb]
  split
  · rfl
  · split
    · rfl
    · split <;> rfl
theorem signed_opp (s : Bool) (m k : Nat) : signed s m k + signed (!s) m k = 0 := by
  unfold signed
  cases s <;> simp <;> omega
/-- what is neither NaN nor infinite -/
def finB (b : Nat) : Bool := decide (b % 9223372036854775808 < 9218868437227405312)
theorem fin_kind (b : Nat) (hb : b < 18446744073709551616) : finB b = true ↔ ¬ (kindN b = 4 ∨ kindN b = 3) := by
  have hn := nan_bound b hb
  rw [← kind_nan_iff] at hn
  have h3 : kindN b = 3 ↔ expN b = 2047 ∧ fracN b = 0 := by
    unfold kindN
    by_cases h1 : expN b = 2047 <;> by_cases h2 : 0 < fracN b <;> by_cases h3 : 0 < expN b <;> simp [h1, h2, h3] <;> omega
  have h4 : kindN b = 4 ↔ expN b = 2047 ∧ 0 < fracN b := by
    unfold kindN
    by_cases h1 : expN b = 2047 <;> by_cases h2 : 0 < fracN b <;> by_cases h3 : 0 < expN b <;> simp [h1, h2, h3] <;> omega
  rw [h3, h4]
  unfold finB expN fracN
  rw [decide_eq_true_eq]
  omega
theorem add_cancel (b : Nat) (hb : b < 18446744073709551616) (h : finB b = true) : double.add b (mirN b) = some 0 := by
  unfold finB at h
  rw [decide_eq_true_eq] at h
  obtain ⟨m, k, hr, _, _⟩ := read_num b hb h
  unfold Format.add
  rw [read_mir b hb, hr]
  simp only [Datum.opposite, Datum.sum, signed_opp, if_true, Bool.and_not_self, Option.map_some, Int.natAbs_zero]
  rfl
theorem add_cancel_bad (b : Nat) (hb : b < 18446744073709551616) (h : finB b = false) : double.add b (mirN b) = none := by
  unfold finB at h
  rw [decide_eq_false_iff_not] at h
  unfold Format.add
  rw [read_mir b hb]
  by_cases hi : b % 9223372036854775808 = 9218868437227405312
  · rw [read_inf b hb hi]
    cases negB b <;> rfl
  · obtain ⟨f, hf⟩ := read_nan b hb (by rw [nan_bound b hb]; omega)
    rw [hf]
    rfl
theorem nearest_back (s : Bool) (m k : Nat) (h0 : m ≠ 0) (h : k = 0 ∧ m < 4503599627370496 ∨ 4503599627370496 ≤ m ∧ m < 9007199254740992 ∧ k * 4503599627370496 + m < 9218868437227405312) :
    double.nearest s (m <<< k) (-1074) = double.word s (k * 4503599627370496 + m) := by
  have hp : 0 < 2 ^ k := Nat.two_pow_pos _
  have hmk : m * 2 ^ k ≠ 0 := Nat.mul_ne_zero h0 (by omega)
  unfold Format.nearest
  rw [Nat.shiftLeft_eq, if_neg hmk]
  simp only [dbl_leastPlace, dbl_binade, dbl_infRung, show (double.fractionBits : Int) = 52 from rfl]
  rcases h with ⟨rfl, hm⟩ | ⟨h1, h2, h3⟩
  · have hl : m.log2 < 52 := by rw [Nat.log2_lt h0]; omega
    rw [Nat.pow_zero, Nat.mul_one, show max ((-1074 : Int) + (m.log2 : Int) - 52) (-1074) = -1074 by omega]
    rw [show ((-1074 : Int) - -1074).toNat = 0 by decide, cut_even _ _ _ (by omega), rnd_zero, Nat.shiftLeft_zero]
    congr 1
    omega
  · have hl : (m * 2 ^ k).log2 = 52 + k := by
      rw [Nat.log2_eq_iff hmk]
      constructor
      · rw [Nat.pow_add]
        exact Nat.mul_le_mul_right _ (by omega)
      · rw [show 52 + k + 1 = 53 + k by omega, Nat.pow_add]
        exact Nat.mul_lt_mul_of_pos_right (by omega) hp
    rw [hl, show max ((-1074 : Int) + ((52 + k : Nat) : Int) - 52) (-1074) = -1074 + (k : Int) by omega,
      show ((-1074 : Int) - (-1074 + (k : Int))).toNat = 0 by omega, show (-1074 + (k : Int) - -1074).toNat = k by omega, Nat.shiftLeft_zero, cut_even _ _ _ (by omega), rnd_exact]
    congr 1
    omega
/-- a nought added, but for the sign of noughts -/
theorem add_nought (b : Nat) (hb : b < 18446744073709551616) (h : finB b = true) : double.add b 9223372036854775808 = some b := by
  have hz : double.read 9223372036854775808 = .number true 0 (-1074) := by decide +kernel
  unfold finB at h
  rw [decide_eq_true_eq] at h
  obtain ⟨m, k, hr, _, hmk⟩ := read_num b hb h
  unfold Format.add
  rw [hz, hr]
  simp only [Datum.sum, Option.map_some]
  rw [show min (-1074 + (k : Int)) (-1074) = -1074 by omega, show (-1074 + (k : Int) - -1074).toNat = k by omega, show ((-1074 : Int) - -1074).toNat = 0 by decide]
  have e0 : signed true 0 0 = 0 := by decide
  rw [e0, Int.add_zero, Bool.and_true]
  have hw : double.word (negB b) (b % 9223372036854775808) = b := by
    unfold Format.word negB
    rw [dbl_signWeight]
    by_cases hs : 9223372036854775808 ≤ b
    · rw [if_pos (by simpa using hs)]; omega
    · rw [if_neg (by simpa using hs)]; omega
  congr 1
  by_cases hm : m = 0
  · subst hm
    have hs0 : signed (negB b) 0 k = 0 := by unfold signed; simp
    rw [hs0, if_pos rfl]
    have hb0 : b % 9223372036854775808 = 0 := by omega
    rw [hb0] at hw
    exact hw
  · have hs : signed (negB b) m k ≠ 0 ∧ (decide (signed (negB b) m k < 0) = negB b) ∧ (signed (negB b) m k).natAbs = m <<< k := by
      have hpos : 0 < m <<< k := by rw [Nat.shiftLeft_eq]; exact Nat.mul_pos (by omega) (Nat.two_pow_pos _)
      unfold signed
      cases negB b
      · refine ⟨?_, ?_, ?_⟩
        · simp only [Bool.false_eq_true, if_false]; omega
        · simp only [Bool.false_eq_true, if_false, decide_eq_false_iff_not]; omega
        · simp only [Bool.false_eq_true, if_false]; omega
      · refine ⟨?_, ?_, ?_⟩
        · simp only [if_true]; omega
        · simp only [if_true, decide_eq_true_eq]; omega
        · simp only [if_true]; omega
    rw [if_neg hs.1, hs.2.1, hs.2.2]
    show double.nearest _ _ _ = b
    rw [nearest_back _ m k hm (by omega), show k * 4503599627370496 + m = b % 9223372036854775808 by omega]
    exact hw
end Go.Proofs.Ytmkobcheemgofaa
