/- Floats by their bits, as plain numbers: kinds, keys, order, the next one, whole units, the nearest one. No program in sight. -/
import Derived.Laws.FloatArith
namespace Go.Proofs.Yteohmcjclmaanaa
set_option linter.unusedVariables false
set_option linter.unusedSimpArgs false

def expN (b : Nat) : Nat := b / 4503599627370496 % 2048
def fracN (b : Nat) : Nat := b % 4503599627370496
def negB (b : Nat) : Bool := decide (9223372036854775808 ≤ b)
def kindN (b : Nat) : Nat :=
  if expN b = 2047 then (if 0 < fracN b then 4 else 3) else if 0 < expN b then 1 else if 0 < fracN b then 2 else 0
def keyN (b : Nat) : Nat := if 9223372036854775808 ≤ b then 18446744073709551615 - b else b + 9223372036854775808
def ofN (k : Nat) : Nat := if 9223372036854775808 ≤ k then k - 9223372036854775808 else 18446744073709551615 - k
def nanB (b : Nat) : Bool := decide (expN b = 2047 ∧ 0 < fracN b)
def lessB (a b : Nat) : Bool := !nanB a && !nanB b && decide (keyN a < keyN b)
def nextN (b : Nat) : Nat := if nanB b = true ∨ b = 9218868437227405312 then b else ofN (keyN b + 1)

theorem kind_le (b : Nat) : kindN b ≤ 4 := by
  unfold kindN
  repeat (first | (split) | omega)
theorem kind_nan (b : Nat) : (kindN b = 4) = (nanB b = true) := by
  unfold kindN nanB
  by_cases h1 : expN b = 2047 <;> by_cases h2 : 0 < fracN b <;> by_cases h3 : 0 < expN b <;> simp_all
theorem kind_nan_iff (b : Nat) : kindN b = 4 ↔ nanB b = true := by rw [kind_nan]
/-- the bits' own bounds -/
theorem nan_bound (b : Nat) (hb : b < 18446744073709551616) : nanB b = true ↔ (9218868437227405312 < b ∧ b < 9223372036854775808) ∨ 18442240474082181120 < b := by
  unfold nanB expN fracN
  rw [decide_eq_true_eq]
  omega
theorem nan_false (b : Nat) (hb : b < 18446744073709551616) : nanB b = false ↔ b ≤ 9218868437227405312 ∨ (9223372036854775808 ≤ b ∧ b ≤ 18442240474082181120) := by
  rw [← Bool.not_eq_true, nan_bound b hb]
  omega
theorem key_lt (b : Nat) (hb : b < 18446744073709551616) : keyN b < 18446744073709551616 := by unfold keyN; split <;> omega
theorem of_lt (b : Nat) (hb : b < 18446744073709551616) : ofN b < 18446744073709551616 := by unfold ofN; split <;> omega
theorem of_key (b : Nat) (hb : b < 18446744073709551616) : ofN (keyN b) = b := by unfold ofN keyN; split <;> split <;> omega
theorem key_of (b : Nat) (hb : b < 18446744073709551616) : keyN (ofN b) = b := by unfold ofN keyN; split <;> split <;> omega
theorem less_self (a : Nat) : lessB a a = false := by simp [lessB]
theorem less_asymm (a b : Nat) : (lessB a b && lessB b a) = false := by
  unfold lessB
  by_cases h : keyN a < keyN b
  · have : ¬ keyN b < keyN a := by omega
    simp [h, this]
  · simp [h]
theorem less_iff (a b : Nat) : lessB a b = true ↔ nanB a = false ∧ nanB b = false ∧ keyN a < keyN b := by
  unfold lessB
  simp [and_assoc]
theorem next_lt (b : Nat) (hb : b < 18446744073709551616) : nextN b < 18446744073709551616 := by
  unfold nextN
  split
  · exact hb
  · rename_i h
    rw [nan_bound b hb] at h
    unfold ofN keyN
    split <;> split <;> omega
theorem next_nan (b : Nat) (h : nanB b = true) : nextN b = b := by unfold nextN; rw [if_pos (.inl h)]
theorem next_key (b : Nat) (hb : b < 18446744073709551616) (hn : nanB b = false) (hi : b ≠ 9218868437227405312) : keyN (nextN b) = keyN b + 1 ∧ nanB (nextN b) = false := by
  have hb' := next_lt b hb
  have e : nextN b = ofN (keyN b + 1) := by
    unfold nextN
    rw [if_neg (by simp [hn, hi])]
  rw [nan_false _ hb', e]
  rw [nan_false b hb] at hn
  unfold ofN keyN
  constructor
  · split <;> split <;> split <;> omega
  · split <;> split <;> omega
theorem next_eq (b : Nat) (hb : b < 18446744073709551616) (h : nextN b = b) : nanB b = true ∨ b = 9218868437227405312 := by
  rcases hn : nanB b with _ | _
  · by_cases hi : b = 9218868437227405312
    · exact .inr hi
    · have := (next_key b hb hn hi).1
      rw [h] at this
      omega
  · exact .inl rfl
theorem next_less (b : Nat) (hb : b < 18446744073709551616) (h : nextN b ≠ b) : lessB b (nextN b) = true := by
  rcases hn : nanB b with _ | _
  · by_cases hi : b = 9218868437227405312
    · exact absurd (by unfold nextN; rw [if_pos (.inr hi)]) h
    · have := next_key b hb hn hi
      rw [less_iff]
      exact ⟨hn, this.2, by omega⟩
  · exact absurd (next_nan b hn) h
theorem next_between (b x : Nat) (hb : b < 18446744073709551616) : (lessB b x && lessB x (nextN b)) = false := by
  rw [← Bool.not_eq_true, Bool.and_eq_true, less_iff, less_iff]
  rintro ⟨⟨h1, h2, h3⟩, _, _, h4⟩
  by_cases hi : b = 9218868437227405312
  · have : nextN b = b := by unfold nextN; rw [if_pos (.inr hi)]
    rw [this] at h4
    omega
  · have := (next_key b hb h1 hi).1
    omega
/-! ### the other sign -/
def mirN (b : Nat) : Nat := if 9223372036854775808 ≤ b then b - 9223372036854775808 else b + 9223372036854775808
theorem mir_lt (b : Nat) (hb : b < 18446744073709551616) : mirN b < 18446744073709551616 := by unfold mirN; split <;> omega
theorem mir_key (b : Nat) (hb : b < 18446744073709551616) : keyN (mirN b) = 18446744073709551615 - keyN b := by unfold mirN keyN; split <;> split <;> omega
theorem mir_nan (b : Nat) (hb : b < 18446744073709551616) : nanB (mirN b) = nanB b := by
  rw [Bool.eq_iff_iff, nan_bound b hb, nan_bound _ (mir_lt b hb)]
  unfold mirN
  split <;> omega
theorem mir_kind (b : Nat) (hb : b < 18446744073709551616) : kindN (mirN b) = kindN b := by
  have h1 : expN (mirN b) = expN b := by unfold mirN expN; split <;> omega
  have h2 : fracN (mirN b) = fracN b := by unfold mirN fracN; split <;> omega
  unfold kindN
  rw [h1, h2]
theorem mir_less (a b : Nat) (ha : a < 18446744073709551616) (hb : b < 18446744073709551616) : lessB (mirN b) (mirN a) = lessB a b := by
  rw [Bool.eq_iff_iff, less_iff, less_iff, mir_nan a ha, mir_nan b hb, mir_key a ha, mir_key b hb]
  have := key_lt a ha
  have := key_lt b hb
  constructor
  · rintro ⟨h1, h2, h3⟩; exact ⟨h2, h1, by omega⟩
  · rintro ⟨h1, h2, h3⟩; exact ⟨h2, h1, by omega⟩
theorem mir_next (a : Nat) (ha : a < 18446744073709551616) (hn : nanB a = false) (h1 : a ≠ 18442240474082181120) (h2 : a ≠ 9218868437227405312) : nextN (mirN (nextN (mirN a))) = a := by
  have hm := mir_lt a ha
  have hn' : nanB (mirN a) = false := by rw [mir_nan a ha]; exact hn
  have hi' : mirN a ≠ 9218868437227405312 := by unfold mirN; split <;> omega
  obtain ⟨k1, k2⟩ := next_key _ hm hn' hi'
  have hl := next_lt _ hm
  have hm2 := mir_lt _ hl
  have hn2 : nanB (mirN (nextN (mirN a))) = false := by rw [mir_nan _ hl]; exact k2
  have k3 := mir_key _ hl
  rw [k1, mir_key a ha] at k3
  have kl := key_lt a ha
  have hi2 : mirN (nextN (mirN a)) ≠ 9218868437227405312 := by
    intro h
    rw [h, show keyN 9218868437227405312 = 18442240474082181120 by decide] at k3
    rw [nan_false a ha] at hn
    have : keyN a ≤ 18442240474082181120 := by unfold keyN; split <;> omega
    omega
  obtain ⟨k4, _⟩ := next_key _ hm2 hn2 hi2
  rw [k3] at k4
  have hk : keyN (nextN (mirN (nextN (mirN a)))) = keyN a := by
    have : keyN a ≠ 0 := by
      intro h
      rw [nan_false a ha] at hn
      unfold keyN at h
      split at h <;> omega
    omega
  have := congrArg ofN hk
  rwa [of_key _ (next_lt _ hm2), of_key a ha] at this
/-! ### so many steps -/
def stepsN : Nat → Nat → Nat
  | 0, b => b
  | k + 1, b => nextN (stepsN k b)
theorem steps_lt (k b : Nat) (hb : b < 18446744073709551616) : stepsN k b < 18446744073709551616 := by
  induction k with
  | zero => exact hb
  | succ k ih => exact next_lt _ ih
theorem steps_nan (k b : Nat) (h : nanB b = true) : stepsN k b = b := by
  induction k with
  | zero => rfl
  | succ k ih => show nextN (stepsN k b) = b; rw [ih, next_nan b h]
theorem steps_key (k b : Nat) (hb : b < 18446744073709551616) (h : nanB b = false) : keyN (stepsN k b) = min (keyN b + k) 18442240474082181120 ∧ nanB (stepsN k b) = false := by
  induction k with
  | zero =>
    refine ⟨?_, h⟩
    show keyN b = _
    rw [nan_false b hb] at h
    unfold keyN
    split <;> omega
  | succ k ih =>
    show keyN (nextN (stepsN k b)) = _ ∧ nanB (nextN (stepsN k b)) = false
    obtain ⟨i1, i2⟩ := ih
    have hl := steps_lt k b hb
    by_cases hi : stepsN k b = 9218868437227405312
    · have : nextN (stepsN k b) = stepsN k b := by unfold nextN; rw [if_pos (.inr hi)]
      rw [this]
      refine ⟨?_, i2⟩
      rw [hi] at i1 ⊢
      have e : keyN 9218868437227405312 = 18442240474082181120 := by decide
      rw [e] at i1 ⊢
      omega
    · obtain ⟨k1, k2⟩ := next_key _ hl i2 hi
      refine ⟨?_, k2⟩
      rw [k1]
      have : keyN (stepsN k b) ≠ 18442240474082181120 := by
        intro hk
        have := congrArg ofN hk
        rw [of_key _ hl] at this
        exact hi this
      omega

/-! ### whole units -/
/-- the number, in the smallest float's units -/
def magN (r : Nat) : Nat := if r < 4503599627370496 then r else (4503599627370496 + r % 4503599627370496) * 2 ^ (r / 4503599627370496 - 1)
/-- times 2^sh, rounded down, where the units are those of 2^-1074 -/
def scaled (m : Nat) (e : Int) : Nat := if 0 ≤ e then m * 2 ^ e.toNat else m / 2 ^ (-e).toNat
def clampI (s : Int) : Int := min (max s (-2000)) 2000
def unitsN (b : Nat) (s : Int) : Nat × Nat :=
  if nanB b = true then (0, 3) else if b = 0 ∨ b = 9223372036854775808 then (0, 0) else if 9223372036854775808 ≤ b then (0, 1)
  else if 9218868437227405312 ≤ b then (18446744073709551615, 2)
  else if 18446744073709551616 ≤ scaled (magN b) (clampI s - 1074) then (18446744073709551615, 2) else (scaled (magN b) (clampI s - 1074), 0)
theorem mag_step (r : Nat) : magN r < magN (r + 1) := by
  unfold magN
  by_cases h : r + 1 < 4503599627370496
  · rw [if_pos (by omega), if_pos h]; omega
  · rw [if_neg h]
    by_cases h2 : r < 4503599627370496
    · obtain rfl : r = 4503599627370495 := by omega
      decide
    · rw [if_neg h2]
      by_cases h3 : r % 4503599627370496 = 4503599627370495
      · have e1 : (r + 1) % 4503599627370496 = 0 := by omega
        have e2 : (r + 1) / 4503599627370496 - 1 = (r / 4503599627370496 - 1) + 1 := by omega
        rw [h3, e1, e2, Nat.pow_succ]
        have : 0 < 2 ^ (r / 4503599627370496 - 1) := Nat.two_pow_pos _
        omega
      · have e1 : (r + 1) % 4503599627370496 = r % 4503599627370496 + 1 := by omega
        have e2 : (r + 1) / 4503599627370496 = r / 4503599627370496 := by omega
        rw [e1, e2]
        exact Nat.mul_lt_mul_of_pos_right (by omega) (Nat.two_pow_pos _)
theorem mag_mono {r s : Nat} (h : r ≤ s) : magN r ≤ magN s := by
  induction s with
  | zero => have : r = 0 := by omega
            subst this; exact Nat.le_refl _
  | succ s ih =>
    rcases Nat.lt_or_ge s r with hl | hl
    · have : r = s + 1 := by omega
      subst this; exact Nat.le_refl _
    · exact Nat.le_trans (ih hl) (Nat.le_of_lt (mag_step s))
theorem mag_lt {r s : Nat} (h : r < s) : magN r < magN s := Nat.lt_of_lt_of_le (mag_step r) (mag_mono h)
theorem mag_lt_iff (r s : Nat) : magN r < magN s ↔ r < s := by
  constructor
  · intro h
    rcases Nat.lt_or_ge r s with hl | hl
    · exact hl
    · have := mag_mono hl; omega
  · exact mag_lt
theorem scaled_mono {m n : Nat} (e : Int) (h : m ≤ n) : scaled m e ≤ scaled n e := by
  unfold scaled
  split
  · exact Nat.mul_le_mul_right _ h
  · exact Nat.div_le_div_right h
theorem scaled_twice (m : Nat) (e : Int) : scaled m (e + 1) = 2 * scaled m e ∨ scaled m (e + 1) = 2 * scaled m e + 1 := by
  unfold scaled
  by_cases h : 0 ≤ e
  · rw [if_pos h, if_pos (by omega), show (e + 1).toNat = e.toNat + 1 by omega, Nat.pow_succ]
    left
    rw [← Nat.mul_assoc, Nat.mul_comm]
  · rw [if_neg h]
    by_cases h1 : e = -1
    · subst h1
      rw [if_pos (by omega)]
      simp
      omega
    · rw [if_neg (by omega), show (-e).toNat = (-(e + 1)).toNat + 1 by omega, Nat.pow_succ, ← Nat.div_div_eq_div_mul]
      generalize m / 2 ^ (-(e + 1)).toNat = q
      omega
/-- FloShifts -/
theorem units_shift (b : Nat) (s : Int) (h0 : -1900 ≤ s) (h1 : s ≤ 1900) :
    if (unitsN b s).2 = 1 ∨ (unitsN b s).2 = 3 ∨ (unitsN b s).2 = 2 then (unitsN b (s + 1)).2 = (unitsN b s).2
    else if 9223372036854775808 ≤ (unitsN b s).1 then (unitsN b (s + 1)).2 = 2
    else (unitsN b (s + 1)).2 = 0 ∧ ((unitsN b (s + 1)).1 = 2 * (unitsN b s).1 ∨ (unitsN b (s + 1)).1 = 2 * (unitsN b s).1 + 1) := by
  have c1 : clampI s = s := by unfold clampI; omega
  have c2 : clampI (s + 1) = s + 1 := by unfold clampI; omega
  unfold unitsN
  rw [c1, c2]
  by_cases hn : nanB b = true
  · simp [hn]
  · by_cases hz : b = 0 ∨ b = 9223372036854775808
    · simp [hn, hz]
    · by_cases hs : 9223372036854775808 ≤ b
      · simp [hn, hz, hs]
      · by_cases hi : 9218868437227405312 ≤ b
        · simp [hn, hz, hs, hi]
        · have ht := scaled_twice (magN b) (s - 1074)
          rw [show s - 1074 + 1 = s + 1 - 1074 by omega] at ht
          simp only [hn, hz, hs, hi, if_false]
          generalize scaled (magN b) (s + 1 - 1074) = y at *
          generalize scaled (magN b) (s - 1074) = x at *
          by_cases hx : 18446744073709551616 ≤ x
          · simp only [hx, if_true]
            simp
            rw [if_pos (show 18446744073709551616 ≤ y by omega)]
          · simp only [hx, if_false]
            simp
            by_cases hx2 : 9223372036854775808 ≤ x
            · have : 18446744073709551616 ≤ y := by omega
              simp [hx2, this]
            · have : ¬ 18446744073709551616 ≤ y := by omega
              simp [hx2, this]
              omega
theorem units_mono (a b : Nat) (h : a ≤ b) (hb : b ≤ 9218868437227405312) (s : Int) : (unitsN a s).1 ≤ (unitsN b s).1 ∧ (unitsN a s).2 ≤ (unitsN b s).2 := by
  have na : nanB a = false := by rw [nan_false a (by omega)]; omega
  have nb : nanB b = false := by rw [nan_false b (by omega)]; omega
  unfold unitsN
  simp only [na, nb, Bool.false_eq_true, if_false]
  have sa : ¬ 9223372036854775808 ≤ a := by omega
  have sb : ¬ 9223372036854775808 ≤ b := by omega
  simp only [sa, sb, if_false]
  by_cases za : a = 0 ∨ a = 9223372036854775808
  · rw [if_pos za]
    exact ⟨Nat.zero_le _, Nat.zero_le _⟩
  · rw [if_neg za, if_neg (show ¬ (b = 0 ∨ b = 9223372036854775808) by omega)]
    have hm := scaled_mono (clampI s - 1074) (mag_mono h)
    generalize scaled (magN a) (clampI s - 1074) = x at *
    generalize scaled (magN b) (clampI s - 1074) = y at *
    by_cases h1 : 9218868437227405312 ≤ b
    · rw [if_pos h1]
      split
      · exact ⟨Nat.le_refl _, Nat.le_refl _⟩
      · split
        · exact ⟨Nat.le_refl _, Nat.le_refl _⟩
        · refine ⟨?_, ?_⟩ <;> simp <;> omega
    · rw [if_neg h1, if_neg (show ¬ 9218868437227405312 ≤ a by omega)]
      split <;> split <;> refine ⟨?_, ?_⟩ <;> simp <;> omega
end Go.Proofs.Yteohmcjclmaanaa
