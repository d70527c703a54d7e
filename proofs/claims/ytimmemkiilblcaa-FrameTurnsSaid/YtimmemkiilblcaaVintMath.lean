/- The plain law of numbers as bytes: each number in just one way, of one to ten bytes. -/
import Derived.WalkKit
namespace Go.Proofs.Ytimmemkiilblcaa
set_option linter.unusedVariables false
set_option linter.unusedSimpArgs false
open Go.RowKit
/-- a number's bytes -/
def enc (v : Nat) : List UInt8 := if h : v < 128 then [UInt8.ofNat v] else UInt8.ofNat (v % 128 + 128) :: enc (v / 128)
termination_by v
decreasing_by omega
theorem enc_small {v : Nat} (h : v < 128) : enc v = [UInt8.ofNat v] := by rw [enc, dif_pos h]
theorem enc_large {v : Nat} (h : ¬ v < 128) : enc v = UInt8.ofNat (v % 128 + 128) :: enc (v / 128) := by rw [enc, dif_neg h]
theorem enc_pos (v : Nat) : 1 ≤ (enc v).length := by
  by_cases h : v < 128
  · rw [enc_small h]; simp
  · rw [enc_large h]; simp
theorem enc_le (f : Nat) : ∀ v : Nat, v < 2 ^ (7 * f + 1) → (enc v).length ≤ f + 1 := by
  induction f with
  | zero => intro v h; rw [enc_small (by omega)]; simp
  | succ f ih =>
    intro v h
    by_cases hv : v < 128
    · rw [enc_small hv]; simp
    · rw [enc_large hv]
      have := ih (v / 128) (by
        rw [show 7 * (f + 1) + 1 = (7 * f + 1) + 7 by omega, Nat.pow_add] at h
        exact Nat.div_lt_of_lt_mul (by omega))
      simp only [List.length_cons]
      omega
theorem enc_le10 {v : Nat} (h : v < 18446744073709551616) : (enc v).length ≤ 10 := enc_le 9 v (by simpa using h)
theorem enc_mono (a : Nat) : ∀ b : Nat, a ≤ b → (enc a).length ≤ (enc b).length := by
  induction a using Nat.strongRecOn with
  | ind a ih =>
    intro b hab
    by_cases ha : a < 128
    · rw [enc_small ha]; have := enc_pos b; simpa using this
    · rw [enc_large ha, enc_large (show ¬ b < 128 by omega)]
      have := ih (a / 128) (by omega) (b / 128) (Nat.div_le_div_right hab)
      simp only [List.length_cons]
      omega
theorem enc_one (v : Nat) : (enc v).length = 1 ↔ v < 128 := by
  by_cases h : v < 128
  · rw [enc_small h]; simp [h]
  · rw [enc_large h]
    have := enc_pos (v / 128)
    simp only [List.length_cons, h, iff_false]
    omega
/-- the number that bytes begin with, and of how many bytes; f: how many there may be -/
def dec : Nat → List UInt8 → Option (Nat × Nat)
  | 0, _ => none
  | _ + 1, [] => none
  | f + 1, x :: l => if f = 0 ∧ 1 < x.toNat then none else if x.toNat < 128 then (if f < 9 ∧ x.toNat = 0 then none else some (x.toNat, 1)) else (dec f l).map fun p => (x.toNat - 128 + 128 * p.1, p.2 + 1)
theorem dec_nil (f : Nat) : dec f [] = none := by cases f <;> rfl
theorem dec_cons (f : Nat) (x : UInt8) (l : List UInt8) : dec (f + 1) (x :: l) = if f = 0 ∧ 1 < x.toNat then none else if x.toNat < 128 then (if f < 9 ∧ x.toNat = 0 then none else some (x.toNat, 1)) else (dec f l).map fun p => (x.toNat - 128 + 128 * p.1, p.2 + 1) := rfl
theorem dec_bounds (f : Nat) : ∀ (l : List UInt8) (v c : Nat), dec f l = some (v, c) → 1 ≤ c ∧ c ≤ f ∧ c ≤ l.length ∧ v < 2 ^ (7 * (f - 1) + 1) ∧ (f < 10 → 0 < v) := by
  induction f with
  | zero => intro l v c h; simp [dec] at h
  | succ f ih =>
    intro l v c h
    cases l with
    | nil => simp [dec] at h
    | cons x l =>
      have hx := x.toNat_lt
      rw [dec_cons] at h
      by_cases h1 : f = 0 ∧ 1 < x.toNat
      · rw [if_pos h1] at h; cases h
      rw [if_neg h1] at h
      by_cases h2 : x.toNat < 128
      · rw [if_pos h2] at h
        by_cases h3 : f < 9 ∧ x.toNat = 0
        · rw [if_pos h3] at h; cases h
        rw [if_neg h3] at h
        simp only [Option.some.injEq, Prod.mk.injEq] at h
        obtain ⟨rfl, rfl⟩ := h
        refine ⟨by omega, by omega, by simp, ?_, by omega⟩
        rcases Nat.eq_zero_or_pos f with hf | hf
        · subst hf
          simp
          omega
        · have : 2 ^ 7 ≤ 2 ^ (7 * (f + 1 - 1) + 1) := Nat.pow_le_pow_right (by decide) (by omega)
          omega
      · rw [if_neg h2] at h
        obtain ⟨⟨v', c'⟩, h4, h5⟩ := Option.map_eq_some_iff.1 h
        simp only [Prod.mk.injEq] at h5
        obtain ⟨rfl, rfl⟩ := h5
        obtain ⟨b1, b2, b3, b4, b5⟩ := ih l v' c' h4
        have hf : 0 < f := by omega
        refine ⟨by omega, by omega, by simp; omega, ?_, fun hf10 => by have := b5 (by omega); omega⟩
        have e : 2 ^ (7 * (f + 1 - 1) + 1) = 128 * 2 ^ (7 * (f - 1) + 1) := by
          rw [show 7 * (f + 1 - 1) + 1 = 7 + (7 * (f - 1) + 1) by omega, Nat.pow_add]
        rw [e]
        have : (v' + 1) * 128 ≤ 2 ^ (7 * (f - 1) + 1) * 128 := Nat.mul_le_mul_right _ b4
        omega
theorem dec_lt {l : List UInt8} {v c : Nat} (h : dec 10 l = some (v, c)) : v < 18446744073709551616 := by
  have := (dec_bounds 10 l v c h).2.2.2.1
  simpa using this
/-- put, then got, whatever stands behind -/
theorem dec_enc (f : Nat) : ∀ (v : Nat) (r : List UInt8), v < 2 ^ (7 * f + 1) → (f < 9 → 0 < v) → dec (f + 1) (enc v ++ r) = some (v, (enc v).length) := by
  induction f with
  | zero =>
    intro v r h h0
    have h1 : v < 128 := by omega
    have := h0 (by omega)
    rw [enc_small h1, List.singleton_append, dec_cons]
    have e : (UInt8.ofNat v).toNat = v := by simp [UInt8.toNat_ofNat']; omega
    rw [e, if_neg (by omega), if_pos h1, if_neg (by omega)]
    rfl
  | succ f ih =>
    intro v r h h0
    by_cases h1 : v < 128
    · rw [enc_small h1, List.singleton_append, dec_cons]
      have e : (UInt8.ofNat v).toNat = v := by simp [UInt8.toNat_ofNat']; omega
      rw [e, if_neg (by omega), if_pos h1, if_neg (by rintro ⟨a, b⟩; have := h0 a; omega)]
      rfl
    · rw [enc_large h1, List.cons_append, dec_cons]
      have e : (UInt8.ofNat (v % 128 + 128)).toNat = v % 128 + 128 := by simp [UInt8.toNat_ofNat']; omega
      have hd : v / 128 < 2 ^ (7 * f + 1) := by
        rw [show 7 * (f + 1) + 1 = (7 * f + 1) + 7 by omega, Nat.pow_add] at h
        exact Nat.div_lt_of_lt_mul (by omega)
      rw [e, if_neg (by omega), if_neg (by omega), ih (v / 128) r hd (by intro; omega)]
      simp only [Option.map_some, List.length_cons, Option.some.injEq, Prod.mk.injEq, and_true]
      omega
theorem dec10_enc {v : Nat} (r : List UInt8) (h : v < 18446744073709551616) : dec 10 (enc v ++ r) = some (v, (enc v).length) := dec_enc 9 v r (by simpa using h) (by omega)
/-- what is got is put as just these bytes -/
theorem enc_dec (f : Nat) : ∀ (l : List UInt8) (v c : Nat), f ≤ 10 → dec f l = some (v, c) → enc v = l.take c := by
  induction f with
  | zero => intro l v c _ h; simp [dec] at h
  | succ f ih =>
    intro l v c hf h
    cases l with
    | nil => simp [dec] at h
    | cons x l =>
      have hx := x.toNat_lt
      rw [dec_cons] at h
      by_cases h1 : f = 0 ∧ 1 < x.toNat
      · rw [if_pos h1] at h; cases h
      rw [if_neg h1] at h
      by_cases h2 : x.toNat < 128
      · rw [if_pos h2] at h
        by_cases h3 : f < 9 ∧ x.toNat = 0
        · rw [if_pos h3] at h; cases h
        rw [if_neg h3] at h
        simp only [Option.some.injEq, Prod.mk.injEq] at h
        obtain ⟨rfl, rfl⟩ := h
        rw [enc_small h2]
        simp
      · rw [if_neg h2] at h
        obtain ⟨⟨v', c'⟩, h4, h5⟩ := Option.map_eq_some_iff.1 h
        simp only [Prod.mk.injEq] at h5
        obtain ⟨rfl, rfl⟩ := h5
        have hv := (dec_bounds f l v' c' h4).2.2.2.2 (by omega)
        have := ih l v' c' (by omega) h4
        rw [enc_large (by omega), show (x.toNat - 128 + 128 * v') / 128 = v' by omega, this, List.take_succ_cons]
        congr 1
        apply UInt8.toNat_inj.1
        simp [UInt8.toNat_ofNat']
        omega
/-- cut short by a byte it is none -/
theorem dec_short (f : Nat) : ∀ (l : List UInt8) (v c n : Nat), dec f l = some (v, c) → n < c → dec f (l.take n) = none := by
  induction f with
  | zero => intro l v c n h hn; rfl
  | succ f ih =>
    intro l v c n h hn
    cases l with
    | nil => simp [dec] at h
    | cons x l =>
      cases n with
      | zero => rfl
      | succ n =>
        rw [dec_cons] at h
        rw [List.take_succ_cons, dec_cons]
        by_cases h1 : f = 0 ∧ 1 < x.toNat
        · rw [if_pos h1]
        rw [if_neg h1] at h ⊢
        by_cases h2 : x.toNat < 128
        · rw [if_pos h2] at h
          by_cases h3 : f < 9 ∧ x.toNat = 0
          · rw [if_pos h3] at h; cases h
          rw [if_neg h3] at h
          simp only [Option.some.injEq, Prod.mk.injEq] at h
          omega
        · rw [if_neg h2] at h ⊢
          obtain ⟨⟨v', c'⟩, h4, h5⟩ := Option.map_eq_some_iff.1 h
          simp only [Prod.mk.injEq] at h5
          rw [ih l v' c' n h4 (by omega)]
          rfl

/-- the number at a place of bytes, and the place behind it -/
def getAt (bs : List UInt8) (at' : Int) : Option (Nat × Nat) :=
  if at' < 0 then none else (dec 10 (bs.drop at'.toNat)).map fun p => (p.1, at'.toNat + p.2)
theorem getAt_neg {bs : List UInt8} {i : Int} (h : i < 0) : getAt bs i = none := by rw [getAt, if_pos h]
theorem getAt_nat (bs : List UInt8) (i : Nat) : getAt bs (i : Int) = (dec 10 (bs.drop i)).map fun p => (p.1, i + p.2) := by
  rw [getAt, if_neg (by omega), Int.toNat_natCast]
theorem getAt_bounds {bs : List UInt8} {i : Int} {v e : Nat} (h : getAt bs i = some (v, e)) : 0 ≤ i ∧ i < (e : Int) ∧ e ≤ bs.length ∧ v < 18446744073709551616 ∧ enc v = (bs.drop i.toNat).take (e - i.toNat) := by
  by_cases hi : i < 0
  · rw [getAt_neg hi] at h; cases h
  · rw [getAt, if_neg hi] at h
    obtain ⟨⟨v', c'⟩, h4, h5⟩ := Option.map_eq_some_iff.1 h
    simp only [Prod.mk.injEq] at h5
    obtain ⟨rfl, rfl⟩ := h5
    obtain ⟨b1, b2, b3, b4, b5⟩ := dec_bounds 10 _ _ _ h4
    rw [List.length_drop] at b3
    refine ⟨by omega, by omega, by omega, dec_lt h4, ?_⟩
    rw [enc_dec 10 _ _ _ (by omega) h4, Nat.add_sub_cancel_left]
theorem getAt_enc (bs r : List UInt8) (v : Nat) (h : v < 18446744073709551616) : getAt (bs ++ (enc v ++ r)) (bs.length : Int) = some (v, bs.length + (enc v).length) := by
  rw [getAt_nat, List.drop_left, dec10_enc r h]
  rfl
end Go.Proofs.Ytimmemkiilblcaa
