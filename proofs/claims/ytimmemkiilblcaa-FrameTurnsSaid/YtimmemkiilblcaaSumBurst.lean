/- The plain law of the sum, second part: a row of at most 32 turned bits is told. -/
import Derived.Test.YtimmemkiilblcaaSumMath
namespace Go.Proofs.Ytimmemkiilblcaa
set_option linter.unusedVariables false
set_option linter.unusedSimpArgs false
open Go.RowKit
/-- the register, over numbers of any size -/
def poly : Nat := 2197175160
def lfsrN (z : Nat) : Nat := z / 2 ^^^ (if z % 2 = 1 then poly else 0)
def iterN : Nat → Nat → Nat | 0, z => z | k + 1, z => iterN k (lfsrN z)
theorem xor_half (a b : Nat) : (a ^^^ b) / 2 = a / 2 ^^^ b / 2 := Nat.xor_div_two
theorem xor_odd (a b : Nat) : (a ^^^ b) % 2 = (a % 2 + b % 2) % 2 := by
  have h := Nat.testBit_xor a b 0
  rw [Nat.testBit_zero, Nat.testBit_zero, Nat.testBit_zero] at h
  rcases Nat.mod_two_eq_zero_or_one a with ha | ha <;> rcases Nat.mod_two_eq_zero_or_one b with hb | hb <;> rcases Nat.mod_two_eq_zero_or_one (a ^^^ b) with hc | hc <;> simp_all
theorem xlc (a b c : Nat) : a ^^^ (b ^^^ c) = b ^^^ (a ^^^ c) := by rw [← Nat.xor_assoc, Nat.xor_comm a b, Nat.xor_assoc]
theorem lfsrN_xor (a b : Nat) : lfsrN (a ^^^ b) = lfsrN a ^^^ lfsrN b := by
  unfold lfsrN
  rw [xor_half, xor_odd]
  rcases Nat.mod_two_eq_zero_or_one a with ha | ha <;> rcases Nat.mod_two_eq_zero_or_one b with hb | hb <;> simp [ha, hb]
  · rw [Nat.xor_assoc]
  · rw [Nat.xor_assoc, Nat.xor_comm (b / 2), Nat.xor_assoc]
  · rw [Nat.xor_assoc, Nat.xor_comm (b / 2) poly, ← Nat.xor_assoc poly, Nat.xor_self, Nat.zero_xor]
theorem lfsrN_zero : lfsrN 0 = 0 := rfl
theorem iterN_xor (k : Nat) (a b : Nat) : iterN k (a ^^^ b) = iterN k a ^^^ iterN k b := by
  induction k generalizing a b with
  | zero => rfl
  | succ k ih => rw [iterN, iterN, iterN, lfsrN_xor, ih]
theorem iterN_add (j k z : Nat) : iterN (j + k) z = iterN k (iterN j z) := by
  induction j generalizing z with
  | zero => simp [iterN]
  | succ j ih => rw [show j + 1 + k = (j + k) + 1 by omega, iterN, ih, iterN]
theorem iterN_shift (k t : Nat) : iterN k (2 ^ k * t) = t := by
  induction k generalizing t with
  | zero => simp [iterN]
  | succ k ih =>
    have h : lfsrN (2 ^ (k + 1) * t) = 2 ^ k * t := by
      have e : 2 ^ (k + 1) * t = 2 * (2 ^ k * t) := by rw [Nat.pow_succ, Nat.mul_comm (2 ^ k) 2, Nat.mul_assoc]
      unfold lfsrN
      rw [e]
      simp
    rw [iterN, h, ih]
theorem lfsrN_bv (r : BitVec 32) : lfsrN r.toNat = (lfsr r).toNat := by
  unfold lfsrN lfsr
  have b1 : r.getLsbD 0 = decide (r.toNat % 2 = 1) := by rw [BitVec.getLsbD, Nat.testBit_zero]
  rw [b1, BitVec.toNat_xor, BitVec.toNat_ushiftRight, Nat.shiftRight_eq_div_pow]
  by_cases h : r.toNat % 2 = 1 <;> simp [h, poly]
theorem iterN_bv (k : Nat) (r : BitVec 32) : iterN k r.toNat = (iter k r).toNat := by
  induction k generalizing r with
  | zero => rfl
  | succ k ih => rw [iterN, iter, lfsrN_bv, ih]
theorem lfsrN_lt (z : Nat) (h : z < 4294967296) : lfsrN z < 4294967296 := by
  have := lfsrN_bv (BitVec.ofNat 32 z)
  rw [BitVec.toNat_ofNat, Nat.mod_eq_of_lt (by omega)] at this
  rw [this]
  exact (lfsr _).isLt
theorem lfsrN_eq_zero (z : Nat) (h : z < 4294967296) (h0 : lfsrN z = 0) : z = 0 := by
  unfold lfsrN at h0
  rcases Nat.mod_two_eq_zero_or_one z with hz | hz
  · rw [hz] at h0
    simp at h0
    omega
  · rw [hz] at h0
    simp only [if_true] at h0
    have e : z / 2 = poly := by
      have := congrArg (· ^^^ poly) h0
      simpa [Nat.xor_assoc] using this
    unfold poly at e
    omega
theorem iterN_eq_zero (k z : Nat) (h : z < 4294967296) (h0 : iterN k z = 0) : z = 0 := by
  induction k generalizing z with
  | zero => exact h0
  | succ k ih =>
    rw [iterN] at h0
    exact lfsrN_eq_zero z h (ih _ (lfsrN_lt z h) h0)
/-- bytes as one number, the first the lowest -/
def num : List UInt8 → Nat | [] => 0 | x :: l => x.toNat + 256 * num l
theorem split_xor (x t : Nat) (h : x < 256) : x + 256 * t = x ^^^ 256 * t := by
  have := Nat.two_pow_add_eq_or_of_lt (i := 8) (b := x) (by simpa using h) t
  have h2 : x ^^^ 256 * t = 256 * t ||| x := by
    apply Nat.eq_of_testBit_eq
    intro i
    rw [Nat.testBit_xor, Nat.testBit_or]
    have e : 256 * t = t <<< 8 := by rw [Nat.shiftLeft_eq, Nat.mul_comm]
    rw [e, Nat.testBit_shiftLeft]
    by_cases hi : 8 ≤ i
    · have : x.testBit i = false := Nat.testBit_lt_two_pow (Nat.lt_of_lt_of_le h (by have : 2 ^ 8 ≤ 2 ^ i := Nat.pow_le_pow_right (by decide) hi; simpa using this))
      simp [this]
    · simp [hi]
  rw [h2, ← show 2 ^ 8 * t + x = 256 * t ||| x from this]
  omega
theorem run_num (r : BitVec 32) (l : List UInt8) : iterN (8 * l.length) (r.toNat ^^^ num l) = (run r l).toNat := by
  induction l generalizing r with
  | nil => simp [iterN, num, run]
  | cons x l ih =>
    have hx := x.toNat_lt
    rw [show 8 * (x :: l).length = 8 + 8 * l.length by simp; omega, iterN_add, num, split_xor _ _ hx, ← Nat.xor_assoc, iterN_xor, show (256 : Nat) * num l = 2 ^ 8 * num l from rfl, iterN_shift]
    have e : r.toNat ^^^ x.toNat = (r ^^^ BitVec.ofNat 32 x.toNat).toNat := by
      rw [BitVec.toNat_xor, BitVec.toNat_ofNat, Nat.mod_eq_of_lt (by omega)]
    rw [e, iterN_bv, ← nib2_eq]
    show iterN (8 * l.length) ((byteStep r x).toNat ^^^ num l) = _
    rw [ih]
    rfl
/-! ### two strings of one length -/
def xor2 : List UInt8 → List UInt8 → List UInt8
  | x :: a, y :: b => (x ^^^ y) :: xor2 a b
  | _, _ => []
theorem xor2_length : ∀ (a b : List UInt8), a.length = b.length → (xor2 a b).length = a.length
  | [], [], _ => rfl
  | x :: a, y :: b, h => by
    simp only [List.length_cons] at h
    simp only [xor2, List.length_cons, xor2_length a b (by omega)]
theorem byte_xor_ofNat (x y : UInt8) : BitVec.ofNat 32 (x ^^^ y).toNat = BitVec.ofNat 32 x.toNat ^^^ BitVec.ofNat 32 y.toNat := by
  apply BitVec.eq_of_toNat_eq
  have hx := x.toNat_lt
  have hy := y.toNat_lt
  have h1 : (x.toNat ^^^ y.toNat) < 2 ^ 8 := Nat.xor_lt_two_pow hx hy
  simp only [UInt8.toNat_xor, BitVec.toNat_ofNat, BitVec.toNat_xor]
  rw [Nat.mod_eq_of_lt (by omega), Nat.mod_eq_of_lt (by omega), Nat.mod_eq_of_lt (by omega)]
theorem byteStep_xor2 (r s : BitVec 32) (x y : UInt8) : byteStep r x ^^^ byteStep s y = byteStep (r ^^^ s) (x ^^^ y) := by
  unfold byteStep
  rw [byte_xor_ofNat, ← nib_xor, ← nib_xor]
  congr 2
  generalize BitVec.ofNat 32 x.toNat = a
  generalize BitVec.ofNat 32 y.toNat = b
  simp only [BitVec.xor_assoc]
  rw [xor_lc a s]
theorem run_xor2 : ∀ (a b : List UInt8) (r s : BitVec 32), a.length = b.length → run r a ^^^ run s b = run (r ^^^ s) (xor2 a b)
  | [], [], _, _, _ => rfl
  | x :: a, y :: b, r, s, h => by
    simp only [List.length_cons] at h
    have := run_xor2 a b (byteStep r x) (byteStep s y) (by omega)
    simp only [run, List.foldl_cons, xor2] at this ⊢
    rw [this, byteStep_xor2]
theorem num_xor2_zero : ∀ (a b : List UInt8), a.length = b.length → num (xor2 a b) = 0 → a = b
  | [], [], _, _ => rfl
  | x :: a, y :: b, h, h0 => by
    simp only [List.length_cons] at h
    simp only [xor2, num] at h0
    have h1 : (x ^^^ y).toNat = 0 := by omega
    have h2 := num_xor2_zero a b (by omega) (by omega)
    have h3 : x = y := by
      rw [UInt8.toNat_xor] at h1
      have : x.toNat = y.toNat := by
        have := congrArg (· ^^^ y.toNat) h1
        simpa [Nat.xor_assoc] using this
      exact UInt8.toNat_inj.1 this
    rw [h2, h3]
theorem xor2_self : ∀ (a : List UInt8), num (xor2 a a) = 0
  | [] => rfl
  | x :: a => by simp [xor2, num, xor2_self a]
/-- the sums of two strings of one length are the same just where the register comes to nought over their difference -/
theorem sum_eq_iff (a b : List UInt8) (h : a.length = b.length) : Sum a = Sum b ↔ iterN (8 * a.length) (num (xor2 a b)) = 0 := by
  have h1 := run_xor2 a b (~~~ 0#32) (~~~ 0#32) h
  rw [BitVec.xor_self] at h1
  have h2 := run_num 0#32 (xor2 a b)
  rw [← h1, xor2_length a b h] at h2
  simp only [BitVec.toNat_ofNat, Nat.zero_mod, Nat.zero_xor] at h2
  rw [h2]
  unfold Sum More
  constructor
  · intro e
    have e1 : run (~~~ 0#32) a = run (~~~ 0#32) b := by simpa using congrArg (fun x => ~~~ x) e
    rw [e1, BitVec.xor_self]
    rfl
  · intro e
    have e1 : run (~~~ 0#32) a ^^^ run (~~~ 0#32) b = 0#32 := BitVec.eq_of_toNat_eq (by simpa using e)
    have e2 : run (~~~ 0#32) a = run (~~~ 0#32) b := by
      have := congrArg (· ^^^ run (~~~ 0#32) b) e1
      simpa [BitVec.xor_assoc] using this
    rw [e2]
/-! ### bits that are turned -/
def flipAt (l : List UInt8) (p : Nat) : List UInt8 := l.set (p / 8) (l.getD (p / 8) 0 ^^^ UInt8.ofNat (2 ^ (p % 8)))
def flips (l : List UInt8) (k row : Nat) : Nat → List UInt8
  | 0 => l
  | i + 1 => if row / 2 ^ i % 2 = 1 then flipAt (flips l k row i) (k + i) else flips l k row i
theorem flipAt_length (l : List UInt8) (p : Nat) : (flipAt l p).length = l.length := by simp [flipAt]
theorem flips_length (l : List UInt8) (k row i : Nat) : (flips l k row i).length = l.length := by
  induction i with
  | zero => rfl
  | succ i ih => unfold flips; split <;> simp [flipAt_length, ih]
theorem xor2_flipAt : ∀ (a b : List UInt8) (p : Nat), a.length = b.length → p / 8 < a.length → num (xor2 (flipAt a p) b) = num (xor2 a b) ^^^ 2 ^ p
  | x :: a, y :: b, p, h, hp => by
    simp only [List.length_cons] at h hp
    by_cases h8 : p < 8
    · have e0 : p / 8 = 0 := by omega
      have e1 : p % 8 = p := by omega
      have hb : 2 ^ p < 256 := Nat.pow_lt_pow_right (by decide) h8
      simp only [flipAt, e0, e1, List.set_cons_zero, List.getD_cons_zero, xor2, num]
      have hx := (x ^^^ y).toNat_lt
      have hz : (x ^^^ UInt8.ofNat (2 ^ p) ^^^ y).toNat = (x ^^^ y).toNat ^^^ 2 ^ p := by
        rw [UInt8.toNat_xor, UInt8.toNat_xor, UInt8.toNat_xor, UInt8.toNat_ofNat', Nat.mod_eq_of_lt hb, Nat.xor_assoc, Nat.xor_comm (2 ^ p), ← Nat.xor_assoc]
      have hz2 : (x ^^^ y).toNat ^^^ 2 ^ p < 256 := by rw [← hz]; exact (x ^^^ UInt8.ofNat (2 ^ p) ^^^ y).toNat_lt
      rw [hz, split_xor _ _ hz2, split_xor _ _ hx, Nat.xor_assoc, Nat.xor_comm (2 ^ p), ← Nat.xor_assoc]
    · obtain ⟨q, rfl⟩ : ∃ q, p = q + 8 := ⟨p - 8, by omega⟩
      have e0 : (q + 8) / 8 = q / 8 + 1 := by omega
      have e1 : (q + 8) % 8 = q % 8 := by omega
      have ih := xor2_flipAt a b q (by omega) (by omega)
      simp only [flipAt, e0, e1, List.set_cons_succ, List.getD_cons_succ, xor2, num] at ih ⊢
      have hx := (x ^^^ y).toNat_lt
      rw [ih, split_xor _ _ hx, split_xor _ _ hx, Nat.xor_assoc]
      congr 1
      rw [show (256 : Nat) = 2 ^ 8 from rfl, Nat.pow_add, Nat.mul_comm (2 ^ q) (2 ^ 8), Nat.mul_comm (2 ^ 8), Nat.mul_comm (2 ^ 8), Nat.mul_comm (2 ^ 8), ← Nat.shiftLeft_eq, ← Nat.shiftLeft_eq, ← Nat.shiftLeft_eq, Nat.shiftLeft_xor_distrib]
  | [], _, p, _, hp => by simp at hp
  | _ :: _, [], p, h, _ => by simp at h
theorem window (row k i : Nat) : row % 2 ^ (i + 1) * 2 ^ k = (row % 2 ^ i * 2 ^ k) ^^^ (if row / 2 ^ i % 2 = 1 then 2 ^ (k + i) else 0) := by
  apply Nat.eq_of_testBit_eq
  intro j
  rw [Nat.testBit_xor, ← Nat.shiftLeft_eq, ← Nat.shiftLeft_eq, Nat.testBit_shiftLeft, Nat.testBit_shiftLeft, Nat.testBit_mod_two_pow, Nat.testBit_mod_two_pow]
  have hb : (row / 2 ^ i % 2 = 1) ↔ row.testBit i = true := by rw [Nat.testBit_eq_decide_div_mod_eq, decide_eq_true_iff]
  by_cases hj : k ≤ j
  · by_cases hi : j - k < i
    · have hne : ¬ (k + i = j) := by omega
      simp only [hb]
      split <;> simp [hj, hi, hne, Nat.testBit_two_pow, show j - k < i + 1 by omega]
    · by_cases he : k + i = j
      · subst he
        simp only [hb, Nat.add_sub_cancel_left]
        cases hr : row.testBit i <;> simp [Nat.testBit_two_pow]
      · simp only [hb]
        split <;> simp [hi, he, Nat.testBit_two_pow, show ¬ j - k < i + 1 by omega]
  · have hne : ¬ (k + i = j) := by omega
    simp only [hb]
    split <;> simp [hj, hne, Nat.testBit_two_pow]
theorem num_flips (l : List UInt8) (k row i : Nat) (h : k + i ≤ 8 * l.length) : num (xor2 (flips l k row i) l) = row % 2 ^ i * 2 ^ k := by
  induction i with
  | zero => simp [flips, xor2_self, Nat.mod_one]
  | succ i ih =>
    rw [window, ← ih (by omega), flips]
    split
    · rw [xor2_flipAt _ _ _ (flips_length l k row i) (by rw [flips_length]; omega)]
    · simp
/-- ████ up to 32 bits in a row that are turned are told -/
theorem burst (l : List UInt8) (k row i : Nat) (hk : k + i ≤ 8 * l.length) (hi : i ≤ 32) : (Sum (flips l k row i) = Sum l) ↔ (flips l k row i = l) := by
  constructor
  · intro h
    have h1 := (sum_eq_iff _ _ (flips_length l k row i)).1 h
    rw [num_flips l k row i hk, flips_length, show 8 * l.length = k + (8 * l.length - k) by omega, iterN_add, Nat.mul_comm (row % 2 ^ i), iterN_shift] at h1
    have h2 : row % 2 ^ i < 4294967296 := Nat.lt_of_lt_of_le (Nat.mod_lt _ (Nat.two_pow_pos i)) (by have : 2 ^ i ≤ 2 ^ 32 := Nat.pow_le_pow_right (by decide) hi; simpa using this)
    have h3 := iterN_eq_zero _ _ h2 h1
    apply num_xor2_zero _ _ (flips_length l k row i)
    rw [num_flips l k row i hk, h3, Nat.zero_mul]
  · intro h; rw [h]
end Go.Proofs.Ytimmemkiilblcaa
