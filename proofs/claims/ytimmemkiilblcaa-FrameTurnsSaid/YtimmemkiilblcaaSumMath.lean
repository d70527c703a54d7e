/- The plain law of the sum: bytes fed to a shift register, by halves of bytes and bit by bit; it is linear, and a row of at most 32 turned bits is told. -/
import Derived.WalkKit
namespace Go.Proofs.Ytimmemkiilblcaa
set_option linter.unusedVariables false
set_option linter.unusedSimpArgs false
open Go.RowKit
/-! ### the register -/
def lfsr (r : BitVec 32) : BitVec 32 := (r >>> 1) ^^^ (if r.getLsbD 0 then 0x82f63b78#32 else 0#32)
def tab (i : Nat) : BitVec 32 := lfsr (lfsr (lfsr (lfsr (BitVec.ofNat 32 i))))
def nib (r : BitVec 32) : BitVec 32 := (r >>> 4) ^^^ tab (r &&& 15#32).toNat
def byteStep (r : BitVec 32) (x : UInt8) : BitVec 32 := nib (nib (r ^^^ BitVec.ofNat 32 x.toNat))
def run (r : BitVec 32) (bs : List UInt8) : BitVec 32 := bs.foldl byteStep r
def More (s : BitVec 32) (bs : List UInt8) : BitVec 32 := ~~~ (run (~~~ s) bs)
def Sum (bs : List UInt8) : BitVec 32 := More 0#32 bs
def nibs : Nat → BitVec 32 → BitVec 32 | 0, r => r | j + 1, r => nib (nibs j r)
theorem nibs_succ (j : Nat) (r : BitVec 32) : nibs (j + 1) r = nib (nibs j r) := rfl
/-- one bit: what the reference does -/
def bitStep (r : BitVec 32) (b : Bool) : BitVec 32 := (r >>> 1) ^^^ (if (r.getLsbD 0 != b) then 0x82f63b78#32 else 0#32)
def bitsN (r : BitVec 32) (x : BitVec 32) : Nat → BitVec 32 | 0 => r | k + 1 => bitStep (bitsN r x k) (x.getLsbD k)
theorem run_take (r : BitVec 32) (bs : List UInt8) (k : Nat) (h : k < bs.length) : run r (bs.take (k + 1)) = byteStep (run r (bs.take k)) (bs.getD k 0) := by
  rw [List.take_succ_eq_append_getElem h, run, List.foldl_append]
  simp [run, List.getElem?_eq_getElem h]
theorem run_append (r : BitVec 32) (a b : List UInt8) : run r (a ++ b) = run (run r a) b := by simp [run]
theorem more_more (s : BitVec 32) (a b : List UInt8) : More (More s a) b = More s (a ++ b) := by simp [More, run_append]

/-! ### linear -/
theorem xor_lc (a b c : BitVec 32) : a ^^^ (b ^^^ c) = b ^^^ (a ^^^ c) := by rw [← BitVec.xor_assoc, BitVec.xor_comm a b, BitVec.xor_assoc]
theorem xor_cancel (a b : BitVec 32) : a ^^^ (a ^^^ b) = b := by rw [← BitVec.xor_assoc, BitVec.xor_self, BitVec.zero_xor]
theorem lfsr_xor (a b : BitVec 32) : lfsr (a ^^^ b) = lfsr a ^^^ lfsr b := by
  unfold lfsr
  rw [BitVec.ushiftRight_xor_distrib, BitVec.getLsbD_xor]
  generalize (0x82f63b78#32) = p
  cases a.getLsbD 0 <;> cases b.getLsbD 0 <;> simp only [Bool.xor_false, Bool.xor_true, Bool.not_false, Bool.not_true, if_true, if_false, Bool.false_eq_true, BitVec.xor_zero, BitVec.xor_assoc]
  · rw [BitVec.xor_comm p]

  · rw [xor_lc p, BitVec.xor_self, BitVec.xor_zero]
theorem lfsr_zero : lfsr 0 = 0 := by decide
def iter : Nat → BitVec 32 → BitVec 32 | 0, r => r | k + 1, r => iter k (lfsr r)
theorem iter_succ' (k : Nat) (r : BitVec 32) : iter (k + 1) r = lfsr (iter k r) := by
  induction k generalizing r with
  | zero => rfl
  | succ k ih => rw [iter, ih, iter]
theorem iter_xor (k : Nat) (a b : BitVec 32) : iter k (a ^^^ b) = iter k a ^^^ iter k b := by
  induction k generalizing a b with
  | zero => rfl
  | succ k ih => rw [iter, iter, iter, lfsr_xor, ih]
theorem iter_zero (k : Nat) : iter k 0 = 0 := by
  induction k with
  | zero => rfl
  | succ k ih => rw [iter, lfsr_zero, ih]
theorem iter_add (j k : Nat) (r : BitVec 32) : iter (j + k) r = iter k (iter j r) := by
  induction j generalizing r with
  | zero => simp [iter]
  | succ j ih => rw [show j + 1 + k = (j + k) + 1 by omega, iter, ih, iter]
/-- what has no low bits is shifted -/
theorem iter_shift (k : Nat) (r : BitVec 32) (h : ∀ i, i < k → r.getLsbD i = false) : iter k r = r >>> k := by
  induction k generalizing r with
  | zero => simp [iter]
  | succ k ih =>
    have h0 : lfsr r = r >>> 1 := by unfold lfsr; rw [h 0 (by omega)]; simp
    rw [iter, h0, ih _ (fun i hi => by rw [BitVec.getLsbD_ushiftRight]; exact h (1 + i) (by omega)), ← BitVec.shiftRight_add, Nat.add_comm]
theorem nib_eq (r : BitVec 32) : nib r = iter 4 r := by
  have h : r = (r &&& ~~~ 15#32) ^^^ (r &&& 15#32) := by
    apply BitVec.eq_of_getLsbD_eq
    intro i hi
    rw [BitVec.getLsbD_xor, BitVec.getLsbD_and, BitVec.getLsbD_and, BitVec.getLsbD_not]
    simp [hi]
    cases r[i] <;> cases (15#32)[i] <;> rfl
  have h1 : iter 4 (r &&& ~~~ 15#32) = r >>> 4 := by
    rw [iter_shift]
    · apply BitVec.eq_of_getLsbD_eq
      intro i hi
      rw [BitVec.getLsbD_ushiftRight, BitVec.getLsbD_ushiftRight, BitVec.getLsbD_and, BitVec.getLsbD_not]
      have : (15#32).getLsbD (4 + i) = false := by
        rw [BitVec.getLsbD_ofNat]
        have : Nat.testBit 15 (4 + i) = false := Nat.testBit_lt_two_pow (Nat.lt_of_lt_of_le (by decide : 15 < 2 ^ 4) (Nat.pow_le_pow_right (by decide) (by omega)))
        simp [this]
      rw [this]
      rcases Nat.lt_or_ge (4 + i) 32 with h | h
      · simp [h]
      · simp [BitVec.getLsbD_of_ge r (4 + i) h]
    · intro i hi
      rw [BitVec.getLsbD_and, BitVec.getLsbD_not]
      have : i = 0 ∨ i = 1 ∨ i = 2 ∨ i = 3 := by omega
      rcases this with h | h | h | h <;> subst h <;> simp
  conv => rhs; rw [h, iter_xor, h1]
  rw [nib, tab, BitVec.ofNat_toNat, BitVec.setWidth_eq]
  rfl
theorem nib_xor (a b : BitVec 32) : nib (a ^^^ b) = nib a ^^^ nib b := by rw [nib_eq, nib_eq, nib_eq, iter_xor]
theorem nib2_eq (r : BitVec 32) : nib (nib r) = iter 8 r := by rw [nib_eq, nib_eq, ← iter_add]

/-! ### the reference's bits -/
theorem lfsr_not (r : BitVec 32) (b : Bool) : bitStep r b = lfsr (r ^^^ (if b then 1#32 else 0#32)) := by
  rw [lfsr_xor]
  unfold bitStep lfsr
  cases b <;> cases r.getLsbD 0 <;> simp [BitVec.xor_assoc]
  all_goals decide
theorem bits_iter (r x : BitVec 32) (k : Nat) (hk : k ≤ 32) : bitsN r x k ^^^ (x >>> k) = iter k (r ^^^ x) := by
  induction k with
  | zero => simp [bitsN, iter]
  | succ k ih =>
    rw [iter_succ', ← ih (by omega), lfsr_xor, bitsN, lfsr_not, lfsr_xor, BitVec.xor_assoc]
    congr 1
    have hs : lfsr (x >>> k) = (x >>> (k + 1)) ^^^ lfsr (if x.getLsbD k then 1#32 else 0#32) := by
      unfold lfsr
      rw [BitVec.getLsbD_ushiftRight, ← BitVec.shiftRight_add]
      cases x.getLsbD (k + 0) <;> cases hx : x.getLsbD k <;> simp_all
    rw [hs, BitVec.xor_comm]
theorem bits8 (r : BitVec 32) (x : UInt8) : bitsN r (BitVec.ofNat 32 x.toNat) 8 = byteStep r x := by
  have h := bits_iter r (BitVec.ofNat 32 x.toNat) 8 (by decide)
  have h0 : (BitVec.ofNat 32 x.toNat) >>> 8 = 0#32 := by
    apply BitVec.eq_of_toNat_eq
    have := x.toNat_lt
    simp [BitVec.toNat_ushiftRight, Nat.shiftRight_eq_div_pow]
    omega
  rw [h0] at h
  rw [byteStep, nib2_eq, ← h]
  simp

/-! ### three strings of one length -/
theorem byteStep_xor3 (r s t : BitVec 32) (x y z : UInt8) : byteStep r x ^^^ byteStep s y ^^^ byteStep t z = byteStep (r ^^^ s ^^^ t) (x ^^^ y ^^^ z) := by
  have e : BitVec.ofNat 32 (x ^^^ y ^^^ z).toNat = BitVec.ofNat 32 x.toNat ^^^ BitVec.ofNat 32 y.toNat ^^^ BitVec.ofNat 32 z.toNat := by
    apply BitVec.eq_of_toNat_eq
    have hx := x.toNat_lt
    have hy := y.toNat_lt
    have hz := z.toNat_lt
    have h1 : (x.toNat ^^^ y.toNat) < 2 ^ 8 := Nat.xor_lt_two_pow hx hy
    have h2 : (x.toNat ^^^ y.toNat ^^^ z.toNat) < 2 ^ 8 := Nat.xor_lt_two_pow h1 hz
    simp only [UInt8.toNat_xor, BitVec.toNat_ofNat, BitVec.toNat_xor]
    rw [Nat.mod_eq_of_lt (by omega), Nat.mod_eq_of_lt (by omega), Nat.mod_eq_of_lt (by omega), Nat.mod_eq_of_lt (by omega)]
  unfold byteStep
  rw [e, ← nib_xor, ← nib_xor, ← nib_xor, ← nib_xor]
  congr 2
  generalize BitVec.ofNat 32 x.toNat = a
  generalize BitVec.ofNat 32 y.toNat = b
  generalize BitVec.ofNat 32 z.toNat = c
  simp only [BitVec.xor_assoc]
  rw [xor_lc b t, xor_lc a s, xor_lc a t]
def xor3 : List UInt8 → List UInt8 → List UInt8 → List UInt8
  | x :: a, y :: b, z :: c => (x ^^^ y ^^^ z) :: xor3 a b c
  | _, _, _ => []
theorem xor3_length : ∀ (a b c : List UInt8), a.length = b.length → b.length = c.length → (xor3 a b c).length = a.length
  | [], [], [], _, _ => rfl
  | x :: a, y :: b, z :: c, h, h' => by
    simp only [List.length_cons] at h h'
    simp only [xor3, List.length_cons, xor3_length a b c (by omega) (by omega)]
theorem xor3_at : ∀ (a b c : List UInt8) (k n : Nat), n ≤ a.length → n ≤ b.length → n ≤ c.length → k < n → (xor3 (a.take n) (b.take n) (c.take n)).getD k 0 = a.getD k 0 ^^^ b.getD k 0 ^^^ c.getD k 0
  | x :: a, y :: b, z :: c, 0, n + 1, _, _, _, _ => by simp [xor3]
  | x :: a, y :: b, z :: c, k + 1, n + 1, h, h', h'', hk => by
    simp only [List.length_cons] at h h' h''
    have := xor3_at a b c k n (by omega) (by omega) (by omega) (by omega)
    simpa [xor3, List.take_succ_cons] using this
  | [], _, _, _, n, h, _, _, hk => by simp only [List.length_nil] at h; omega
  | _ :: _, [], _, _, n, _, h, _, hk => by simp only [List.length_nil] at h; omega
  | _ :: _, _ :: _, [], _, n, _, _, h, hk => by simp only [List.length_nil] at h; omega
theorem run_xor3 : ∀ (a b c : List UInt8) (r s t : BitVec 32), a.length = b.length → b.length = c.length → run r a ^^^ run s b ^^^ run t c = run (r ^^^ s ^^^ t) (xor3 a b c)
  | [], [], [], _, _, _, _, _ => rfl
  | x :: a, y :: b, z :: c, r, s, t, h, h' => by
    simp only [List.length_cons] at h h'
    have := run_xor3 a b c (byteStep r x) (byteStep s y) (byteStep t z) (by omega) (by omega)
    simp only [run, List.foldl_cons, xor3] at this ⊢
    rw [this, byteStep_xor3]
theorem sum_more (a b : List UInt8) : More (Sum a) b = Sum (a ++ b) := more_more _ _ _
/-- so far, and the rest still nought -/
def part (X : List UInt8) (n k : Nat) : List UInt8 := X.take k ++ List.replicate (n - k) 0
theorem part_length (X : List UInt8) (n k : Nat) (h : X.length = n) (hk : k ≤ n) : (part X n k).length = n := by simp [part]; omega
theorem part_zero (X : List UInt8) (n : Nat) : part X n 0 = List.replicate n 0 := by simp [part]
theorem part_all (X : List UInt8) (n : Nat) (h : X.length = n) : part X n n = X := by simp [part, ← h]
theorem part_set (X : List UInt8) (n k : Nat) (h : X.length = n) (hk : k < n) : (part X n k).set k (X.getD k 0) = part X n (k + 1) := by
  unfold part
  have hl : (X.take k).length = k := by rw [List.length_take]; omega
  rw [show n - k = (n - (k + 1)) + 1 by omega, List.replicate_succ, List.set_append_right _ _ (by omega), hl, Nat.sub_self, List.set_cons_zero, List.take_succ_eq_append_getElem (show k < X.length by omega)]
  simp [List.getElem?_eq_getElem (show k < X.length by omega), -List.take_append_getElem]
theorem more_xor3 (a b c : List UInt8) (h : a.length = b.length) (h' : b.length = c.length) : Sum a ^^^ Sum b ^^^ Sum c = Sum (xor3 a b c) := by
  have := run_xor3 a b c (~~~ 0#32) (~~~ 0#32) (~~~ 0#32) h h'
  unfold Sum More
  have e : (~~~ 0#32) ^^^ (~~~ 0#32) ^^^ (~~~ 0#32) = (~~~ 0#32 : BitVec 32) := by decide
  rw [e] at this
  rw [← this]
  generalize run (~~~ 0#32) a = p
  generalize run (~~~ 0#32) b = q
  generalize run (~~~ 0#32) c = u
  simp only [← BitVec.allOnes_xor, BitVec.xor_assoc]
  generalize BitVec.allOnes 32 = o
  rw [xor_lc p o, xor_cancel, xor_lc q o, xor_lc p o]
end Go.Proofs.Ytimmemkiilblcaa
