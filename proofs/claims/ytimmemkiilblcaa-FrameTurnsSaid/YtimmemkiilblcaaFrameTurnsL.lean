/- FrameTurns' plain law: a turned byte in a sum or a body takes that frame, and all behind it, away. -/
import Derived.Test.YtimmemkiilblcaaFrameCutsL
import Derived.Test.YtimmemkiilblcaaSumBurst
namespace Go.Proofs.Ytimmemkiilblcaa
set_option linter.unusedVariables false
set_option linter.unusedSimpArgs false
open Go.RowKit
theorem xor_back (x y : UInt8) : x ^^^ y ^^^ x = y := by
  rw [UInt8.xor_comm x y, UInt8.xor_assoc, UInt8.xor_self, UInt8.xor_zero]
theorem num_turn : ∀ (a : List UInt8) (i : Nat) (y : UInt8), i < a.length → num (xor2 (a.set i (a.getD i 0 ^^^ y)) a) = y.toNat * 2 ^ (8 * i)
  | x :: a, 0, y, _ => by
    simp only [List.set_cons_zero, List.getD_cons_zero, xor2, num, xor2_self, xor_back]
    simp
  | x :: a, i + 1, y, h => by
    simp only [List.length_cons] at h
    have ih := num_turn a i y (by omega)
    simp only [List.set_cons_succ, List.getD_cons_succ, xor2, num, ih]
    rw [show 8 * (i + 1) = 8 * i + 8 by omega, Nat.pow_add, UInt8.xor_self]
    simp only [UInt8.toNat_zero]
    rw [← Nat.mul_assoc, Nat.mul_comm _ (2 ^ 8)]
    simp
    rw [Nat.mul_comm 256 y.toNat, Nat.mul_assoc]
  | [], i, y, h => by simp at h
theorem sum_turn (a : List UInt8) (i : Nat) (y : UInt8) (hi : i < a.length) (hy : y ≠ 0) : Sum (a.set i (a.getD i 0 ^^^ y)) ≠ Sum a := by
  intro h
  have h1 := (sum_eq_iff _ _ (by simp)).1 h
  rw [num_turn a i y hi, List.length_set, show 8 * a.length = 8 * i + (8 * a.length - 8 * i) by omega, iterN_add, Nat.mul_comm y.toNat, iterN_shift] at h1
  have hlt := y.toNat_lt
  have h3 := iterN_eq_zero _ _ (by omega) h1
  exact hy (UInt8.toNat_inj.1 (by simpa using h3))
theorem le4_inj {p q : BitVec 32} (h : le4 p = le4 q) : p = q := by
  have hp := p.isLt
  have hq := q.isLt
  unfold le4 at h
  simp only [List.cons.injEq, and_true] at h
  obtain ⟨h0, h1, h2, h3⟩ := h
  have k0 := congrArg UInt8.toNat h0
  have k1 := congrArg UInt8.toNat h1
  have k2 := congrArg UInt8.toNat h2
  have k3 := congrArg UInt8.toNat h3
  simp only [UInt8.toNat_ofNat'] at k0 k1 k2 k3
  apply BitVec.eq_of_toNat_eq
  omega
theorem turn_ne (l : List UInt8) (i : Nat) (y : UInt8) (hi : i < l.length) (hy : y ≠ 0) : l.set i (l.getD i 0 ^^^ y) ≠ l := by
  intro h
  have h1 := num_turn l i y hi
  rw [h, xor2_self] at h1
  have : y.toNat = 0 := by
    rcases Nat.eq_zero_or_pos y.toNat with h0 | h0
    · exact h0
    · have := Nat.mul_pos h0 (Nat.two_pow_pos (8 * i))
      omega
  exact hy (UInt8.toNat_inj.1 (by simpa using this))
/-- a frame whose sum does not fit -/
theorem frameAt_off (pre S B post : List UInt8) (hS : S.length = 4) (h1 : 1 ≤ B.length) (h2 : B.length ≤ 1048576) (hne : le4 (Sum B) ≠ S) : frameAt (pre ++ (enc B.length ++ S ++ B ++ post)) pre.length = none := by
  have hg := getAt_enc pre (S ++ B ++ post) B.length (by omega)
  have e0 : pre ++ (enc B.length ++ (S ++ B ++ post)) = pre ++ (enc B.length ++ S ++ B ++ post) := by simp
  rw [e0] at hg
  have hlen : (pre ++ (enc B.length ++ S ++ B ++ post)).length = pre.length + ((enc B.length).length + 4 + B.length + post.length) := by
    simp only [List.length_append, hS]
  have hb : ¬ (B.length < 1 ∨ 1048576 < B.length ∨ (pre ++ (enc B.length ++ S ++ B ++ post)).length < (pre.length + (enc B.length).length) + (B.length + 4)) := by rw [hlen]; omega
  have hd1 : (pre ++ (enc B.length ++ S ++ B ++ post)).drop (pre.length + (enc B.length).length + 4) = B ++ post := by
    have e1 : pre ++ (enc B.length ++ S ++ B ++ post) = (pre ++ enc B.length ++ S) ++ (B ++ post) := by simp
    rw [e1]
    exact drop_app _ _ _ (by simp [hS]; omega)
  have hd2 : (pre ++ (enc B.length ++ S ++ B ++ post)).drop (pre.length + (enc B.length).length) = S ++ (B ++ post) := by
    have e1 : pre ++ (enc B.length ++ S ++ B ++ post) = (pre ++ enc B.length) ++ (S ++ (B ++ post)) := by simp
    rw [e1]
    exact drop_app _ _ _ (by simp)
  rw [frameAt_sum hg hb, hd1, hd2, take_app _ _ _ rfl, take_app _ _ _ hS, if_neg hne]
theorem set_right (a b : List UInt8) (i : Nat) (v : UInt8) : (a ++ b).set (a.length + i) v = a ++ b.set i v := by
  rw [List.set_append_right _ _ (by omega)]
  congr 2
  omega
theorem getD_right (a b : List UInt8) (i : Nat) : (a ++ b).getD (a.length + i) 0 = b.getD i 0 := by
  rw [List.getD_eq_getElem?_getD, List.getD_eq_getElem?_getD, List.getElem?_append_right (by omega), Nat.add_sub_cancel_left]
theorem set_left (a b : List UInt8) (i : Nat) (v : UInt8) (h : i < a.length) : (a ++ b).set i v = a.set i v ++ b := by
  rw [List.set_append_left _ _ h]
theorem getD_left (a b : List UInt8) (i : Nat) (h : i < a.length) : (a ++ b).getD i 0 = a.getD i 0 := by
  simp [List.getD_eq_getElem?_getD, List.getElem?_append_left h]
/-- a byte that is turned -/
def turn (l : List UInt8) (k : Nat) (y : UInt8) : List UInt8 := l.set k (l.getD k 0 ^^^ y)
theorem turn_length (l : List UInt8) (k : Nat) (y : UInt8) : (turn l k y).length = l.length := by simp [turn]
theorem turn_right (a b : List UInt8) (i : Nat) (y : UInt8) : turn (a ++ b) (a.length + i) y = a ++ turn b i y := by
  unfold turn
  rw [set_right, getD_right]
theorem turn_left (a b : List UInt8) (i : Nat) (y : UInt8) (h : i < a.length) : turn (a ++ b) i y = turn a i y ++ b := by
  unfold turn
  rw [set_left _ _ _ _ h, getD_left _ _ _ h]
theorem turn_frame (pre x post : List UInt8) (i : Nat) (y : UInt8) (hy : y ≠ 0) (h1 : 1 ≤ x.length) (h2 : x.length ≤ 1048576) (hi0 : (enc x.length).length ≤ i) (hi1 : i < (frameEnc x).length) : frameAt (turn (pre ++ (frameEnc x ++ post)) (pre.length + i) y) pre.length = none := by
  obtain ⟨q, rfl⟩ : ∃ q, i = (enc x.length).length + q := ⟨i - (enc x.length).length, by omega⟩
  rw [frameEnc_length] at hi1
  rw [turn_right]
  have e : frameEnc x ++ post = enc x.length ++ (le4 (Sum x) ++ (x ++ post)) := by simp [frameEnc]
  rw [e, turn_right]
  by_cases hq : q < 4
  · rw [turn_left _ _ _ _ (by rw [le4_length]; exact hq)]
    have h := frameAt_off pre (turn (le4 (Sum x)) q y) x post (by rw [turn_length]; rfl) h1 h2 (fun h => turn_ne _ q y (by rw [le4_length]; exact hq) hy h.symm)
    simpa using h
  · obtain ⟨p, rfl⟩ : ∃ p, q = (le4 (Sum x)).length + p := ⟨q - 4, by rw [le4_length]; omega⟩
    rw [le4_length] at hi1
    rw [turn_right, turn_left _ _ _ _ (by omega)]
    have hlx : (turn x p y).length = x.length := turn_length _ _ _
    have h := frameAt_off pre (le4 (Sum x)) (turn x p y) post rfl (by rw [hlx]; exact h1) (by rw [hlx]; exact h2) (fun h => sum_turn x p y (by omega) hy (le4_inj h))
    rw [hlx] at h
    simpa using h
theorem enc_short {n : Nat} (h : n ≤ 2000) : (enc n).length = if 128 ≤ n then 2 else 1 := by
  by_cases h1 : n < 128
  · rw [enc_small h1, if_neg (by omega)]; rfl
  · rw [enc_large h1, enc_small (by omega), if_pos (by omega)]; rfl
/-- ████ a byte turned behind the length of the frame behind j frames leaves just these j -/
theorem turn_frames {K : List (List UInt8)} {k j : Nat} {y : UInt8} (hf : Fits K) (hs : ∀ b ∈ K, b.length ≤ 2000) (hy : y ≠ 0) (hj : j < K.length) (h1 : upF K j + (if 132 < upF K (j + 1) - upF K j then 2 else 1) ≤ k) (h2 : k < upF K (j + 1)) : frames (turn (catF K) k y) = rowF 0 (K.take j) := by
  obtain ⟨x, r, e1, e2, hx⟩ := take_next hj
  have h3 : upF K (j + 1) = upF K j + (frameEnc x).length := by rw [upF, upF, e2, catF_snoc, List.length_append]
  have h4 := enc_short (hs x hx)
  have h5 := frameEnc_length x
  obtain ⟨i, rfl⟩ : ∃ i, k = upF K j + i := ⟨k - upF K j, by split at h1 <;> omega⟩
  have h6 : (enc x.length).length ≤ i := by
    rw [h3] at h1
    rw [h4] at h5 ⊢
    by_cases hl : 128 ≤ x.length
    · rw [if_pos hl] at h5 ⊢
      rw [if_pos (by omega)] at h1
      omega
    · rw [if_neg hl] at h5 ⊢
      rw [if_neg (by omega)] at h1
      omega
  have e : catF K = catF (K.take j) ++ (frameEnc x ++ catF r) := by
    have h := catF_split K j
    rw [e1, catF] at h
    exact h
  have hz := turn_frame (catF (K.take j)) x (catF r) i y hy (hf x hx).1 (hf x hx).2 h6 (by omega)
  rw [e, upF] at *
  have ht : turn (catF (K.take j) ++ (frameEnc x ++ catF r)) ((catF (K.take j)).length + i) y = catF (K.take j) ++ turn (frameEnc x ++ catF r) i y := turn_right _ _ _ _
  rw [ht] at hz ⊢
  exact frames_row _ _ (fits_take hf j) hz
end Go.Proofs.Ytimmemkiilblcaa
