/- Numbers and texts one behind the other: the plain law. -/
import Derived.Test.YtfgmgmnhelodaaaBackLaw
import Derived.Test.YtfgmgmnhelodaaaStrs
namespace Go.Proofs.Ytfgmgmnhelodaaa
set_option linter.unusedVariables false
set_option linter.unusedSimpArgs false
open Go.RowKit
def numPart (l : List Nat) (k : Nat) : List UInt8 := if k < l.length then enc (l.getD k 0) else []
def strPart (ss : List ByteArray) (k : Nat) : List UInt8 := if k < ss.length then encText (ss.getD k ByteArray.empty).data.toList else []
def cat (l : List Nat) (ss : List ByteArray) : Nat → List UInt8
  | 0 => []
  | k + 1 => (cat l ss k ++ numPart l k) ++ strPart ss k
theorem cat_succ (l : List Nat) (ss : List ByteArray) (k : Nat) : cat l ss (k + 1) = (cat l ss k ++ numPart l k) ++ strPart ss k := rfl
theorem numPart_in {l : List Nat} {k : Nat} (h : k < l.length) : numPart l k = enc (l.getD k 0) := if_pos h
theorem numPart_out {l : List Nat} {k : Nat} (h : ¬ k < l.length) : numPart l k = [] := if_neg h
theorem strPart_in {ss : List ByteArray} {k : Nat} (h : k < ss.length) : strPart ss k = encText (ss.getD k ByteArray.empty).data.toList := if_pos h
theorem strPart_out {ss : List ByteArray} {k : Nat} (h : ¬ k < ss.length) : strPart ss k = [] := if_neg h
theorem numPart_le {l : List Nat} (hlt : ∀ n ∈ l, n < 18446744073709551616) (k : Nat) : (numPart l k).length ≤ 10 := by
  unfold numPart
  split
  · rename_i h
    exact enc_le10 (getD_lt hlt h)
  · simp
theorem encText_le (s : ByteArray) (h : s.size < 18446744073709551616) : (encText s.data.toList).length ≤ 10 + s.size := by
  have hd : s.data.toList.length = s.size := by rw [Array.length_toList]; rfl
  have := enc_le10 (v := s.data.toList.length) (by omega)
  simp only [encText, List.length_append]
  omega
theorem cat_le {l : List Nat} {ss : List ByteArray} (hlt : ∀ n ∈ l, n < 18446744073709551616) (hs : sizes ss ≤ 1048576) : ∀ k, (cat l ss k).length ≤ 20 * k + sizes (ss.take k)
  | 0 => by simp [cat]
  | k + 1 => by
    have h1 := cat_le hlt hs k
    have h2 := numPart_le hlt k
    rw [cat_succ, List.length_append, List.length_append]
    by_cases hk : k < ss.length
    · have h3 := sizes_getD ss k hk
      have h4 := encText_le (ss.getD k ByteArray.empty) (by omega)
      rw [strPart_in hk, sizes_take_succ ss k hk]
      omega
    · rw [strPart_out hk, List.take_of_length_le (by omega : ss.length ≤ k + 1)]
      rw [List.take_of_length_le (by omega : ss.length ≤ k)] at h1
      simp only [List.length_nil]
      omega
theorem cat_bound {l : List Nat} {ss : List ByteArray} (hlt : ∀ n ∈ l, n < 18446744073709551616) (hs : sizes ss ≤ 1048576) (k : Nat) (hk : k ≤ 101) : (cat l ss k).length ≤ 1050600 := by
  have h1 := cat_le hlt hs k
  have h2 := sizes_take ss k
  omega
theorem cat_pre (l : List Nat) (ss : List ByteArray) (n : Nat) : ∀ k, k ≤ n → ∃ r, cat l ss n = cat l ss k ++ r := by
  induction n with
  | zero => intro k hk; obtain rfl : k = 0 := by omega
            exact ⟨[], by simp⟩
  | succ n ih =>
    intro k hk
    by_cases h : k = n + 1
    · subst h; exact ⟨[], by simp⟩
    · obtain ⟨r, hr⟩ := ih k (by omega)
      exact ⟨(r ++ numPart l n) ++ strPart ss n, by rw [cat_succ, hr]; simp⟩
/-- the number of the round k -/
theorem cat_num {l : List Nat} {ss : List ByteArray} {n k : Nat} (hlt : ∀ x ∈ l, x < 18446744073709551616) (hk : k < n) (hl : k < l.length) :
    getAt (cat l ss n) ((cat l ss k).length : Int) = some (l.getD k 0, (cat l ss k ++ numPart l k).length) := by
  obtain ⟨r, hr⟩ := cat_pre l ss n (k + 1) hk
  rw [hr, cat_succ, numPart_in hl, List.append_assoc, List.append_assoc, getAt_enc _ _ _ (getD_lt hlt hl), List.length_append]
/-- the text of the round k -/
theorem cat_text {l : List Nat} {ss : List ByteArray} {n k : Nat} (hs : sizes ss ≤ 1048576) (hk : k < n) (hl : k < ss.length) :
    getText (cat l ss n) ((cat l ss k ++ numPart l k).length : Int) ((ss.getD k ByteArray.empty).size : Int) = some ((ss.getD k ByteArray.empty).data.toList, (cat l ss (k + 1)).length) := by
  obtain ⟨r, hr⟩ := cat_pre l ss n (k + 1) hk
  have h3 := sizes_getD ss k hl
  have hd : (ss.getD k ByteArray.empty).data.toList.length = (ss.getD k ByteArray.empty).size := by rw [Array.length_toList]; rfl
  have h4 := getText_enc (cat l ss k ++ numPart l k) (ss.getD k ByteArray.empty).data.toList r (by omega)
  rw [hd] at h4
  rw [hr, cat_succ, strPart_in hl, List.append_assoc (cat l ss k ++ numPart l k), h4]
  simp only [List.length_append]
theorem getAt_end (bs : List UInt8) : getAt bs (bs.length : Int) = none := by
  rw [getAt_nat, List.drop_length, dec_nil]
  rfl
end Go.Proofs.Ytfgmgmnhelodaaa
