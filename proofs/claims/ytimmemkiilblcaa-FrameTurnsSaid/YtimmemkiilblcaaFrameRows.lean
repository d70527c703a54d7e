/- The plain law: a row of laid frames. -/
import Derived.Test.YtimmemkiilblcaaFrameMath
namespace Go.Proofs.Ytimmemkiilblcaa
set_option linter.unusedVariables false
set_option linter.unusedSimpArgs false
open Go.RowKit
/-- bodies in frames, one behind the other -/
def catF : List (List UInt8) → List UInt8
  | [] => []
  | b :: r => frameEnc b ++ catF r
def rowF (a : Nat) : List (List UInt8) → List Fr
  | [] => []
  | b :: r => (a, b, a + (frameEnc b).length) :: rowF (a + (frameEnc b).length) r
/-- bodies that can be laid -/
def Fits (l : List (List UInt8)) : Prop := ∀ b ∈ l, 1 ≤ b.length ∧ b.length ≤ 1048576
theorem catF_append (a b : List (List UInt8)) : catF (a ++ b) = catF a ++ catF b := by
  induction a with
  | nil => rfl
  | cons x r ih => simp [catF, ih]
theorem framesN_row (l : List (List UInt8)) : ∀ (pre tail : List UInt8) (k : Nat), Fits l → (pre ++ (catF l ++ tail)).length < pre.length + k → frameAt (pre ++ (catF l ++ tail)) (pre.length + (catF l).length) = none → framesN k (pre ++ (catF l ++ tail)) pre.length = rowF pre.length l := by
  induction l with
  | nil =>
    intro pre tail k _ _ ht
    exact framesN_none (by simpa [catF] using ht)
  | cons b r ih =>
    intro pre tail k hf hk ht
    obtain ⟨h1, h2⟩ := hf b (by simp)
    have hfr := frameAt_enc pre b (catF r ++ tail) h1 h2
    have e1 : pre ++ (catF (b :: r) ++ tail) = pre ++ (frameEnc b ++ (catF r ++ tail)) := by simp [catF]
    have e2 : pre ++ (frameEnc b ++ (catF r ++ tail)) = (pre ++ frameEnc b) ++ (catF r ++ tail) := by simp
    have e3 : (pre ++ frameEnc b).length = pre.length + (frameEnc b).length := by simp
    rw [e1] at hk ht ⊢
    obtain ⟨k', rfl, hk2, hs⟩ := framesN_some hfr hk
    rw [hs, rowF]
    congr 1
    rw [e2] at hk2 ht ⊢
    rw [← e3]
    refine ih (pre ++ frameEnc b) tail k' (fun x hx => hf x (by simp [hx])) (by rw [e3]; omega) ?_
    rw [e3]
    have e4 : pre.length + (catF (b :: r)).length = pre.length + (frameEnc b).length + (catF r).length := by simp [catF]; omega
    rw [← e4]
    exact ht
theorem frames_row (l : List (List UInt8)) (tail : List UInt8) (hf : Fits l) (ht : frameAt (catF l ++ tail) (catF l).length = none) : frames (catF l ++ tail) = rowF 0 l := by
  have h := framesN_row l [] tail ((catF l ++ tail).length + 1) hf (by simp) (by simpa using ht)
  simpa [frames] using h
theorem getAt_cut (pre : List UInt8) (v m : Nat) (h : v < 18446744073709551616) (hm : m < (enc v).length) : getAt (pre ++ (enc v).take m) (pre.length : Int) = none := by
  have hd : dec 10 (enc v) = some (v, (enc v).length) := by
    have := dec_enc 9 v [] (by omega) (by omega)
    rwa [List.append_nil] at this
  rw [getAt, if_neg (by omega), Int.toNat_natCast, drop_app _ _ _ rfl, dec_short 10 _ _ _ _ hd hm]
  rfl
theorem frameAt_cut (pre body : List UInt8) (m : Nat) (h1 : 1 ≤ body.length) (h2 : body.length ≤ 1048576) (hm : m < (frameEnc body).length) : frameAt (pre ++ (frameEnc body).take m) pre.length = none := by
  by_cases hlt : m < (enc body.length).length
  · have e : (frameEnc body).take m = (enc body.length).take m := by
      unfold frameEnc
      rw [List.append_assoc, List.take_append_of_le_length (by omega)]
    rw [e]
    exact frameAt_num (getAt_cut pre body.length m (by omega) hlt)
  · have hg : getAt (pre ++ (frameEnc body).take m) (pre.length : Int) = some (body.length, pre.length + (enc body.length).length) := by
      have e : (frameEnc body).take m = enc body.length ++ (le4 (Sum body) ++ body).take (m - (enc body.length).length) := by
        unfold frameEnc
        rw [List.append_assoc, List.take_append, List.take_of_length_le (by omega)]
      rw [e]
      exact getAt_enc pre _ body.length (by omega)
    refine frameAt_bad hg (.inr (.inr ?_))
    rw [frameEnc_length] at hm
    rw [List.length_append, List.length_take, frameEnc_length]
    omega
end Go.Proofs.Ytimmemkiilblcaa
