/- FrameCuts' plain law: what a cut row of frames still holds. -/
import Derived.Test.YtimmemkiilblcaaFrameManyL
namespace Go.Proofs.Ytimmemkiilblcaa
set_option linter.unusedVariables false
set_option linter.unusedSimpArgs false
open Go.RowKit
theorem catF_split (K : List (List UInt8)) (j : Nat) : catF K = catF (K.take j) ++ catF (K.drop j) := by rw [← catF_append, List.take_append_drop]
theorem fits_take {K : List (List UInt8)} (hf : Fits K) (j : Nat) : Fits (K.take j) := fun b hb => hf b (List.mem_of_mem_take hb)
theorem take_next {K : List (List UInt8)} {j : Nat} (hj : j < K.length) : ∃ x r, K.drop j = x :: r ∧ K.take (j + 1) = K.take j ++ [x] ∧ x ∈ K := by
  refine ⟨K[j], K.drop (j + 1), List.drop_eq_getElem_cons hj, ?_, List.getElem_mem hj⟩
  rw [List.take_succ_eq_append_getElem hj]
/-- the place behind j bodies -/
def upF (K : List (List UInt8)) (j : Nat) : Nat := (catF (K.take j)).length
theorem upF_zero (K : List (List UInt8)) : upF K 0 = 0 := rfl
theorem upF_all (K : List (List UInt8)) : upF K K.length = (catF K).length := by rw [upF, List.take_length]
theorem upF_next {K : List (List UInt8)} {j : Nat} (hj : j < K.length) : ∃ x, x ∈ K ∧ upF K (j + 1) = upF K j + (frameEnc x).length := by
  obtain ⟨x, r, _, h2, hx⟩ := take_next hj
  refine ⟨x, hx, ?_⟩
  rw [upF, upF, h2, catF_snoc, List.length_append]
theorem upF_lt {K : List (List UInt8)} {j : Nat} (hj : j < K.length) : upF K j < upF K (j + 1) := by
  obtain ⟨x, _, h⟩ := upF_next hj
  rw [h, frameEnc_length]
  omega
theorem upF_le {K : List (List UInt8)} (j : Nat) : upF K j ≤ (catF K).length := by
  rw [catF_split K j, List.length_append, upF]
  omega
theorem ends_at {K : List (List UInt8)} {j : Nat} (hj : j < K.length) : (endsV K)[j]? = some (.int .i64 (upF K (j + 1) : Int)) := by
  obtain ⟨x, r, h1, h2, _⟩ := take_next hj
  have e : K = K.take j ++ x :: r := by rw [← h1, List.take_append_drop]
  have hl : (K.take j).length = j := by rw [List.length_take]; omega
  have h := rowF_at (K.take j) r x 0
  rw [← e, hl] at h
  rw [endsV, List.getElem?_map, h, upF, h2]
  simp
theorem endOf_row (l : List (List UInt8)) : endOf (rowF 0 l) = (catF l).length := by
  rcases hr : l.reverse with _ | ⟨x, t⟩
  · have : l = [] := by simpa using congrArg List.reverse hr
    subst this
    rfl
  · have : l = t.reverse ++ [x] := by simpa using congrArg List.reverse hr
    subst this
    rw [rowF_snoc, endOf_snoc]
    simp
/-- a cut row of frames holds just those that are whole -/
theorem cut_frames {K : List (List UInt8)} {k j : Nat} (hf : Fits K) (hk : k ≤ (catF K).length) (hj : j ≤ K.length) (h1 : upF K j ≤ k) (h2 : j = K.length ∨ k < upF K (j + 1)) : frames ((catF K).take k) = rowF 0 (K.take j) := by
  obtain ⟨p, hp⟩ : ∃ p, upF K j = p := ⟨_, rfl⟩
  have e : (catF K).take k = catF (K.take j) ++ (catF (K.drop j)).take (k - upF K j) := by
    rw [catF_split K j, List.take_append, List.take_of_length_le (by rw [← upF]; omega)]
    rfl
  rw [e]
  refine frames_row _ _ (fits_take hf j) ?_
  by_cases hl : j = K.length
  · have h3 := upF_all K
    rw [← hl] at h3
    refine frameAt_far ?_
    rw [List.length_append, List.length_take, hl, List.drop_length]
    simp [catF]
  · obtain ⟨x, r, e1, e2, hx⟩ := take_next (show j < K.length by omega)
    obtain ⟨y, _, _⟩ := upF_next (show j < K.length by omega)
    have h3 : upF K (j + 1) = upF K j + (frameEnc x).length := by rw [upF, upF, e2, catF_snoc, List.length_append]
    have h4 : k - upF K j < (frameEnc x).length := by omega
    rw [e1, catF, List.take_append_of_le_length (by omega)]
    exact frameAt_cut _ x _ (hf x hx).1 (hf x hx).2 h4
theorem told_row {bs : List UInt8} {l : List (List UInt8)} (h : frames bs = rowF 0 l) (hl : l.length ≤ 1000) : (toldOf bs 1000).length = l.length ∧ endOf (frames bs) = (catF l).length := by
  refine ⟨?_, by rw [h, endOf_row]⟩
  rw [toldOf, h, List.length_take, rowF_length]
  show min 1000 _ = _
  omega
end Go.Proofs.Ytimmemkiilblcaa
