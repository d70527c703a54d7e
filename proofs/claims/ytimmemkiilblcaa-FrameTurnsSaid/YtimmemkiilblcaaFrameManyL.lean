/- FrameMany's plain law. -/
import Derived.Test.YtimmemkiilblcaaFrameLaidW
import Derived.Test.YtimmemkiilblcaaFrameAllW
import Derived.Test.YtimmemkiilblcaaFrameGetsW
namespace Go.Proofs.Ytimmemkiilblcaa
set_option linter.unusedVariables false
set_option linter.unusedSimpArgs false
open Go.RowKit
theorem frames_cat (l : List (List UInt8)) (hf : Fits l) : frames (catF l) = rowF 0 l := by
  have h := frames_row l [] hf (by rw [List.append_nil]; exact frameAt_far (Nat.le_refl _))
  rwa [List.append_nil] at h
theorem told_cat (l : List (List UInt8)) (hf : Fits l) (h : l.length ≤ 1000) : toldOf (catF l) 1000 = rowF 0 l := by
  rw [toldOf, frames_cat l hf, List.take_of_length_le]
  rw [rowF_length]
  exact h
theorem rowF_at (a b : List (List UInt8)) (x : List UInt8) : ∀ p, (rowF p (a ++ x :: b))[a.length]? = some (p + (catF a).length, x, p + (catF (a ++ [x])).length) := by
  induction a with
  | nil => intro p; simp [rowF, catF]
  | cons y r ih =>
    intro p
    simp only [List.cons_append, rowF, List.length_cons, List.getElem?_cons_succ, ih, catF, List.length_append]
    simp only [Option.some.injEq, Prod.mk.injEq, true_and]
    omega
theorem frameAt_row (a b : List (List UInt8)) (x : List UInt8) (hx : 1 ≤ x.length ∧ x.length ≤ 1048576) : frameAt (catF (a ++ x :: b)) (catF a).length = some (x, (catF (a ++ [x])).length) := by
  have h := frameAt_enc (catF a) x (catF b) hx.1 hx.2
  have e : catF a ++ (frameEnc x ++ catF b) = catF (a ++ x :: b) := by simp [catF_append, catF]
  rw [e] at h
  rw [h, catF_snoc, List.length_append]
theorem kept_prefix (ss : List ByteArray) {k j : Nat} (h : k ≤ j) : ∃ r, kept ss j = kept ss k ++ r := by
  refine ⟨((((ss.take j).drop k).filter fun s => decide (1 ≤ s.size ∧ s.size ≤ 2000)).map fun s => s.data.toList), ?_⟩
  unfold kept
  rw [← List.map_append, ← List.filter_append]
  congr 2
  have e : (ss.take j).take k = ss.take k := by rw [List.take_take, Nat.min_eq_left h]
  rw [← e, List.take_append_drop]
/-- what a round finds -/
theorem kept_here {ss : List ByteArray} {K : List (List UInt8)} {k q : Nat} {s : ByteArray} (hK : kept ss 20 = K) (hk : k < 20) (hkl : k < ss.length) (hs : ss.getD k ByteArray.empty = s) (hz : 1 ≤ s.size ∧ s.size ≤ 2000) (hq : (kept ss k).length = q) :
    (kept ss (k + 1)).length = q + 1 ∧ q < K.length ∧ (rowF 0 K)[q]? = some ((catF (kept ss k)).length, s.data.toList, (catF (kept ss (k + 1))).length) ∧ frameAt (catF K) (catF (kept ss k)).length = some (s.data.toList, (catF (kept ss (k + 1))).length) := by
  have h1 := kept_in hkl (by rw [hs]; exact hz)
  rw [hs] at h1
  obtain ⟨r, hr⟩ := kept_prefix ss (show k + 1 ≤ 20 by omega)
  rw [h1, List.append_assoc] at hr
  have e : kept ss k ++ ([s.data.toList] ++ r) = kept ss k ++ s.data.toList :: r := rfl
  rw [e] at hr
  rw [hK] at hr
  have hl : s.data.toList.length = s.size := by rw [Array.length_toList]; rfl
  refine ⟨by rw [h1, List.length_append, hq]; rfl, by rw [hr, List.length_append, hq]; simp, ?_, ?_⟩
  · rw [hr, ← hq, rowF_at, h1]
    simp
  · rw [hr, h1]
    exact frameAt_row _ _ _ (by omega)
theorem catF_nil_of {ss : List ByteArray} {k : Nat} (h : (kept ss k).length = 0) : (catF (kept ss k)).length = 0 := by
  rw [List.eq_nil_of_length_eq_zero h]
  rfl
/-- the end ahead -/
theorem ends_before {ss : List ByteArray} {K : List (List UInt8)} {k q : Nat} (hK : kept ss 20 = K) (hk : k ≤ 20) (hq : (kept ss k).length = q + 1) : (rowF 0 K)[q]?.map (fun p => p.2.2) = some (catF (kept ss k)).length := by
  obtain ⟨r, hr⟩ := kept_prefix ss hk
  rw [hK] at hr
  rcases hl : (kept ss k).reverse with _ | ⟨y, t⟩
  · have h0 := congrArg List.length hl
    simp at h0
    rw [h0] at hq
    simp at hq
  · have e : kept ss k = t.reverse ++ [y] := by
      have h0 := congrArg List.reverse hl
      simpa using h0
    rw [e] at hr hq ⊢
    have hq2 : t.reverse.length = q := by simpa using hq
    have e2 : t.reverse ++ [y] ++ r = t.reverse ++ y :: r := by simp
    rw [e2] at hr
    rw [hr, ← hq2, rowF_at]
    simp
end Go.Proofs.Ytimmemkiilblcaa
