/- Strings in slices: read. -/
import Derived.Test.YtimmemkiilblcaaCommon
import Derived.Test.YtimmemkiilblcaaBulk
import Derived.SliceStrings
namespace Go.Proofs.Ytimmemkiilblcaa
set_option linter.unusedVariables false
set_option linter.unusedSimpArgs false
open Go.RowKit
def strv (l : List ByteArray) : List Value := l.map fun s => .string s
def ReadsS (w : World) (A : Option Addr) (l : List ByteArray) : Prop := Reads w A (strv l)
theorem ReadsS.below {w w1 : World} {A : Option Addr} {l : List ByteArray} (h : ReadsS w A l) (hb : Below w.heap.size w w1) : ReadsS w1 A l := Reads.below h hb
theorem ReadsS.at {w : World} {A : Option Addr} {l : List ByteArray} (h : ReadsS w A l) {k : Nat} (hk : k < l.length) : ∃ ad, A = some ad ∧ w.cell? (ad.add k) = some (.string (l.getD k ByteArray.empty)) := by
  obtain ⟨ad, e, hc⟩ := h (by simp [strv]; omega)
  refine ⟨ad, e, hc k _ ?_⟩
  simp [strv, List.getElem?_eq_getElem hk]
theorem readsS_of_strings {w : World} {x : Addr} {len cap : Nat} {zs : List ByteArray} (hl : len ≤ cap) (hz : zs.length = cap) (hc : ∀ i, i < zs.length → w.cell? (x.add i) = some (.string (zs.getD i ByteArray.empty))) :
    ∃ l : List ByteArray, l.length = len ∧ ReadsS w (some x) l ∧ l = zs.take len := by
  refine ⟨zs.take len, by simp; omega, fun _ => ⟨x, rfl, fun j u hu => ?_⟩, rfl⟩
  simp only [strv, List.getElem?_map, Option.map_eq_some_iff] at hu
  obtain ⟨z, hz', rfl⟩ := hu
  rw [List.getElem?_take] at hz'
  split at hz'
  · have hj : j < zs.length := by omega
    rw [List.getElem?_eq_getElem hj] at hz'
    injection hz' with hz'
    subst hz'
    rw [hc j hj]
    simp [List.getElem?_eq_getElem hj]
  · cases hz'
def sizes (l : List ByteArray) : Nat := (l.map fun s => s.size).sum
theorem sizes_cons (s : ByteArray) (l : List ByteArray) : sizes (s :: l) = s.size + sizes l := by simp [sizes]
theorem sizes_bulk {H : Type} (l : List ByteArray) : sizes l ≤ Rows.uptoBulkAll (ChangeShapes.strs (H := H) l) := by
  induction l with
  | nil => simp [sizes]
  | cons s l ih =>
    have h1 : s.data.toList.length = s.size := by rw [Array.length_toList]; rfl
    simp only [ChangeShapes.strs, List.map_cons, Rows.uptoBulkAll] at ih ⊢
    rw [bulk_string, h1, sizes_cons]
    omega
theorem sizes_mem {l : List ByteArray} {s : ByteArray} (h : s ∈ l) : s.size ≤ sizes l := by
  induction l with
  | nil => cases h
  | cons x l ih =>
    rw [sizes_cons]
    rcases List.mem_cons.1 h with rfl | h
    · omega
    · have := ih h; omega
theorem sizes_getD (l : List ByteArray) (k : Nat) (h : k < l.length) : (l.getD k ByteArray.empty).size ≤ sizes l := by
  rw [show l.getD k ByteArray.empty = l[k] by simp [List.getElem?_eq_getElem h]]
  exact sizes_mem (List.getElem_mem h)
theorem sizes_take_succ (l : List ByteArray) (k : Nat) (h : k < l.length) : sizes (l.take (k + 1)) = sizes (l.take k) + (l.getD k ByteArray.empty).size := by
  rw [List.take_succ_eq_append_getElem h, sizes, List.map_append, List.sum_append]
  simp [sizes, List.getElem?_eq_getElem h]
theorem sizes_take (l : List ByteArray) (k : Nat) : sizes (l.take k) ≤ sizes l := by
  induction l generalizing k with
  | nil => simp [sizes]
  | cons s l ih =>
    cases k with
    | zero => simp [sizes]
    | succ k => rw [List.take_succ_cons, sizes_cons, sizes_cons]; have := ih k; omega
end Go.Proofs.Ytimmemkiilblcaa
