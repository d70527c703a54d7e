/- Bodies laid in frames: the statements' laid. -/
import Derived.Test.YtimmemkiilblcaaFrameRows
import Derived.Test.YtimmemkiilblcaaFrameTell
import Derived.Test.YtimmemkiilblcaaStrs
import Derived.Lib.ConvBytes
namespace Go.Proofs.Ytimmemkiilblcaa
set_option linter.unusedVariables false
set_option linter.unusedSimpArgs false
open Go.RowKit
theorem bytes_reads (w : World) (s : ByteArray) : ReadsB (Lib.bytesWorld w 5 s) (some ⟨w.heap.size, 0, none⟩) s.data.toList := by
  intro _
  refine ⟨_, rfl, fun j u hu => ?_⟩
  simp only [u8s, List.getElem?_map, Option.map_eq_some_iff] at hu
  obtain ⟨b, hb, rfl⟩ := hu
  have hj : j < s.size := by
    have := (List.getElem?_eq_some_iff.1 hb).1
    rwa [Array.length_toList] at this
  rw [add_plain]
  rw [Lib.bytesWorld_cell w 5 s j hj, List.getD_eq_getElem?_getD, hb]
  rfl
theorem bytes_below (w : World) (s : ByteArray) : Below w.heap.size w (Lib.bytesWorld w 5 s) :=
  ⟨rfl, rfl, rfl, by rw [Lib.bytesWorld_size]; omega, fun k hk => Lib.bytesWorld_at_old w 5 s k hk⟩
/-- the bodies of the first k strings that are laid -/
def kept (ss : List ByteArray) (k : Nat) : List (List UInt8) := ((ss.take k).filter fun s => decide (1 ≤ s.size ∧ s.size ≤ 2000)).map fun s => s.data.toList
theorem kept_zero (ss : List ByteArray) : kept ss 0 = [] := by simp [kept]
theorem kept_in {ss : List ByteArray} {k : Nat} (hk : k < ss.length) (h : 1 ≤ (ss.getD k ByteArray.empty).size ∧ (ss.getD k ByteArray.empty).size ≤ 2000) : kept ss (k + 1) = kept ss k ++ [(ss.getD k ByteArray.empty).data.toList] := by
  have e : ss.getD k ByteArray.empty = ss[k] := by simp [List.getElem?_eq_getElem hk]
  rw [e] at h ⊢
  unfold kept
  rw [List.take_succ_eq_append_getElem hk, List.filter_append, List.map_append]
  simp [h]
theorem kept_out {ss : List ByteArray} {k : Nat} (hk : k < ss.length) (h : ¬ (1 ≤ (ss.getD k ByteArray.empty).size ∧ (ss.getD k ByteArray.empty).size ≤ 2000)) : kept ss (k + 1) = kept ss k := by
  have e : ss.getD k ByteArray.empty = ss[k] := by simp [List.getElem?_eq_getElem hk]
  rw [e] at h
  unfold kept
  rw [List.take_succ_eq_append_getElem hk, List.filter_append, List.map_append]
  simp only [List.filter_cons, List.filter_nil]
  rw [if_neg (by simpa using h)]
  simp
theorem kept_fits (ss : List ByteArray) (k : Nat) : Fits (kept ss k) := by
  intro b hb
  simp only [kept, List.mem_map, List.mem_filter, decide_eq_true_eq] at hb
  obtain ⟨s, ⟨_, h1, h2⟩, rfl⟩ := hb
  rw [Array.length_toList]
  have : s.data.size = s.size := rfl
  omega
end Go.Proofs.Ytimmemkiilblcaa
