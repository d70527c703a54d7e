/- Numbers that came in; the loops of the statements on gauges: the walks. -/
import Derived.Test.YteohmcjclmaanaaGaugeLawC
import Derived.StillTailTactics
namespace Go.Proofs.Yteohmcjclmaanaa
set_option linter.unusedVariables false
set_option linter.unusedSimpArgs false
open Go.RowKit
def u64s (l : List Nat) : List Value := l.map fun n : Nat => .int .u64 (n : Int)
theorem u64s_length (l : List Nat) : (u64s l).length = l.length := by simp [u64s]
theorem u64s_append (a b : List Nat) : u64s (a ++ b) = u64s a ++ u64s b := by simp [u64s]
theorem u64s_one (l : List Nat) : ∀ u ∈ u64s l, u.oneCell' = true := by
  intro u hu
  simp only [u64s, List.mem_map] at hu
  obtain ⟨b, _, rfl⟩ := hu
  rfl
def ReadsN (w : World) (A : Option Addr) (l : List Nat) : Prop := Reads w A (u64s l)
theorem ReadsN.below {w w1 : World} {A : Option Addr} {l : List Nat} (h : ReadsN w A l) (hb : Below w.heap.size w w1) : ReadsN w1 A l := Reads.below h hb
theorem ReadsN.at {w : World} {A : Option Addr} {l : List Nat} (h : ReadsN w A l) {k : Nat} (hk : k < l.length) : ∃ ad, A = some ad ∧ w.cell? (ad.add k) = some (.int .u64 ((l.getD k 0 : Nat) : Int)) := by
  obtain ⟨ad, e, hc⟩ := h (by rw [u64s_length]; omega)
  refine ⟨ad, e, hc k _ ?_⟩
  simp [u64s, List.getElem?_eq_getElem hk]
theorem ReadsN.drew {w : World} {A : Option Addr} {l : List Nat} (h : ReadsN w A l) : ReadsN w.drew A l := h
theorem ReadsN.drewN {w : World} {A : Option Addr} {l : List Nat} (h : ReadsN w A l) (n : Nat) : ReadsN (w.drewN n) A l := h
theorem readsN_of_ints {w : World} {x : Addr} {len cap : Nat} {zs : List Int} (hl : len ≤ cap) (hz : zs.length = cap) (hc : ∀ i, i < zs.length → w.cell? (x.add i) = some (.int .u64 (zs.getD i 0))) (hw : ∀ n ∈ zs, (Lit.int .u64 n).wf = true) :
    ∃ l : List Nat, l.length = len ∧ ReadsN w (some x) l ∧ ∀ n ∈ l, n < 18446744073709551616 := by
  have hbd : ∀ n ∈ zs, 0 ≤ n ∧ n < 18446744073709551616 := by
    intro n hn
    have := hw n hn
    simp [Lit.wf, IntKind.min, IntKind.max, IntKind.signed, IntKind.bits] at this
    omega
  refine ⟨(zs.take len).map fun z => z.toNat, by simp; omega, fun _ => ⟨x, rfl, fun j u hu => ?_⟩, ?_⟩
  · simp only [u64s, List.map_map, List.getElem?_map, Option.map_eq_some_iff] at hu
    obtain ⟨z, hz', rfl⟩ := hu
    rw [List.getElem?_take] at hz'
    split at hz'
    · have hj : j < zs.length := by omega
      rw [List.getElem?_eq_getElem hj] at hz'
      injection hz' with hz'
      subst hz'
      rw [hc j hj]
      have := hbd zs[j] (List.getElem_mem hj)
      simp [List.getD_eq_getElem?_getD, List.getElem?_eq_getElem hj]
      omega
    · cases hz'
  · intro n hn
    simp only [List.mem_map] at hn
    obtain ⟨z, hz', rfl⟩ := hn
    have := hbd z (List.mem_of_mem_take hz')
    omega

/-! ### a gauge written anew -/
def set4 (W : World) (g n m l h : Nat) : World := (((W.setCell ⟨g, 0, none⟩ (.int .u64 (n : Int))).setCell ⟨g, 1, none⟩ (.int .u64 (m : Int))).setCell ⟨g, 2, none⟩ (.int .u64 (l : Int))).setCell ⟨g, 3, none⟩ (.int .u64 (h : Int))
section
variable {W : World} {g g' n m l h n' m' l' h' : Nat}
theorem GB.set4 (hB : GB W g n m l h) : GB (set4 W g n' m' l' h') g n' m' l' h' :=
  Blk.set_ (Blk.set_ (Blk.set_ (Blk.set_ hB 0 (.int .u64 (n' : Int))) 1 (.int .u64 (m' : Int))) 2 (.int .u64 (l' : Int))) 3 (.int .u64 (h' : Int))
theorem GB.far4 (hB : GB W g' n m l h) (hne : g' ≠ g) : GB (Go.Proofs.Yteohmcjclmaanaa.set4 W g n' m' l' h') g' n m l h :=
  Blk.far (Blk.far (Blk.far (Blk.far hB (p := ⟨g, 0, none⟩) hne (.int .u64 (n' : Int))) (p := ⟨g, 1, none⟩) hne (.int .u64 (m' : Int))) (p := ⟨g, 2, none⟩) hne (.int .u64 (l' : Int))) (p := ⟨g, 3, none⟩) hne (.int .u64 (h' : Int))
theorem below_set4 {B : Nat} {w : World} (hb : Below B w W) (hg : B ≤ g) : Below B w (set4 W g n m l h) :=
  (((hb.setCell (p := ⟨g, 0, none⟩) hg _).setCell (p := ⟨g, 1, none⟩) hg _).setCell (p := ⟨g, 2, none⟩) hg _).setCell (p := ⟨g, 3, none⟩) hg _
end
theorem set4_size (W : World) (g n m l h : Nat) : (set4 W g n m l h).heap.size = W.heap.size := by simp [set4]
theorem getD_lt {l : List Nat} (hl : ∀ n ∈ l, n < 18446744073709551616) {k : Nat} (hk : k < l.length) : l.getD k 0 < 18446744073709551616 := by
  rw [List.getD_eq_getElem?_getD, List.getElem?_eq_getElem hk]
  exact hl _ (List.getElem_mem hk)
theorem take_snoc {l : List Nat} {k : Nat} (hk : k < l.length) : l.take (k + 1) = l.take k ++ [l.getD k 0] := by
  rw [List.take_succ_eq_append_getElem hk, List.getD_eq_getElem?_getD, List.getElem?_eq_getElem hk]
  rfl
theorem add_all_step (g : G4) {l : List Nat} {k : Nat} (hk : k < l.length) : addAll g (l.take (k + 1)) = addG (addAll g (l.take k)) (l.getD k 0) := by rw [take_snoc hk, add_all_snoc]
end Go.Proofs.Yteohmcjclmaanaa
