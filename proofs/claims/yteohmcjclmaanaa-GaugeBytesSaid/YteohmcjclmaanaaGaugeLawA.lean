/- Gauges that lie in blocks of the call's own. -/
import Derived.Test.YteohmcjclmaanaaGaugeB
import Derived.Lib.SmallJoins
namespace Go.Proofs.Yteohmcjclmaanaa
set_option linter.unusedVariables false
set_option linter.unusedSimpArgs false
open Go.RowKit
/-- a gauge that lies in a block of the call's own -/
def GB (W : World) (g n m l h : Nat) : Prop := Blk W g 24 #[.int .u64 (n : Int), .int .u64 (m : Int), .int .u64 (l : Int), .int .u64 (h : Int)]
section
variable {W W' : World} {g n m l h : Nat}
theorem GB.below (hB : GB W g n m l h) (hb : Below W.heap.size W W') : GB W' g n m l h := Blk.below hB hb
theorem GB.lt (hB : GB W g n m l h) : g < W.heap.size := Blk.lt hB
theorem GB.drew (hB : GB W g n m l h) : GB W.drew g n m l h := hB
theorem GB.cells (hB : GB W g n m l h) : W.cell? ⟨g, 0, none⟩ = some (.int .u64 (n : Int)) ∧ W.cell? ⟨g, 1, none⟩ = some (.int .u64 (m : Int)) ∧ W.cell? ⟨g, 2, none⟩ = some (.int .u64 (l : Int)) ∧ W.cell? ⟨g, 3, none⟩ = some (.int .u64 (h : Int)) :=
  ⟨by rw [Blk.cell hB]; rfl, by rw [Blk.cell hB]; rfl, by rw [Blk.cell hB]; rfl, by rw [Blk.cell hB]; rfl⟩
theorem GB.marks (hB : GB W g n m l h) : W.frozen? ⟨g, 0, none⟩ = false ∧ W.frozen? ⟨g, 1, none⟩ = false ∧ W.frozen? ⟨g, 2, none⟩ = false ∧ W.frozen? ⟨g, 3, none⟩ = false :=
  ⟨Blk.frozen hB 0, Blk.frozen hB 1, Blk.frozen hB 2, Blk.frozen hB 3⟩
theorem GB.rules (hB : GB W g n m l h) : (∀ V : World, Below W.heap.size W V → V.cell? ⟨g, 0, none⟩ = some (.int .u64 (n : Int))) ∧ (∀ V : World, Below W.heap.size W V → V.cell? ⟨g, 1, none⟩ = some (.int .u64 (m : Int))) ∧
    (∀ V : World, Below W.heap.size W V → V.cell? ⟨g, 2, none⟩ = some (.int .u64 (l : Int))) ∧ (∀ V : World, Below W.heap.size W V → V.cell? ⟨g, 3, none⟩ = some (.int .u64 (h : Int))) :=
  ⟨fun V hb => (hB.below hb).cells.1, fun V hb => (hB.below hb).cells.2.1, fun V hb => (hB.below hb).cells.2.2.1, fun V hb => (hB.below hb).cells.2.2.2⟩
theorem GB.new (W : World) (n m l h : Nat) : GB (W.alloc (.cells #[.int .u64 (n : Int), .int .u64 (m : Int), .int .u64 (l : Int), .int .u64 (h : Int)] 24)) W.heap.size n m l h := Blk.new _ _ _
theorem GB.new2 (W : World) (o : Obj) (n m l h : Nat) : GB ((W.alloc o).alloc (.cells #[.int .u64 (n : Int), .int .u64 (m : Int), .int .u64 (l : Int), .int .u64 (h : Int)] 24)) (W.heap.size + 1) n m l h := by
  have := GB.new (W.alloc o) n m l h
  simpa using this
theorem GB.new3 (W : World) (o o' : Obj) (n m l h : Nat) : GB (((W.alloc o).alloc o').alloc (.cells #[.int .u64 (n : Int), .int .u64 (m : Int), .int .u64 (l : Int), .int .u64 (h : Int)] 24)) (W.heap.size + 1 + 1) n m l h := by
  have := GB.new ((W.alloc o).alloc o') n m l h
  simpa using this
theorem GB.alloc (hB : GB W g n m l h) (o : Obj) : GB (W.alloc o) g n m l h := Blk.alloc hB o
end
open Go.Joins Go.ChangeShapes Go.WideShapes in
theorem open_gauge {H : Type} {enc : TypeId × Value → H} {w : World} {base : Nat} {spare : Nat → Bool} {held : Bool} {r : Reach} {b0 : Nat} {v : Value} {d : DataW H} {p : List MemPlace}
    (hv : Value.okWide Try.prog w r b0 24 v) (h : DataW.Trod enc Try.prog w base spare held 24 v d p) : ∃ g : G4, v = gval g ∧ g.wf := by
  obtain ⟨v0, v1, v2, v3, y0, y1, y2, y3, n, rfl, _, _, h0, h1, h2, h3⟩ := open_agg4 Try.underlying24 (by kernel_rfl) (by kernel_rfl) hv h
  obtain ⟨n0, e0, _, g0⟩ := DataW.trod_int Try.underlying22 h0
  obtain ⟨n1, e1, _, g1⟩ := DataW.trod_int Try.underlying22 h1
  obtain ⟨n2, e2, _, g2⟩ := DataW.trod_int Try.underlying22 h2
  obtain ⟨n3, e3, _, g3⟩ := DataW.trod_int Try.underlying22 h3
  simp only [List.cons.injEq, and_true] at e0 e1 e2 e3
  have hw : ∀ x : Int, (Lit.int .u64 x).wf = true → ∃ k : Nat, x = (k : Int) ∧ k < 18446744073709551616 := by
    intro x h
    simp [Lit.wf, IntKind.min, IntKind.max, IntKind.signed, IntKind.bits] at h
    exact ⟨x.toNat, by omega, by omega⟩
  obtain ⟨k0, rfl, l0⟩ := hw n0 g0
  obtain ⟨k1, rfl, l1⟩ := hw n1 g1
  obtain ⟨k2, rfl, l2⟩ := hw n2 g2
  obtain ⟨k3, rfl, l3⟩ := hw n3 g3
  subst e0 e1 e2 e3
  exact ⟨⟨k0, k1, k2, k3⟩, rfl, l0, l1, l2, l3⟩
end Go.Proofs.Yteohmcjclmaanaa
