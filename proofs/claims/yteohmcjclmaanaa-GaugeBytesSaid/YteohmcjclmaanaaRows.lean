/-
  No cell of these rows narrows 'for every input' (looked for: loops, veiled, ifaces, maps, wideKeys, modest, calm, conditions, laid).
  DERIVED. THE GIVEN ROWS OF THIS SEAT. 8 by the template 'for every input the law returns true; each argument reads behind the call as it read before'; 0 by the template 'total and deterministic' (their statements: YteohmcjclmaanaaTotals.lean).
  GIVEN WITH THE SEED: the statements are not yours to turn. If you find one false, say at which input.
  Laid BY PROGRAM, IN A SANDBOX (cutbox-rows.mjs): the forced cells as the released guide's own fill.sh prints them over the translation 54fa559f38ca0d11… (all of the seat's roots in one cut). By AI agents, Wed Nov 11 2026. No macro, syntax, notation, axiom, sorry.
-/
import Derived.Test.YteohmcjclmaanaaChecked
import GoSem.Claim
import GoSem.ClaimJoined
import GoSem.ClaimMapViews
import Derived.JoinedTies
import Derived.KernelRfl
namespace Go.Proofs.Yteohmcjclmaanaa
/- THE CELL 'sum', in the pinned program and in every row, IS THE sha256 OF THE DUMP (.gsa) THAT YteohmcjclmaanaaProg.lean LOADS. Nothing in Lean hashes anything: it is a label: what it is worth is what the hold of that sum in a sandbox is worth. -/
noncomputable def Try.pinned : Pinned := { name := "yteohmcjclmaanaa", sum := "54fa559f38ca0d1126b3a48aa55171a155a6231d3731736e1f512ee2111ecc63", checked := Try.checked }
namespace Rows
def none {H : Type} : Left H := { results := [], args := [] }

/-- 'varvelaw09.GaugeTurns': WHATEVER THE INPUT: true; the input reads as it did. -/
def gaugeTurnsSpec : ChangeSpec := { name := "gaugeTurns", fn := fun _ => fun
  | [d1, d2, d3] => { results := [.lit (.bool true)], args := [d1, d2, d3] }
  | _ => none }
def gaugeTurnsRow : OpenClaim := { program := "yteohmcjclmaanaa", sum := "54fa559f38ca0d1126b3a48aa55171a155a6231d3731736e1f512ee2111ecc63", func := "varve/varvelaw09.GaugeTurns", spec := "gaugeTurns", inPlace := ["math.Float64frombits", "math/bits.Add64", "math.Float64bits"], apart := false }
def GaugeTurnsSaid : Prop := gaugeTurnsRow.holds Try.pinned (OpenSpec.ofChange gaugeTurnsSpec)

/-- ITS FALSE NEIGHBOUR: 'it returns false'. Refute it at one input. -/
def gaugeTurnsWrong : ChangeSpec := { name := "gaugeTurns", fn := fun _ => fun
  | [d1, d2, d3] => { results := [.lit (.bool false)], args := [d1, d2, d3] }
  | _ => none }
def GaugeTurnsWrongFalsely : Prop := gaugeTurnsRow.holds Try.pinned (OpenSpec.ofChange gaugeTurnsWrong)

/-- 'varvelaw09.GaugeTrue': WHATEVER THE INPUT: true; the input reads as it did. -/
def gaugeTrueSpec : ChangeSpec := { name := "gaugeTrue", fn := fun _ => fun
  | [d] => { results := [.lit (.bool true)], args := [d] }
  | _ => none }
def gaugeTrueRow : OpenClaim := { program := "yteohmcjclmaanaa", sum := "54fa559f38ca0d1126b3a48aa55171a155a6231d3731736e1f512ee2111ecc63", func := "varve/varvelaw09.GaugeTrue", spec := "gaugeTrue", inPlace := ["math.Float64frombits", "math/bits.Add64", "math.Float64bits"], apart := false }
def GaugeTrueSaid : Prop := gaugeTrueRow.holds Try.pinned (OpenSpec.ofChange gaugeTrueSpec)

/-- ITS FALSE NEIGHBOUR: 'it returns false'. Refute it at one input. -/
def gaugeTrueWrong : ChangeSpec := { name := "gaugeTrue", fn := fun _ => fun
  | [d] => { results := [.lit (.bool false)], args := [d] }
  | _ => none }
def GaugeTrueWrongFalsely : Prop := gaugeTrueRow.holds Try.pinned (OpenSpec.ofChange gaugeTrueWrong)

/-- 'varvelaw09.GaugeOne': WHATEVER THE INPUT: true; the input reads as it did. -/
def gaugeOneSpec : ChangeSpec := { name := "gaugeOne", fn := fun _ => fun
  | [d1, d2] => { results := [.lit (.bool true)], args := [d1, d2] }
  | _ => none }
def gaugeOneRow : OpenClaim := { program := "yteohmcjclmaanaa", sum := "54fa559f38ca0d1126b3a48aa55171a155a6231d3731736e1f512ee2111ecc63", func := "varve/varvelaw09.GaugeOne", spec := "gaugeOne", inPlace := ["math.Float64frombits", "math/bits.Add64", "math.Float64bits"], apart := false }
def GaugeOneSaid : Prop := gaugeOneRow.holds Try.pinned (OpenSpec.ofChange gaugeOneSpec)

/-- ITS FALSE NEIGHBOUR: 'it returns false'. Refute it at one input. -/
def gaugeOneWrong : ChangeSpec := { name := "gaugeOne", fn := fun _ => fun
  | [d1, d2] => { results := [.lit (.bool false)], args := [d1, d2] }
  | _ => none }
def GaugeOneWrongFalsely : Prop := gaugeOneRow.holds Try.pinned (OpenSpec.ofChange gaugeOneWrong)

/-- 'varvelaw09.GaugeWithin': WHATEVER THE INPUT: true; the input reads as it did. -/
def gaugeWithinSpec : ChangeSpec := { name := "gaugeWithin", fn := fun _ => fun
  | [d] => { results := [.lit (.bool true)], args := [d] }
  | _ => none }
def gaugeWithinRow : OpenClaim := { program := "yteohmcjclmaanaa", sum := "54fa559f38ca0d1126b3a48aa55171a155a6231d3731736e1f512ee2111ecc63", func := "varve/varvelaw09.GaugeWithin", spec := "gaugeWithin", inPlace := ["math.Float64frombits", "math/bits.Add64", "math.Float64bits"], apart := false }
def GaugeWithinSaid : Prop := gaugeWithinRow.holds Try.pinned (OpenSpec.ofChange gaugeWithinSpec)

/-- ITS FALSE NEIGHBOUR: 'it returns false'. Refute it at one input. -/
def gaugeWithinWrong : ChangeSpec := { name := "gaugeWithin", fn := fun _ => fun
  | [d] => { results := [.lit (.bool false)], args := [d] }
  | _ => none }
def GaugeWithinWrongFalsely : Prop := gaugeWithinRow.holds Try.pinned (OpenSpec.ofChange gaugeWithinWrong)

/-- 'varvelaw09.GaugeAdds': WHATEVER THE INPUT: true; the input reads as it did. -/
def gaugeAddsSpec : ChangeSpec := { name := "gaugeAdds", fn := fun _ => fun
  | [d1, d2] => { results := [.lit (.bool true)], args := [d1, d2] }
  | _ => none }
def gaugeAddsRow : OpenClaim := { program := "yteohmcjclmaanaa", sum := "54fa559f38ca0d1126b3a48aa55171a155a6231d3731736e1f512ee2111ecc63", func := "varve/varvelaw09.GaugeAdds", spec := "gaugeAdds", inPlace := ["math.Float64frombits", "math/bits.Add64", "math.Float64bits"], apart := false }
def GaugeAddsSaid : Prop := gaugeAddsRow.holds Try.pinned (OpenSpec.ofChange gaugeAddsSpec)

/-- ITS FALSE NEIGHBOUR: 'it returns false'. Refute it at one input. -/
def gaugeAddsWrong : ChangeSpec := { name := "gaugeAdds", fn := fun _ => fun
  | [d1, d2] => { results := [.lit (.bool false)], args := [d1, d2] }
  | _ => none }
def GaugeAddsWrongFalsely : Prop := gaugeAddsRow.holds Try.pinned (OpenSpec.ofChange gaugeAddsWrong)

/-- 'varvelaw09.GaugeMerges': WHATEVER THE INPUT: true; the input reads as it did. -/
def gaugeMergesSpec : ChangeSpec := { name := "gaugeMerges", fn := fun _ => fun
  | [d1, d2] => { results := [.lit (.bool true)], args := [d1, d2] }
  | _ => none }
def gaugeMergesRow : OpenClaim := { program := "yteohmcjclmaanaa", sum := "54fa559f38ca0d1126b3a48aa55171a155a6231d3731736e1f512ee2111ecc63", func := "varve/varvelaw09.GaugeMerges", spec := "gaugeMerges", inPlace := ["math.Float64frombits", "math/bits.Add64", "math.Float64bits"], apart := false }
def GaugeMergesSaid : Prop := gaugeMergesRow.holds Try.pinned (OpenSpec.ofChange gaugeMergesSpec)

/-- ITS FALSE NEIGHBOUR: 'it returns false'. Refute it at one input. -/
def gaugeMergesWrong : ChangeSpec := { name := "gaugeMerges", fn := fun _ => fun
  | [d1, d2] => { results := [.lit (.bool false)], args := [d1, d2] }
  | _ => none }
def GaugeMergesWrongFalsely : Prop := gaugeMergesRow.holds Try.pinned (OpenSpec.ofChange gaugeMergesWrong)

/-- 'varvelaw09.GaugeBounds': WHATEVER THE INPUT: true; the input reads as it did. -/
def gaugeBoundsSpec : ChangeSpec := { name := "gaugeBounds", fn := fun _ => fun
  | [d1, d2] => { results := [.lit (.bool true)], args := [d1, d2] }
  | _ => none }
def gaugeBoundsRow : OpenClaim := { program := "yteohmcjclmaanaa", sum := "54fa559f38ca0d1126b3a48aa55171a155a6231d3731736e1f512ee2111ecc63", func := "varve/varvelaw09.GaugeBounds", spec := "gaugeBounds", inPlace := ["math.Float64frombits", "math/bits.Add64", "math.Float64bits"], apart := false }
def GaugeBoundsSaid : Prop := gaugeBoundsRow.holds Try.pinned (OpenSpec.ofChange gaugeBoundsSpec)

/-- ITS FALSE NEIGHBOUR: 'it returns false'. Refute it at one input. -/
def gaugeBoundsWrong : ChangeSpec := { name := "gaugeBounds", fn := fun _ => fun
  | [d1, d2] => { results := [.lit (.bool false)], args := [d1, d2] }
  | _ => none }
def GaugeBoundsWrongFalsely : Prop := gaugeBoundsRow.holds Try.pinned (OpenSpec.ofChange gaugeBoundsWrong)

/-- 'varvelaw09.GaugeBytes': WHATEVER THE INPUT: true; the input reads as it did. -/
def gaugeBytesSpec : ChangeSpec := { name := "gaugeBytes", fn := fun _ => fun
  | [d1, d2, d3] => { results := [.lit (.bool true)], args := [d1, d2, d3] }
  | _ => none }
def gaugeBytesRow : OpenClaim := { program := "yteohmcjclmaanaa", sum := "54fa559f38ca0d1126b3a48aa55171a155a6231d3731736e1f512ee2111ecc63", func := "varve/varvelaw09.GaugeBytes", spec := "gaugeBytes", inPlace := ["math.Float64frombits", "math/bits.Add64", "math.Float64bits"], apart := false }
def GaugeBytesSaid : Prop := gaugeBytesRow.holds Try.pinned (OpenSpec.ofChange gaugeBytesSpec)

/-- ITS FALSE NEIGHBOUR: 'it returns false'. Refute it at one input. -/
def gaugeBytesWrong : ChangeSpec := { name := "gaugeBytes", fn := fun _ => fun
  | [d1, d2, d3] => { results := [.lit (.bool false)], args := [d1, d2, d3] }
  | _ => none }
def GaugeBytesWrongFalsely : Prop := gaugeBytesRow.holds Try.pinned (OpenSpec.ofChange gaugeBytesWrong)

/- THE SECOND FORM. 'bulk': how many values and letters a reading holds, each counted each time it is reached (what is shared counts as often as it is met; a slice's spare places count too). A statement '..UptoSaid' is the law's where the arguments, and the package variables that the reading takes, are together of bulk at most 1048576: NARROWER than '..Said'. Prove '..Said' where nothing that the law and all that it calls make is longer than what came in: it says more and counts as full. Else prove '..UptoSaid'. A law counts once. -/
mutual
def uptoBulk {H : Type} : DataW H → Nat
  | .lit (.string bytes) => bytes.length + 1
  | .lit _ => 1
  | .nil => 1
  | .ptr d => uptoBulk d + 1
  | .slice elems spare => uptoBulkAll elems + uptoBulkAll spare + 1
  | .agg parts => uptoBulkAll parts + 1
  | .iface _ d => uptoBulk d + 1
  | .map entries => uptoBulkEntries entries + 1
  | .held _ => 1
def uptoBulkAll {H : Type} : List (DataW H) → Nat
  | [] => 0
  | d :: r => uptoBulk d + uptoBulkAll r
def uptoBulkEntries {H : Type} : List (Lit × DataW H) → Nat
  | [] => 0
  | x :: r => uptoBulkEntry x + uptoBulkEntries r
def uptoBulkEntry {H : Type} : Lit × DataW H → Nat
  | (.string bytes, d) => bytes.length + uptoBulk d + 1
  | (_, d) => uptoBulk d + 1
 end
def uptoSmall : (H : Type) → List (DataW H) → Bool := fun _ ds => decide (uptoBulkAll ds ≤ 1048576)
def OpenSpec.upto (s : _root_.Go.ChangeSpec) : _root_.Go.OpenSpec := { _root_.Go.OpenSpec.ofChange s with cond := some uptoSmall }

/-- 'varvelaw09.GaugeTurns', WHERE WHAT IT READS IS OF BULK AT MOST 1048576: true; the input reads as it did. -/
def gaugeTurnsUptoRow : OpenClaim := { program := "yteohmcjclmaanaa", sum := "54fa559f38ca0d1126b3a48aa55171a155a6231d3731736e1f512ee2111ecc63", func := "varve/varvelaw09.GaugeTurns", spec := "gaugeTurns", inPlace := ["math.Float64frombits", "math/bits.Add64", "math.Float64bits"], apart := false, narrowed := true }
def GaugeTurnsUptoSaid : Prop := gaugeTurnsUptoRow.holds Try.pinned (OpenSpec.upto gaugeTurnsSpec)

/-- 'varvelaw09.GaugeTrue', WHERE WHAT IT READS IS OF BULK AT MOST 1048576: true; the input reads as it did. -/
def gaugeTrueUptoRow : OpenClaim := { program := "yteohmcjclmaanaa", sum := "54fa559f38ca0d1126b3a48aa55171a155a6231d3731736e1f512ee2111ecc63", func := "varve/varvelaw09.GaugeTrue", spec := "gaugeTrue", inPlace := ["math.Float64frombits", "math/bits.Add64", "math.Float64bits"], apart := false, narrowed := true }
def GaugeTrueUptoSaid : Prop := gaugeTrueUptoRow.holds Try.pinned (OpenSpec.upto gaugeTrueSpec)

/-- 'varvelaw09.GaugeOne', WHERE WHAT IT READS IS OF BULK AT MOST 1048576: true; the input reads as it did. -/
def gaugeOneUptoRow : OpenClaim := { program := "yteohmcjclmaanaa", sum := "54fa559f38ca0d1126b3a48aa55171a155a6231d3731736e1f512ee2111ecc63", func := "varve/varvelaw09.GaugeOne", spec := "gaugeOne", inPlace := ["math.Float64frombits", "math/bits.Add64", "math.Float64bits"], apart := false, narrowed := true }
def GaugeOneUptoSaid : Prop := gaugeOneUptoRow.holds Try.pinned (OpenSpec.upto gaugeOneSpec)

/-- 'varvelaw09.GaugeWithin', WHERE WHAT IT READS IS OF BULK AT MOST 1048576: true; the input reads as it did. -/
def gaugeWithinUptoRow : OpenClaim := { program := "yteohmcjclmaanaa", sum := "54fa559f38ca0d1126b3a48aa55171a155a6231d3731736e1f512ee2111ecc63", func := "varve/varvelaw09.GaugeWithin", spec := "gaugeWithin", inPlace := ["math.Float64frombits", "math/bits.Add64", "math.Float64bits"], apart := false, narrowed := true }
def GaugeWithinUptoSaid : Prop := gaugeWithinUptoRow.holds Try.pinned (OpenSpec.upto gaugeWithinSpec)

/-- 'varvelaw09.GaugeAdds', WHERE WHAT IT READS IS OF BULK AT MOST 1048576: true; the input reads as it did. -/
def gaugeAddsUptoRow : OpenClaim := { program := "yteohmcjclmaanaa", sum := "54fa559f38ca0d1126b3a48aa55171a155a6231d3731736e1f512ee2111ecc63", func := "varve/varvelaw09.GaugeAdds", spec := "gaugeAdds", inPlace := ["math.Float64frombits", "math/bits.Add64", "math.Float64bits"], apart := false, narrowed := true }
def GaugeAddsUptoSaid : Prop := gaugeAddsUptoRow.holds Try.pinned (OpenSpec.upto gaugeAddsSpec)

/-- 'varvelaw09.GaugeMerges', WHERE WHAT IT READS IS OF BULK AT MOST 1048576: true; the input reads as it did. -/
def gaugeMergesUptoRow : OpenClaim := { program := "yteohmcjclmaanaa", sum := "54fa559f38ca0d1126b3a48aa55171a155a6231d3731736e1f512ee2111ecc63", func := "varve/varvelaw09.GaugeMerges", spec := "gaugeMerges", inPlace := ["math.Float64frombits", "math/bits.Add64", "math.Float64bits"], apart := false, narrowed := true }
def GaugeMergesUptoSaid : Prop := gaugeMergesUptoRow.holds Try.pinned (OpenSpec.upto gaugeMergesSpec)

/-- 'varvelaw09.GaugeBounds', WHERE WHAT IT READS IS OF BULK AT MOST 1048576: true; the input reads as it did. -/
def gaugeBoundsUptoRow : OpenClaim := { program := "yteohmcjclmaanaa", sum := "54fa559f38ca0d1126b3a48aa55171a155a6231d3731736e1f512ee2111ecc63", func := "varve/varvelaw09.GaugeBounds", spec := "gaugeBounds", inPlace := ["math.Float64frombits", "math/bits.Add64", "math.Float64bits"], apart := false, narrowed := true }
def GaugeBoundsUptoSaid : Prop := gaugeBoundsUptoRow.holds Try.pinned (OpenSpec.upto gaugeBoundsSpec)

/-- 'varvelaw09.GaugeBytes', WHERE WHAT IT READS IS OF BULK AT MOST 1048576: true; the input reads as it did. -/
def gaugeBytesUptoRow : OpenClaim := { program := "yteohmcjclmaanaa", sum := "54fa559f38ca0d1126b3a48aa55171a155a6231d3731736e1f512ee2111ecc63", func := "varve/varvelaw09.GaugeBytes", spec := "gaugeBytes", inPlace := ["math.Float64frombits", "math/bits.Add64", "math.Float64bits"], apart := false, narrowed := true }
def GaugeBytesUptoSaid : Prop := gaugeBytesUptoRow.holds Try.pinned (OpenSpec.upto gaugeBytesSpec)

end Rows
end Go.Proofs.Yteohmcjclmaanaa
