/-
  No cell of these rows narrows 'for every input' (looked for: loops, veiled, ifaces, maps, wideKeys, modest, calm, conditions, laid).
  DERIVED. THE GIVEN ROWS OF THIS SEAT. 13 by the template 'for every input the law returns true; each argument reads behind the call as it read before'; 0 by the template 'total and deterministic' (their statements: YtmkobcheemgofaaTotals.lean).
  GIVEN WITH THE SEED: the statements are not yours to turn. If you find one false, say at which input.
  Laid BY PROGRAM, IN A SANDBOX (cutbox-rows.mjs): the forced cells as the released guide's own fill.sh prints them over the translation 8cad752f9bd6c4e4… (all of the seat's roots in one cut). By AI agents, Wed Nov 11 2026. No macro, syntax, notation, axiom, sorry.
-/
import Derived.Test.YtmkobcheemgofaaChecked
import GoSem.Claim
import GoSem.ClaimJoined
import GoSem.ClaimMapViews
import Derived.JoinedTies
import Derived.KernelRfl
namespace Go.Proofs.Ytmkobcheemgofaa
/- THE CELL 'sum', in the pinned program and in every row, IS THE sha256 OF THE DUMP (.gsa) THAT YtmkobcheemgofaaProg.lean LOADS. Nothing in Lean hashes anything: it is a label: what it is worth is what the hold of that sum in a sandbox is worth. -/
noncomputable def Try.pinned : Pinned := { name := "ytmkobcheemgofaa", sum := "8cad752f9bd6c4e47fc9cd6e2c0589ecd7afc13ceb6960db689d371c49390fa9", checked := Try.checked }
namespace Rows
def none {H : Type} : Left H := { results := [], args := [] }

/-- 'varvelaw02.FloOrders': WHATEVER THE INPUT: true; the input reads as it did. -/
def floOrdersSpec : ChangeSpec := { name := "floOrders", fn := fun _ => fun
  | [d1, d2] => { results := [.lit (.bool true)], args := [d1, d2] }
  | _ => none }
def floOrdersRow : OpenClaim := { program := "ytmkobcheemgofaa", sum := "8cad752f9bd6c4e47fc9cd6e2c0589ecd7afc13ceb6960db689d371c49390fa9", func := "varve/varvelaw02.FloOrders", spec := "floOrders", inPlace := ["math.Float64frombits", "math.Float64bits"], apart := false }
def FloOrdersSaid : Prop := floOrdersRow.holds Try.pinned (OpenSpec.ofChange floOrdersSpec)

/-- ITS FALSE NEIGHBOUR: 'it returns false'. Refute it at one input. -/
def floOrdersWrong : ChangeSpec := { name := "floOrders", fn := fun _ => fun
  | [d1, d2] => { results := [.lit (.bool false)], args := [d1, d2] }
  | _ => none }
def FloOrdersWrongFalsely : Prop := floOrdersRow.holds Try.pinned (OpenSpec.ofChange floOrdersWrong)

/-- 'varvelaw02.FloUnits': WHATEVER THE INPUT: true; the input reads as it did. -/
def floUnitsSpec : ChangeSpec := { name := "floUnits", fn := fun _ => fun
  | [d1, d2] => { results := [.lit (.bool true)], args := [d1, d2] }
  | _ => none }
def floUnitsRow : OpenClaim := { program := "ytmkobcheemgofaa", sum := "8cad752f9bd6c4e47fc9cd6e2c0589ecd7afc13ceb6960db689d371c49390fa9", func := "varve/varvelaw02.FloUnits", spec := "floUnits", inPlace := ["math.Float64frombits", "math.Float64bits"], apart := false }
def FloUnitsSaid : Prop := floUnitsRow.holds Try.pinned (OpenSpec.ofChange floUnitsSpec)

/-- ITS FALSE NEIGHBOUR: 'it returns false'. Refute it at one input. -/
def floUnitsWrong : ChangeSpec := { name := "floUnits", fn := fun _ => fun
  | [d1, d2] => { results := [.lit (.bool false)], args := [d1, d2] }
  | _ => none }
def FloUnitsWrongFalsely : Prop := floUnitsRow.holds Try.pinned (OpenSpec.ofChange floUnitsWrong)

/-- 'varvelaw02.FloShifts': WHATEVER THE INPUT: true; the input reads as it did. -/
def floShiftsSpec : ChangeSpec := { name := "floShifts", fn := fun _ => fun
  | [d1, d2] => { results := [.lit (.bool true)], args := [d1, d2] }
  | _ => none }
def floShiftsRow : OpenClaim := { program := "ytmkobcheemgofaa", sum := "8cad752f9bd6c4e47fc9cd6e2c0589ecd7afc13ceb6960db689d371c49390fa9", func := "varve/varvelaw02.FloShifts", spec := "floShifts", inPlace := ["math.Float64bits", "math.Float64frombits"], apart := false }
def FloShiftsSaid : Prop := floShiftsRow.holds Try.pinned (OpenSpec.ofChange floShiftsSpec)

/-- ITS FALSE NEIGHBOUR: 'it returns false'. Refute it at one input. -/
def floShiftsWrong : ChangeSpec := { name := "floShifts", fn := fun _ => fun
  | [d1, d2] => { results := [.lit (.bool false)], args := [d1, d2] }
  | _ => none }
def FloShiftsWrongFalsely : Prop := floShiftsRow.holds Try.pinned (OpenSpec.ofChange floShiftsWrong)

/-- 'varvelaw02.FloFrom': WHATEVER THE INPUT: true; the input reads as it did. -/
def floFromSpec : ChangeSpec := { name := "floFrom", fn := fun _ => fun
  | [d] => { results := [.lit (.bool true)], args := [d] }
  | _ => none }
def floFromRow : OpenClaim := { program := "ytmkobcheemgofaa", sum := "8cad752f9bd6c4e47fc9cd6e2c0589ecd7afc13ceb6960db689d371c49390fa9", func := "varve/varvelaw02.FloFrom", spec := "floFrom", inPlace := ["math.Float64bits", "math.Float64frombits"], apart := false }
def FloFromSaid : Prop := floFromRow.holds Try.pinned (OpenSpec.ofChange floFromSpec)

/-- ITS FALSE NEIGHBOUR: 'it returns false'. Refute it at one input. -/
def floFromWrong : ChangeSpec := { name := "floFrom", fn := fun _ => fun
  | [d] => { results := [.lit (.bool false)], args := [d] }
  | _ => none }
def FloFromWrongFalsely : Prop := floFromRow.holds Try.pinned (OpenSpec.ofChange floFromWrong)

/-- 'varvelaw02.FloWhole': WHATEVER THE INPUT: true; the input reads as it did. -/
def floWholeSpec : ChangeSpec := { name := "floWhole", fn := fun _ => fun
  | [d1, d2] => { results := [.lit (.bool true)], args := [d1, d2] }
  | _ => none }
def floWholeRow : OpenClaim := { program := "ytmkobcheemgofaa", sum := "8cad752f9bd6c4e47fc9cd6e2c0589ecd7afc13ceb6960db689d371c49390fa9", func := "varve/varvelaw02.FloWhole", spec := "floWhole", inPlace := ["math.Float64bits", "math.Float64frombits"], apart := false }
def FloWholeSaid : Prop := floWholeRow.holds Try.pinned (OpenSpec.ofChange floWholeSpec)

/-- ITS FALSE NEIGHBOUR: 'it returns false'. Refute it at one input. -/
def floWholeWrong : ChangeSpec := { name := "floWhole", fn := fun _ => fun
  | [d1, d2] => { results := [.lit (.bool false)], args := [d1, d2] }
  | _ => none }
def FloWholeWrongFalsely : Prop := floWholeRow.holds Try.pinned (OpenSpec.ofChange floWholeWrong)

/-- 'varvelaw02.FloKinds': WHATEVER THE INPUT: true; the input reads as it did. -/
def floKindsSpec : ChangeSpec := { name := "floKinds", fn := fun _ => fun
  | [d] => { results := [.lit (.bool true)], args := [d] }
  | _ => none }
def floKindsRow : OpenClaim := { program := "ytmkobcheemgofaa", sum := "8cad752f9bd6c4e47fc9cd6e2c0589ecd7afc13ceb6960db689d371c49390fa9", func := "varve/varvelaw02.FloKinds", spec := "floKinds", inPlace := ["math.Float64frombits", "math.Float64bits"], apart := false }
def FloKindsSaid : Prop := floKindsRow.holds Try.pinned (OpenSpec.ofChange floKindsSpec)

/-- ITS FALSE NEIGHBOUR: 'it returns false'. Refute it at one input. -/
def floKindsWrong : ChangeSpec := { name := "floKinds", fn := fun _ => fun
  | [d] => { results := [.lit (.bool false)], args := [d] }
  | _ => none }
def FloKindsWrongFalsely : Prop := floKindsRow.holds Try.pinned (OpenSpec.ofChange floKindsWrong)

/-- 'varvelaw02.FloAdds': WHATEVER THE INPUT: true; the input reads as it did. -/
def floAddsSpec : ChangeSpec := { name := "floAdds", fn := fun _ => fun
  | [d1, d2] => { results := [.lit (.bool true)], args := [d1, d2] }
  | _ => none }
def floAddsRow : OpenClaim := { program := "ytmkobcheemgofaa", sum := "8cad752f9bd6c4e47fc9cd6e2c0589ecd7afc13ceb6960db689d371c49390fa9", func := "varve/varvelaw02.FloAdds", spec := "floAdds", inPlace := ["math.Float64frombits", "math.Float64bits"], apart := false }
def FloAddsSaid : Prop := floAddsRow.holds Try.pinned (OpenSpec.ofChange floAddsSpec)

/-- ITS FALSE NEIGHBOUR: 'it returns false'. Refute it at one input. -/
def floAddsWrong : ChangeSpec := { name := "floAdds", fn := fun _ => fun
  | [d1, d2] => { results := [.lit (.bool false)], args := [d1, d2] }
  | _ => none }
def FloAddsWrongFalsely : Prop := floAddsRow.holds Try.pinned (OpenSpec.ofChange floAddsWrong)

/-- 'varvelaw02.FloNoughts': WHATEVER THE INPUT: true; the input reads as it did. -/
def floNoughtsSpec : ChangeSpec := { name := "floNoughts", fn := fun _ => fun
  | [d] => { results := [.lit (.bool true)], args := [d] }
  | _ => none }
def floNoughtsRow : OpenClaim := { program := "ytmkobcheemgofaa", sum := "8cad752f9bd6c4e47fc9cd6e2c0589ecd7afc13ceb6960db689d371c49390fa9", func := "varve/varvelaw02.FloNoughts", spec := "floNoughts", inPlace := ["math.Float64frombits", "math.Float64bits"], apart := false }
def FloNoughtsSaid : Prop := floNoughtsRow.holds Try.pinned (OpenSpec.ofChange floNoughtsSpec)

/-- ITS FALSE NEIGHBOUR: 'it returns false'. Refute it at one input. -/
def floNoughtsWrong : ChangeSpec := { name := "floNoughts", fn := fun _ => fun
  | [d] => { results := [.lit (.bool false)], args := [d] }
  | _ => none }
def FloNoughtsWrongFalsely : Prop := floNoughtsRow.holds Try.pinned (OpenSpec.ofChange floNoughtsWrong)

/-- 'varvelaw02.FloMachine': WHATEVER THE INPUT: true; the input reads as it did. -/
def floMachineSpec : ChangeSpec := { name := "floMachine", fn := fun _ => fun
  | [d1, d2] => { results := [.lit (.bool true)], args := [d1, d2] }
  | _ => none }
def floMachineRow : OpenClaim := { program := "ytmkobcheemgofaa", sum := "8cad752f9bd6c4e47fc9cd6e2c0589ecd7afc13ceb6960db689d371c49390fa9", func := "varve/varvelaw02.FloMachine", spec := "floMachine", inPlace := ["math.Float64frombits", "math.Float64bits"], apart := false }
def FloMachineSaid : Prop := floMachineRow.holds Try.pinned (OpenSpec.ofChange floMachineSpec)

/-- ITS FALSE NEIGHBOUR: 'it returns false'. Refute it at one input. -/
def floMachineWrong : ChangeSpec := { name := "floMachine", fn := fun _ => fun
  | [d1, d2] => { results := [.lit (.bool false)], args := [d1, d2] }
  | _ => none }
def FloMachineWrongFalsely : Prop := floMachineRow.holds Try.pinned (OpenSpec.ofChange floMachineWrong)

/-- 'varvelaw02.FloNext': WHATEVER THE INPUT: true; the input reads as it did. -/
def floNextSpec : ChangeSpec := { name := "floNext", fn := fun _ => fun
  | [d] => { results := [.lit (.bool true)], args := [d] }
  | _ => none }
def floNextRow : OpenClaim := { program := "ytmkobcheemgofaa", sum := "8cad752f9bd6c4e47fc9cd6e2c0589ecd7afc13ceb6960db689d371c49390fa9", func := "varve/varvelaw02.FloNext", spec := "floNext", inPlace := ["math.Float64frombits", "math.Float64bits"], apart := false }
def FloNextSaid : Prop := floNextRow.holds Try.pinned (OpenSpec.ofChange floNextSpec)

/-- ITS FALSE NEIGHBOUR: 'it returns false'. Refute it at one input. -/
def floNextWrong : ChangeSpec := { name := "floNext", fn := fun _ => fun
  | [d] => { results := [.lit (.bool false)], args := [d] }
  | _ => none }
def FloNextWrongFalsely : Prop := floNextRow.holds Try.pinned (OpenSpec.ofChange floNextWrong)

/-- 'varvelaw02.FloBetween': WHATEVER THE INPUT: true; the input reads as it did. -/
def floBetweenSpec : ChangeSpec := { name := "floBetween", fn := fun _ => fun
  | [d1, d2] => { results := [.lit (.bool true)], args := [d1, d2] }
  | _ => none }
def floBetweenRow : OpenClaim := { program := "ytmkobcheemgofaa", sum := "8cad752f9bd6c4e47fc9cd6e2c0589ecd7afc13ceb6960db689d371c49390fa9", func := "varve/varvelaw02.FloBetween", spec := "floBetween", inPlace := ["math.Float64frombits", "math.Float64bits"], apart := false }
def FloBetweenSaid : Prop := floBetweenRow.holds Try.pinned (OpenSpec.ofChange floBetweenSpec)

/-- ITS FALSE NEIGHBOUR: 'it returns false'. Refute it at one input. -/
def floBetweenWrong : ChangeSpec := { name := "floBetween", fn := fun _ => fun
  | [d1, d2] => { results := [.lit (.bool false)], args := [d1, d2] }
  | _ => none }
def FloBetweenWrongFalsely : Prop := floBetweenRow.holds Try.pinned (OpenSpec.ofChange floBetweenWrong)

/-- 'varvelaw02.FloMirror': WHATEVER THE INPUT: true; the input reads as it did. -/
def floMirrorSpec : ChangeSpec := { name := "floMirror", fn := fun _ => fun
  | [d1, d2] => { results := [.lit (.bool true)], args := [d1, d2] }
  | _ => none }
def floMirrorRow : OpenClaim := { program := "ytmkobcheemgofaa", sum := "8cad752f9bd6c4e47fc9cd6e2c0589ecd7afc13ceb6960db689d371c49390fa9", func := "varve/varvelaw02.FloMirror", spec := "floMirror", inPlace := ["math.Float64frombits", "math.Float64bits"], apart := false }
def FloMirrorSaid : Prop := floMirrorRow.holds Try.pinned (OpenSpec.ofChange floMirrorSpec)

/-- ITS FALSE NEIGHBOUR: 'it returns false'. Refute it at one input. -/
def floMirrorWrong : ChangeSpec := { name := "floMirror", fn := fun _ => fun
  | [d1, d2] => { results := [.lit (.bool false)], args := [d1, d2] }
  | _ => none }
def FloMirrorWrongFalsely : Prop := floMirrorRow.holds Try.pinned (OpenSpec.ofChange floMirrorWrong)

/-- 'varvelaw02.FloSteps': WHATEVER THE INPUT: true; the input reads as it did. -/
def floStepsSpec : ChangeSpec := { name := "floSteps", fn := fun _ => fun
  | [d1, d2] => { results := [.lit (.bool true)], args := [d1, d2] }
  | _ => none }
def floStepsRow : OpenClaim := { program := "ytmkobcheemgofaa", sum := "8cad752f9bd6c4e47fc9cd6e2c0589ecd7afc13ceb6960db689d371c49390fa9", func := "varve/varvelaw02.FloSteps", spec := "floSteps", inPlace := ["math.Float64frombits", "math.Float64bits"], apart := false }
def FloStepsSaid : Prop := floStepsRow.holds Try.pinned (OpenSpec.ofChange floStepsSpec)

/-- ITS FALSE NEIGHBOUR: 'it returns false'. Refute it at one input. -/
def floStepsWrong : ChangeSpec := { name := "floSteps", fn := fun _ => fun
  | [d1, d2] => { results := [.lit (.bool false)], args := [d1, d2] }
  | _ => none }
def FloStepsWrongFalsely : Prop := floStepsRow.holds Try.pinned (OpenSpec.ofChange floStepsWrong)

/- THE SECOND FORM. 'bulk': how many values and letters a reading holds, each counted each time it is reached (what is shared counts as often as it is met; a slice's spare places count too). A statement '..UptoSaid' is the law's where the arguments, and the package variables that the reading takes, are together of bulk at most 1048576: NARROWER than '..Said'. Prove '..Said' where nothing that the law and all that it calls make is longer than what came in: it says more and counts as full. Else prove '..UptoSaid'. A law counts once. -/
mutual
def uptoBulk {H : Type} : DataW H → Nat
  | .lit (.string bytes) => bytes.length + 1
  | .lit _ => 1
  | .nil => 1
  | .ptr d => uptoBulk d + 1
  | .slice elems spare => uptoBulkAll elems + uptoBulkAll spare + 1
  | .agg parts => uptoBulkAll parts + 1
  | .iface _ d => uptoBulk d + 1
  | .map entries => uptoBulkEntries entries + 1
  | .held _ => 1
def uptoBulkAll {H : Type} : List (DataW H) → Nat
  | [] => 0
  | d :: r => uptoBulk d + uptoBulkAll r
def uptoBulkEntries {H : Type} : List (Lit × DataW H) → Nat
  | [] => 0
  | x :: r => uptoBulkEntry x + uptoBulkEntries r
def uptoBulkEntry {H : Type} : Lit × DataW H → Nat
  | (.string bytes, d) => bytes.length + uptoBulk d + 1
  | (_, d) => uptoBulk d + 1
 end
def uptoSmall : (H : Type) → List (DataW H) → Bool := fun _ ds => decide (uptoBulkAll ds ≤ 1048576)
def OpenSpec.upto (s : _root_.Go.ChangeSpec) : _root_.Go.OpenSpec := { _root_.Go.OpenSpec.ofChange s with cond := some uptoSmall }

/-- 'varvelaw02.FloOrders', WHERE WHAT IT READS IS OF BULK AT MOST 1048576: true; the input reads as it did. -/
def floOrdersUptoRow : OpenClaim := { program := "ytmkobcheemgofaa", sum := "8cad752f9bd6c4e47fc9cd6e2c0589ecd7afc13ceb6960db689d371c49390fa9", func := "varve/varvelaw02.FloOrders", spec := "floOrders", inPlace := ["math.Float64frombits", "math.Float64bits"], apart := false, narrowed := true }
def FloOrdersUptoSaid : Prop := floOrdersUptoRow.holds Try.pinned (OpenSpec.upto floOrdersSpec)

/-- 'varvelaw02.FloUnits', WHERE WHAT IT READS IS OF BULK AT MOST 1048576: true; the input reads as it did. -/
def floUnitsUptoRow : OpenClaim := { program := "ytmkobcheemgofaa", sum := "8cad752f9bd6c4e47fc9cd6e2c0589ecd7afc13ceb6960db689d371c49390fa9", func := "varve/varvelaw02.FloUnits", spec := "floUnits", inPlace := ["math.Float64frombits", "math.Float64bits"], apart := false, narrowed := true }
def FloUnitsUptoSaid : Prop := floUnitsUptoRow.holds Try.pinned (OpenSpec.upto floUnitsSpec)

/-- 'varvelaw02.FloShifts', WHERE WHAT IT READS IS OF BULK AT MOST 1048576: true; the input reads as it did. -/
def floShiftsUptoRow : OpenClaim := { program := "ytmkobcheemgofaa", sum := "8cad752f9bd6c4e47fc9cd6e2c0589ecd7afc13ceb6960db689d371c49390fa9", func := "varve/varvelaw02.FloShifts", spec := "floShifts", inPlace := ["math.Float64bits", "math.Float64frombits"], apart := false, narrowed := true }
def FloShiftsUptoSaid : Prop := floShiftsUptoRow.holds Try.pinned (OpenSpec.upto floShiftsSpec)

/-- 'varvelaw02.FloFrom', WHERE WHAT IT READS IS OF BULK AT MOST 1048576: true; the input reads as it did. -/
def floFromUptoRow : OpenClaim := { program := "ytmkobcheemgofaa", sum := "8cad752f9bd6c4e47fc9cd6e2c0589ecd7afc13ceb6960db689d371c49390fa9", func := "varve/varvelaw02.FloFrom", spec := "floFrom", inPlace := ["math.Float64bits", "math.Float64frombits"], apart := false, narrowed := true }
def FloFromUptoSaid : Prop := floFromUptoRow.holds Try.pinned (OpenSpec.upto floFromSpec)

/-- 'varvelaw02.FloWhole', WHERE WHAT IT READS IS OF BULK AT MOST 1048576: true; the input reads as it did. -/
def floWholeUptoRow : OpenClaim := { program := "ytmkobcheemgofaa", sum := "8cad752f9bd6c4e47fc9cd6e2c0589ecd7afc13ceb6960db689d371c49390fa9", func := "varve/varvelaw02.FloWhole", spec := "floWhole", inPlace := ["math.Float64bits", "math.Float64frombits"], apart := false, narrowed := true }
def FloWholeUptoSaid : Prop := floWholeUptoRow.holds Try.pinned (OpenSpec.upto floWholeSpec)

/-- 'varvelaw02.FloKinds', WHERE WHAT IT READS IS OF BULK AT MOST 1048576: true; the input reads as it did. -/
def floKindsUptoRow : OpenClaim := { program := "ytmkobcheemgofaa", sum := "8cad752f9bd6c4e47fc9cd6e2c0589ecd7afc13ceb6960db689d371c49390fa9", func := "varve/varvelaw02.FloKinds", spec := "floKinds", inPlace := ["math.Float64frombits", "math.Float64bits"], apart := false, narrowed := true }
def FloKindsUptoSaid : Prop := floKindsUptoRow.holds Try.pinned (OpenSpec.upto floKindsSpec)

/-- 'varvelaw02.FloAdds', WHERE WHAT IT READS IS OF BULK AT MOST 1048576: true; the input reads as it did. -/
def floAddsUptoRow : OpenClaim := { program := "ytmkobcheemgofaa", sum := "8cad752f9bd6c4e47fc9cd6e2c0589ecd7afc13ceb6960db689d371c49390fa9", func := "varve/varvelaw02.FloAdds", spec := "floAdds", inPlace := ["math.Float64frombits", "math.Float64bits"], apart := false, narrowed := true }
def FloAddsUptoSaid : Prop := floAddsUptoRow.holds Try.pinned (OpenSpec.upto floAddsSpec)

/-- 'varvelaw02.FloNoughts', WHERE WHAT IT READS IS OF BULK AT MOST 1048576: true; the input reads as it did. -/
def floNoughtsUptoRow : OpenClaim := { program := "ytmkobcheemgofaa", sum := "8cad752f9bd6c4e47fc9cd6e2c0589ecd7afc13ceb6960db689d371c49390fa9", func := "varve/varvelaw02.FloNoughts", spec := "floNoughts", inPlace := ["math.Float64frombits", "math.Float64bits"], apart := false, narrowed := true }
def FloNoughtsUptoSaid : Prop := floNoughtsUptoRow.holds Try.pinned (OpenSpec.upto floNoughtsSpec)

/-- 'varvelaw02.FloMachine', WHERE WHAT IT READS IS OF BULK AT MOST 1048576: true; the input reads as it did. -/
def floMachineUptoRow : OpenClaim := { program := "ytmkobcheemgofaa", sum := "8cad752f9bd6c4e47fc9cd6e2c0589ecd7afc13ceb6960db689d371c49390fa9", func := "varve/varvelaw02.FloMachine", spec := "floMachine", inPlace := ["math.Float64frombits", "math.Float64bits"], apart := false, narrowed := true }
def FloMachineUptoSaid : Prop := floMachineUptoRow.holds Try.pinned (OpenSpec.upto floMachineSpec)

/-- 'varvelaw02.FloNext', WHERE WHAT IT READS IS OF BULK AT MOST 1048576: true; the input reads as it did. -/
def floNextUptoRow : OpenClaim := { program := "ytmkobcheemgofaa", sum := "8cad752f9bd6c4e47fc9cd6e2c0589ecd7afc13ceb6960db689d371c49390fa9", func := "varve/varvelaw02.FloNext", spec := "floNext", inPlace := ["math.Float64frombits", "math.Float64bits"], apart := false, narrowed := true }
def FloNextUptoSaid : Prop := floNextUptoRow.holds Try.pinned (OpenSpec.upto floNextSpec)

/-- 'varvelaw02.FloBetween', WHERE WHAT IT READS IS OF BULK AT MOST 1048576: true; the input reads as it did. -/
def floBetweenUptoRow : OpenClaim := { program := "ytmkobcheemgofaa", sum := "8cad752f9bd6c4e47fc9cd6e2c0589ecd7afc13ceb6960db689d371c49390fa9", func := "varve/varvelaw02.FloBetween", spec := "floBetween", inPlace := ["math.Float64frombits", "math.Float64bits"], apart := false, narrowed := true }
def FloBetweenUptoSaid : Prop := floBetweenUptoRow.holds Try.pinned (OpenSpec.upto floBetweenSpec)

/-- 'varvelaw02.FloMirror', WHERE WHAT IT READS IS OF BULK AT MOST 1048576: true; the input reads as it did. -/
def floMirrorUptoRow : OpenClaim := { program := "ytmkobcheemgofaa", sum := "8cad752f9bd6c4e47fc9cd6e2c0589ecd7afc13ceb6960db689d371c49390fa9", func := "varve/varvelaw02.FloMirror", spec := "floMirror", inPlace := ["math.Float64frombits", "math.Float64bits"], apart := false, narrowed := true }
def FloMirrorUptoSaid : Prop := floMirrorUptoRow.holds Try.pinned (OpenSpec.upto floMirrorSpec)

/-- 'varvelaw02.FloSteps', WHERE WHAT IT READS IS OF BULK AT MOST 1048576: true; the input reads as it did. -/
def floStepsUptoRow : OpenClaim := { program := "ytmkobcheemgofaa", sum := "8cad752f9bd6c4e47fc9cd6e2c0589ecd7afc13ceb6960db689d371c49390fa9", func := "varve/varvelaw02.FloSteps", spec := "floSteps", inPlace := ["math.Float64frombits", "math.Float64bits"], apart := false, narrowed := true }
def FloStepsUptoSaid : Prop := floStepsUptoRow.holds Try.pinned (OpenSpec.upto floStepsSpec)

end Rows
end Go.Proofs.Ytmkobcheemgofaa
