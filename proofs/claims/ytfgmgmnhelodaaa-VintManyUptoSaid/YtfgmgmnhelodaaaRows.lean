/-
  No cell of these rows narrows 'for every input' (looked for: loops, veiled, ifaces, maps, wideKeys, modest, calm, conditions, laid).
  DERIVED. THE GIVEN ROWS OF THIS SEAT. 9 by the template 'for every input the law returns true; each argument reads behind the call as it read before'; 0 by the template 'total and deterministic' (their statements: YtfgmgmnhelodaaaTotals.lean).
  GIVEN WITH THE SEED: the statements are not yours to turn. If you find one false, say at which input.
  Laid BY PROGRAM, IN A SANDBOX (cutbox-rows.mjs): the forced cells as the released guide's own fill.sh prints them over the translation ad2649ff4df5d97c… (all of the seat's roots in one cut). By AI agents, Wed Nov 11 2026. No macro, syntax, notation, axiom, sorry.
-/
import Derived.Test.YtfgmgmnhelodaaaChecked
import GoSem.Claim
import GoSem.ClaimJoined
import GoSem.ClaimMapViews
import Derived.JoinedTies
import Derived.KernelRfl
namespace Go.Proofs.Ytfgmgmnhelodaaa
/- THE CELL 'sum', in the pinned program and in every row, IS THE sha256 OF THE DUMP (.gsa) THAT YtfgmgmnhelodaaaProg.lean LOADS. Nothing in Lean hashes anything: it is a label: what it is worth is what the hold of that sum in a sandbox is worth. -/
noncomputable def Try.pinned : Pinned := { name := "ytfgmgmnhelodaaa", sum := "ad2649ff4df5d97c8b461fa0210eb1f4fd2ad08994295817274eddb6cdf59c32", checked := Try.checked }
namespace Rows
def none {H : Type} : Left H := { results := [], args := [] }

/-- 'varvelaw04.VintNumbers': WHATEVER THE INPUT: true; the input reads as it did. -/
def vintNumbersSpec : ChangeSpec := { name := "vintNumbers", fn := fun _ => fun
  | [d1, d2, d3] => { results := [.lit (.bool true)], args := [d1, d2, d3] }
  | _ => none }
def vintNumbersRow : OpenClaim := { program := "ytfgmgmnhelodaaa", sum := "ad2649ff4df5d97c8b461fa0210eb1f4fd2ad08994295817274eddb6cdf59c32", func := "varve/varvelaw04.VintNumbers", spec := "vintNumbers", apart := false }
def VintNumbersSaid : Prop := vintNumbersRow.holds Try.pinned (OpenSpec.ofChange vintNumbersSpec)

/-- ITS FALSE NEIGHBOUR: 'it returns false'. Refute it at one input. -/
def vintNumbersWrong : ChangeSpec := { name := "vintNumbers", fn := fun _ => fun
  | [d1, d2, d3] => { results := [.lit (.bool false)], args := [d1, d2, d3] }
  | _ => none }
def VintNumbersWrongFalsely : Prop := vintNumbersRow.holds Try.pinned (OpenSpec.ofChange vintNumbersWrong)

/-- 'varvelaw04.VintSizes': WHATEVER THE INPUT: true; the input reads as it did. -/
def vintSizesSpec : ChangeSpec := { name := "vintSizes", fn := fun _ => fun
  | [d1, d2] => { results := [.lit (.bool true)], args := [d1, d2] }
  | _ => none }
def vintSizesRow : OpenClaim := { program := "ytfgmgmnhelodaaa", sum := "ad2649ff4df5d97c8b461fa0210eb1f4fd2ad08994295817274eddb6cdf59c32", func := "varve/varvelaw04.VintSizes", spec := "vintSizes", apart := false }
def VintSizesSaid : Prop := vintSizesRow.holds Try.pinned (OpenSpec.ofChange vintSizesSpec)

/-- ITS FALSE NEIGHBOUR: 'it returns false'. Refute it at one input. -/
def vintSizesWrong : ChangeSpec := { name := "vintSizes", fn := fun _ => fun
  | [d1, d2] => { results := [.lit (.bool false)], args := [d1, d2] }
  | _ => none }
def VintSizesWrongFalsely : Prop := vintSizesRow.holds Try.pinned (OpenSpec.ofChange vintSizesWrong)

/-- 'varvelaw04.VintInts': WHATEVER THE INPUT: true; the input reads as it did. -/
def vintIntsSpec : ChangeSpec := { name := "vintInts", fn := fun _ => fun
  | [d1, d2, d3] => { results := [.lit (.bool true)], args := [d1, d2, d3] }
  | _ => none }
def vintIntsRow : OpenClaim := { program := "ytfgmgmnhelodaaa", sum := "ad2649ff4df5d97c8b461fa0210eb1f4fd2ad08994295817274eddb6cdf59c32", func := "varve/varvelaw04.VintInts", spec := "vintInts", apart := false }
def VintIntsSaid : Prop := vintIntsRow.holds Try.pinned (OpenSpec.ofChange vintIntsSpec)

/-- ITS FALSE NEIGHBOUR: 'it returns false'. Refute it at one input. -/
def vintIntsWrong : ChangeSpec := { name := "vintInts", fn := fun _ => fun
  | [d1, d2, d3] => { results := [.lit (.bool false)], args := [d1, d2, d3] }
  | _ => none }
def VintIntsWrongFalsely : Prop := vintIntsRow.holds Try.pinned (OpenSpec.ofChange vintIntsWrong)

/-- 'varvelaw04.VintTexts': WHATEVER THE INPUT: true; the input reads as it did. -/
def vintTextsSpec : ChangeSpec := { name := "vintTexts", fn := fun _ => fun
  | [d1, d2, d3, d4] => { results := [.lit (.bool true)], args := [d1, d2, d3, d4] }
  | _ => none }
def vintTextsRow : OpenClaim := { program := "ytfgmgmnhelodaaa", sum := "ad2649ff4df5d97c8b461fa0210eb1f4fd2ad08994295817274eddb6cdf59c32", func := "varve/varvelaw04.VintTexts", spec := "vintTexts", apart := false }
def VintTextsSaid : Prop := vintTextsRow.holds Try.pinned (OpenSpec.ofChange vintTextsSpec)

/-- ITS FALSE NEIGHBOUR: 'it returns false'. Refute it at one input. -/
def vintTextsWrong : ChangeSpec := { name := "vintTexts", fn := fun _ => fun
  | [d1, d2, d3, d4] => { results := [.lit (.bool false)], args := [d1, d2, d3, d4] }
  | _ => none }
def VintTextsWrongFalsely : Prop := vintTextsRow.holds Try.pinned (OpenSpec.ofChange vintTextsWrong)

/-- 'varvelaw04.VintMany': WHATEVER THE INPUT: true; the input reads as it did. -/
def vintManySpec : ChangeSpec := { name := "vintMany", fn := fun _ => fun
  | [d1, d2] => { results := [.lit (.bool true)], args := [d1, d2] }
  | _ => none }
def vintManyRow : OpenClaim := { program := "ytfgmgmnhelodaaa", sum := "ad2649ff4df5d97c8b461fa0210eb1f4fd2ad08994295817274eddb6cdf59c32", func := "varve/varvelaw04.VintMany", spec := "vintMany", apart := false }
def VintManySaid : Prop := vintManyRow.holds Try.pinned (OpenSpec.ofChange vintManySpec)

/-- ITS FALSE NEIGHBOUR: 'it returns false'. Refute it at one input. -/
def vintManyWrong : ChangeSpec := { name := "vintMany", fn := fun _ => fun
  | [d1, d2] => { results := [.lit (.bool false)], args := [d1, d2] }
  | _ => none }
def VintManyWrongFalsely : Prop := vintManyRow.holds Try.pinned (OpenSpec.ofChange vintManyWrong)

/-- 'varvelaw04.VintRises': WHATEVER THE INPUT: true; the input reads as it did. -/
def vintRisesSpec : ChangeSpec := { name := "vintRises", fn := fun _ => fun
  | [d1, d2, d3, d4] => { results := [.lit (.bool true)], args := [d1, d2, d3, d4] }
  | _ => none }
def vintRisesRow : OpenClaim := { program := "ytfgmgmnhelodaaa", sum := "ad2649ff4df5d97c8b461fa0210eb1f4fd2ad08994295817274eddb6cdf59c32", func := "varve/varvelaw04.VintRises", spec := "vintRises", apart := false }
def VintRisesSaid : Prop := vintRisesRow.holds Try.pinned (OpenSpec.ofChange vintRisesSpec)

/-- ITS FALSE NEIGHBOUR: 'it returns false'. Refute it at one input. -/
def vintRisesWrong : ChangeSpec := { name := "vintRises", fn := fun _ => fun
  | [d1, d2, d3, d4] => { results := [.lit (.bool false)], args := [d1, d2, d3, d4] }
  | _ => none }
def VintRisesWrongFalsely : Prop := vintRisesRow.holds Try.pinned (OpenSpec.ofChange vintRisesWrong)

/-- 'varvelaw04.VintLists': WHATEVER THE INPUT: true; the input reads as it did. -/
def vintListsSpec : ChangeSpec := { name := "vintLists", fn := fun _ => fun
  | [d1, d2, d3] => { results := [.lit (.bool true)], args := [d1, d2, d3] }
  | _ => none }
def vintListsRow : OpenClaim := { program := "ytfgmgmnhelodaaa", sum := "ad2649ff4df5d97c8b461fa0210eb1f4fd2ad08994295817274eddb6cdf59c32", func := "varve/varvelaw04.VintLists", spec := "vintLists", apart := false }
def VintListsSaid : Prop := vintListsRow.holds Try.pinned (OpenSpec.ofChange vintListsSpec)

/-- ITS FALSE NEIGHBOUR: 'it returns false'. Refute it at one input. -/
def vintListsWrong : ChangeSpec := { name := "vintLists", fn := fun _ => fun
  | [d1, d2, d3] => { results := [.lit (.bool false)], args := [d1, d2, d3] }
  | _ => none }
def VintListsWrongFalsely : Prop := vintListsRow.holds Try.pinned (OpenSpec.ofChange vintListsWrong)

/-- 'varvelaw04.VintShort': WHATEVER THE INPUT: true; the input reads as it did. -/
def vintShortSpec : ChangeSpec := { name := "vintShort", fn := fun _ => fun
  | [d1, d2, d3] => { results := [.lit (.bool true)], args := [d1, d2, d3] }
  | _ => none }
def vintShortRow : OpenClaim := { program := "ytfgmgmnhelodaaa", sum := "ad2649ff4df5d97c8b461fa0210eb1f4fd2ad08994295817274eddb6cdf59c32", func := "varve/varvelaw04.VintShort", spec := "vintShort", apart := false }
def VintShortSaid : Prop := vintShortRow.holds Try.pinned (OpenSpec.ofChange vintShortSpec)

/-- ITS FALSE NEIGHBOUR: 'it returns false'. Refute it at one input. -/
def vintShortWrong : ChangeSpec := { name := "vintShort", fn := fun _ => fun
  | [d1, d2, d3] => { results := [.lit (.bool false)], args := [d1, d2, d3] }
  | _ => none }
def VintShortWrongFalsely : Prop := vintShortRow.holds Try.pinned (OpenSpec.ofChange vintShortWrong)

/-- 'varvelaw04.VintBack': WHATEVER THE INPUT: true; the input reads as it did. -/
def vintBackSpec : ChangeSpec := { name := "vintBack", fn := fun _ => fun
  | [d1, d2] => { results := [.lit (.bool true)], args := [d1, d2] }
  | _ => none }
def vintBackRow : OpenClaim := { program := "ytfgmgmnhelodaaa", sum := "ad2649ff4df5d97c8b461fa0210eb1f4fd2ad08994295817274eddb6cdf59c32", func := "varve/varvelaw04.VintBack", spec := "vintBack", apart := false }
def VintBackSaid : Prop := vintBackRow.holds Try.pinned (OpenSpec.ofChange vintBackSpec)

/-- ITS FALSE NEIGHBOUR: 'it returns false'. Refute it at one input. -/
def vintBackWrong : ChangeSpec := { name := "vintBack", fn := fun _ => fun
  | [d1, d2] => { results := [.lit (.bool false)], args := [d1, d2] }
  | _ => none }
def VintBackWrongFalsely : Prop := vintBackRow.holds Try.pinned (OpenSpec.ofChange vintBackWrong)

/- THE SECOND FORM. 'bulk': how many values and letters a reading holds, each counted each time it is reached (what is shared counts as often as it is met; a slice's spare places count too). A statement '..UptoSaid' is the law's where the arguments, and the package variables that the reading takes, are together of bulk at most 1048576: NARROWER than '..Said'. Prove '..Said' where nothing that the law and all that it calls make is longer than what came in: it says more and counts as full. Else prove '..UptoSaid'. A law counts once. -/
mutual
def uptoBulk {H : Type} : DataW H → Nat
  | .lit (.string bytes) => bytes.length + 1
  | .lit _ => 1
  | .nil => 1
  | .ptr d => uptoBulk d + 1
  | .slice elems spare => uptoBulkAll elems + uptoBulkAll spare + 1
  | .agg parts => uptoBulkAll parts + 1
  | .iface _ d => uptoBulk d + 1
  | .map entries => uptoBulkEntries entries + 1
  | .held _ => 1
def uptoBulkAll {H : Type} : List (DataW H) → Nat
  | [] => 0
  | d :: r => uptoBulk d + uptoBulkAll r
def uptoBulkEntries {H : Type} : List (Lit × DataW H) → Nat
  | [] => 0
  | x :: r => uptoBulkEntry x + uptoBulkEntries r
def uptoBulkEntry {H : Type} : Lit × DataW H → Nat
  | (.string bytes, d) => bytes.length + uptoBulk d + 1
  | (_, d) => uptoBulk d + 1
 end
def uptoSmall : (H : Type) → List (DataW H) → Bool := fun _ ds => decide (uptoBulkAll ds ≤ 1048576)
def OpenSpec.upto (s : _root_.Go.ChangeSpec) : _root_.Go.OpenSpec := { _root_.Go.OpenSpec.ofChange s with cond := some uptoSmall }

/-- 'varvelaw04.VintNumbers', WHERE WHAT IT READS IS OF BULK AT MOST 1048576: true; the input reads as it did. -/
def vintNumbersUptoRow : OpenClaim := { program := "ytfgmgmnhelodaaa", sum := "ad2649ff4df5d97c8b461fa0210eb1f4fd2ad08994295817274eddb6cdf59c32", func := "varve/varvelaw04.VintNumbers", spec := "vintNumbers", apart := false, narrowed := true }
def VintNumbersUptoSaid : Prop := vintNumbersUptoRow.holds Try.pinned (OpenSpec.upto vintNumbersSpec)

/-- 'varvelaw04.VintSizes', WHERE WHAT IT READS IS OF BULK AT MOST 1048576: true; the input reads as it did. -/
def vintSizesUptoRow : OpenClaim := { program := "ytfgmgmnhelodaaa", sum := "ad2649ff4df5d97c8b461fa0210eb1f4fd2ad08994295817274eddb6cdf59c32", func := "varve/varvelaw04.VintSizes", spec := "vintSizes", apart := false, narrowed := true }
def VintSizesUptoSaid : Prop := vintSizesUptoRow.holds Try.pinned (OpenSpec.upto vintSizesSpec)

/-- 'varvelaw04.VintInts', WHERE WHAT IT READS IS OF BULK AT MOST 1048576: true; the input reads as it did. -/
def vintIntsUptoRow : OpenClaim := { program := "ytfgmgmnhelodaaa", sum := "ad2649ff4df5d97c8b461fa0210eb1f4fd2ad08994295817274eddb6cdf59c32", func := "varve/varvelaw04.VintInts", spec := "vintInts", apart := false, narrowed := true }
def VintIntsUptoSaid : Prop := vintIntsUptoRow.holds Try.pinned (OpenSpec.upto vintIntsSpec)

/-- 'varvelaw04.VintTexts', WHERE WHAT IT READS IS OF BULK AT MOST 1048576: true; the input reads as it did. -/
def vintTextsUptoRow : OpenClaim := { program := "ytfgmgmnhelodaaa", sum := "ad2649ff4df5d97c8b461fa0210eb1f4fd2ad08994295817274eddb6cdf59c32", func := "varve/varvelaw04.VintTexts", spec := "vintTexts", apart := false, narrowed := true }
def VintTextsUptoSaid : Prop := vintTextsUptoRow.holds Try.pinned (OpenSpec.upto vintTextsSpec)

/-- 'varvelaw04.VintMany', WHERE WHAT IT READS IS OF BULK AT MOST 1048576: true; the input reads as it did. -/
def vintManyUptoRow : OpenClaim := { program := "ytfgmgmnhelodaaa", sum := "ad2649ff4df5d97c8b461fa0210eb1f4fd2ad08994295817274eddb6cdf59c32", func := "varve/varvelaw04.VintMany", spec := "vintMany", apart := false, narrowed := true }
def VintManyUptoSaid : Prop := vintManyUptoRow.holds Try.pinned (OpenSpec.upto vintManySpec)

/-- 'varvelaw04.VintRises', WHERE WHAT IT READS IS OF BULK AT MOST 1048576: true; the input reads as it did. -/
def vintRisesUptoRow : OpenClaim := { program := "ytfgmgmnhelodaaa", sum := "ad2649ff4df5d97c8b461fa0210eb1f4fd2ad08994295817274eddb6cdf59c32", func := "varve/varvelaw04.VintRises", spec := "vintRises", apart := false, narrowed := true }
def VintRisesUptoSaid : Prop := vintRisesUptoRow.holds Try.pinned (OpenSpec.upto vintRisesSpec)

/-- 'varvelaw04.VintLists', WHERE WHAT IT READS IS OF BULK AT MOST 1048576: true; the input reads as it did. -/
def vintListsUptoRow : OpenClaim := { program := "ytfgmgmnhelodaaa", sum := "ad2649ff4df5d97c8b461fa0210eb1f4fd2ad08994295817274eddb6cdf59c32", func := "varve/varvelaw04.VintLists", spec := "vintLists", apart := false, narrowed := true }
def VintListsUptoSaid : Prop := vintListsUptoRow.holds Try.pinned (OpenSpec.upto vintListsSpec)

/-- 'varvelaw04.VintShort', WHERE WHAT IT READS IS OF BULK AT MOST 1048576: true; the input reads as it did. -/
def vintShortUptoRow : OpenClaim := { program := "ytfgmgmnhelodaaa", sum := "ad2649ff4df5d97c8b461fa0210eb1f4fd2ad08994295817274eddb6cdf59c32", func := "varve/varvelaw04.VintShort", spec := "vintShort", apart := false, narrowed := true }
def VintShortUptoSaid : Prop := vintShortUptoRow.holds Try.pinned (OpenSpec.upto vintShortSpec)

/-- 'varvelaw04.VintBack', WHERE WHAT IT READS IS OF BULK AT MOST 1048576: true; the input reads as it did. -/
def vintBackUptoRow : OpenClaim := { program := "ytfgmgmnhelodaaa", sum := "ad2649ff4df5d97c8b461fa0210eb1f4fd2ad08994295817274eddb6cdf59c32", func := "varve/varvelaw04.VintBack", spec := "vintBack", apart := false, narrowed := true }
def VintBackUptoSaid : Prop := vintBackUptoRow.holds Try.pinned (OpenSpec.upto vintBackSpec)

end Rows
end Go.Proofs.Ytfgmgmnhelodaaa
