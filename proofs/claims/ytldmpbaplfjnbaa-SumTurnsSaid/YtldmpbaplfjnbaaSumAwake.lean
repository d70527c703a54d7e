/- The statements' own start: the document's example of the sum. -/
import Derived.Test.YtldmpbaplfjnbaaSumRef
import Derived.Lib.SlBytesConst
namespace Go.Proofs.Ytldmpbaplfjnbaa
set_option linter.unusedVariables false
set_option linter.unusedSimpArgs false
open Go.RowKit
def nines : List UInt8 := [49, 50, 51, 52, 53, 54, 55, 56, 57]
theorem nines_sum : (u32i (Sum nines) == 3808858755) = true := by decide +kernel
theorem nil_sum : (u32i (Sum []) == 0) = true := by decide +kernel
set_option maxHeartbeats 400000 in
theorem awake_any (w : World) :
    Calls Try.prog 11 #[] w fun e w' => e = .returned (.bool true) ∧ Below w.heap.size w w' := by
  have H1 := nines_sum
  have H2 := nil_sum
  have kc := fun (w : World) (C : Array Value) (n c : Nat) => Lib.run_convert_bytes_const (P := Try.prog) w 22 5 C n c Try.underlying22 Try.underlying5
  go_enter Try.func11, Try.ntmps11
  go_wp2_with fail
  refine (sumOf_any _ nines 9 _ (by decide) (Reads.lit _ _ _ _ _ rfl)).mono ?_
  rintro e w1 ⟨rfl, hb1⟩
  have hb : Below w.heap.size w w1 := below_then (below_new _ _) hb1
  clear hb1
  go_wp2_with fail
  refine (sumOf_any _ [] 0 _ (by decide) (Reads.nil _ _)).mono ?_
  rintro e w2 ⟨rfl, hb2⟩
  have hbb : Below w.heap.size w w2 := below_then hb hb2
  clear hb2 hb
  go_wp2
  go_ret
  exact ⟨rfl, hbb⟩
end Go.Proofs.Ytldmpbaplfjnbaa
