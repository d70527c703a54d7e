/- The plain law of texts, signs and lists that rise, as bytes. -/
import Derived.Test.YtfgmgmnhelodaaaVintMath
namespace Go.Proofs.Ytfgmgmnhelodaaa
set_option linter.unusedVariables false
set_option linter.unusedSimpArgs false
open Go.RowKit
/-! ### lists -/
def deltas : Nat → List Nat → List Nat
  | _, [] => []
  | nx, v :: l => (v + 18446744073709551616 - nx) % 18446744073709551616 :: deltas ((v + 1) % 18446744073709551616) l
def encAll : List Nat → List UInt8
  | [] => []
  | v :: l => enc v ++ encAll l
def encRise (l : List Nat) : List UInt8 := enc l.length ++ encAll (deltas 0 l)
theorem deltas_length : ∀ (l : List Nat) (nx : Nat), (deltas nx l).length = l.length
  | [], _ => rfl
  | v :: l, nx => by simp [deltas, deltas_length l]
theorem deltas_lt : ∀ (l : List Nat) (nx : Nat), ∀ d ∈ deltas nx l, d < 18446744073709551616
  | [], _, d, h => by simp [deltas] at h
  | v :: l, nx, d, h => by
    simp only [deltas, List.mem_cons] at h
    rcases h with h | h
    · rw [h]; exact Nat.mod_lt _ (by decide)
    · exact deltas_lt l _ d h
theorem encAll_le : ∀ (l : List Nat), (∀ d ∈ l, d < 18446744073709551616) → (encAll l).length ≤ 10 * l.length
  | [], _ => by simp [encAll]
  | v :: l, h => by
    have h1 := enc_le10 (h v (by simp))
    have h2 := encAll_le l (fun d hd => h d (by simp [hd]))
    simp only [encAll, List.length_append, List.length_cons]
    omega
theorem encRise_le (l : List Nat) (h : l.length < 18446744073709551616) : (encRise l).length ≤ 10 + 10 * l.length := by
  have h1 := enc_le10 h
  have h2 := encAll_le (deltas 0 l) (deltas_lt l 0)
  rw [deltas_length] at h2
  simp only [encRise, List.length_append]
  omega
/-- the list that bytes begin with: so many numbers, the last one that was, the place -/
def riseAt (bs : List UInt8) : Nat → Option Nat → Nat → Option (List Nat × Nat)
  | 0, _, a => some ([], a)
  | k + 1, last, a =>
    match getAt bs (a : Int) with
    | none => none
    | some (d, e) =>
      match last with
      | none => (riseAt bs k (some d) e).map fun p => (d :: p.1, p.2)
      | some t => if t + d + 1 < 18446744073709551616 then (riseAt bs k (some (t + d + 1)) e).map fun p => ((t + d + 1) :: p.1, p.2) else none
def getRise (bs : List UInt8) (i most : Int) : Option (List Nat × Nat) :=
  match getAt bs i with
  | none => none
  | some (n, a) => if most < 0 ∨ most < (n : Int) ∨ bs.length < a + n then none else riseAt bs n none a
/-! ### texts -/
def encText (s : List UInt8) : List UInt8 := enc s.length ++ s
def getText (bs : List UInt8) (i most : Int) : Option (List UInt8 × Nat) :=
  match getAt bs i with
  | none => none
  | some (n, a) => if most < 0 ∨ most < (n : Int) ∨ bs.length < a + n then none else some ((bs.drop a).take n, a + n)
/-! ### signs -/
def zig (v : Int) : Nat := if v < 0 then (2 * (-(v + 1)) + 1).toNat else (2 * v).toNat
def zag (u : Nat) : Int := if u % 2 = 1 then -((u / 2 : Nat) : Int) - 1 else ((u / 2 : Nat) : Int)
theorem zag_zig (v : Int) : zag (zig v) = v := by unfold zag zig; split <;> split <;> omega
theorem zig_zag (u : Nat) : zig (zag u) = u := by unfold zag zig; split <;> split <;> omega
theorem zig_lt (v : Int) (h0 : -9223372036854775808 ≤ v) (h1 : v ≤ 9223372036854775807) : zig v < 18446744073709551616 := by unfold zig; split <;> omega
theorem zag_bd (u : Nat) (h : u < 18446744073709551616) : -9223372036854775808 ≤ zag u ∧ zag u ≤ 9223372036854775807 := by unfold zag; split <;> omega
end Go.Proofs.Ytfgmgmnhelodaaa
