/- What the statements' Place computes: any number as one from 0 to n - 1. -/
import Derived.Test.YtimmemkiilblcaaCommon
namespace Go.Proofs.Ytimmemkiilblcaa
set_option linter.unusedVariables false
set_option linter.unusedSimpArgs false
open Go.RowKit
set_option maxHeartbeats 400000 in
theorem place_any (v n : Int) (w : World) (h0 : -9223372036854775808 ≤ v) (h1 : v ≤ 9223372036854775807) (hn : 0 < n) (hn1 : n ≤ 4611686018427387904) :
    Calls Try.prog 18 #[.int .i64 v, .int .i64 n] w fun e w' => e = .returned (.int .i64 (v % n)) ∧ w = w' := by
  have e := Int.tmod_eq_emod (a := v) (b := n)
  have en : ((n.natAbs : Nat) : Int) = n := by omega
  rw [apply_ite (fun x : Nat => (x : Int)), en] at e
  have e0 := Int.emod_nonneg v (show n ≠ 0 by omega)
  have e1 := Int.emod_lt_of_pos v hn
  by_cases h : 0 ≤ v.tmod n
  · have h' : ¬ v.tmod n < 0 := by omega
    have E : Hid (v.tmod n = v % n) := by
      show v.tmod n = v % n
      split at e <;> omega
    clear e e0 e1 en
    go_enter Try.func18, Try.ntmps18
    go_wp2
    go_ret
    exact ⟨ret_int (by first | exact E.out | (rw [← E.out]; unfold wrap64; omega)), rfl⟩
  · have h' : v.tmod n < 0 := by omega
    have hlo : -4611686018427387904 ≤ v.tmod n := by split at e <;> omega
    have E : Hid (v.tmod n + n = v % n) := by
      show v.tmod n + n = v % n
      split at e <;> omega
    clear e e0 e1 en
    go_enter Try.func18, Try.ntmps18
    go_wp2
    go_ret
    exact ⟨ret_int (by first | exact E.out | (rw [← E.out]; unfold wrap64; omega)), rfl⟩
end Go.Proofs.Ytimmemkiilblcaa
