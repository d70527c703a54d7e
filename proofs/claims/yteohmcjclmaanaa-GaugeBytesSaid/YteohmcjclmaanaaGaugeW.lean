/- What the gauges' small functions compute: the walks. -/
import Derived.Test.YteohmcjclmaanaaCommon
import Derived.Test.YteohmcjclmaanaaGaugeFlo
import Derived.Test.YteohmcjclmaanaaGaugeLaw
import Derived.Laws.Externs
import Derived.Laws.StructEq
namespace Go.Proofs.Yteohmcjclmaanaa
set_option linter.unusedVariables false
set_option linter.unusedSimpArgs false
open Go.RowKit
def gval (g : G4) : Value := .agg #[.int .u64 (g.n : Int), .int .u64 (g.nans : Int), .int .u64 (g.lo : Int), .int .u64 (g.hi : Int)]
theorem run_add64' (x y : Nat) (W : World) : (callFunc 43 #[.int .u64 (x : Int), .int .u64 (y : Int), .int .u64 0]).run Try.prog W = .ok (.value (.tuple #[.int .u64 (((x + y) % 18446744073709551616 : Nat) : Int), .int .u64 (((x + y) / 18446744073709551616 : Nat) : Int)])) W := by
  rw [run_callFunc_extern (e := add64Entry) Try.func43 (by kernel_rfl) (by kernel_rfl) (by kernel_rfl) (by kernel_rfl), run_add64 (x : Int) (y : Int) 0 (by omega) (by omega) (by omega) (by omega)]
  simp [Result.andThen]
theorem wadd_any (a b : Nat) (w : World) (ha : a < 18446744073709551616) (hb : b < 18446744073709551616) :
    Calls Try.prog 30 #[.int .u64 (a : Int), .int .u64 (b : Int)] w fun e w' => e = .returned (.int .u64 (satN a b : Int)) ∧ w = w' := by
  have x43 := run_add64' a b
  by_cases h : 18446744073709551616 ≤ a + b
  · obtain ⟨q, hq⟩ : ∃ q, (a + b) / 18446744073709551616 = q := ⟨_, rfl⟩
    obtain ⟨r, hr⟩ : ∃ r, (a + b) % 18446744073709551616 = r := ⟨_, rfl⟩
    rw [hq, hr] at x43
    have hq0 : 0 < q := by omega
    have H := Lib.hid h
    clear hq hr h
    go_enter Try.func30, Try.ntmps30
    go_wp2
    all_goals go_ret
    all_goals exact ⟨ret_int (by unfold satN; rw [if_pos H.out]; rfl), rfl⟩
  · have e1 : (a + b) / 18446744073709551616 = 0 := by omega
    obtain ⟨r, hr⟩ : ∃ r, (a + b) % 18446744073709551616 = r := ⟨_, rfl⟩
    rw [e1, hr] at x43
    have H := Lib.hid h
    have HR := Lib.hid hr
    clear e1 hr h
    go_enter Try.func30, Try.ntmps30
    go_wp2
    all_goals go_ret
    all_goals exact ⟨ret_int (by have := H.out; have := HR.out; unfold satN; rw [if_neg H.out]; omega), rfl⟩
theorem radd_any (a b : Nat) (w : World) (ha : a < 18446744073709551616) (hb : b < 18446744073709551616) :
    Calls Try.prog 36 #[.int .u64 (a : Int), .int .u64 (b : Int)] w fun e w' => e = .returned (.int .u64 (satN a b : Int)) ∧ w = w' := by
  obtain ⟨d, hd⟩ : ∃ d, 18446744073709551615 - b = d := ⟨_, rfl⟩
  have hw : (18446744073709551615 : Int) - (b : Int) = (d : Int) := by omega
  by_cases h : 18446744073709551616 ≤ a + b
  · have t : d < a := by omega
    have H := Lib.hid h
    clear h hd
    go_enter Try.func36, Try.ntmps36
    go_wp2
    all_goals go_ret
    all_goals exact ⟨ret_int (by unfold satN; rw [if_pos H.out]; rfl), rfl⟩
  · have t : a ≤ d := by omega
    have hs : (a : Int) + (b : Int) ≤ 18446744073709551615 := by omega
    have H := Lib.hid h
    clear h hd
    go_enter Try.func36, Try.ntmps36
    go_wp2
    all_goals go_ret
    all_goals exact ⟨ret_int (by unfold satN; rw [if_neg H.out]; omega), rfl⟩
theorem none_any (b : Nat) (w : World) (hb : b < 18446744073709551616) :
    Calls Try.prog 32 #[.int .u64 (b : Int)] w fun e w' => e = .returned (.bool (nanB b)) ∧ w = w' := by
  have x32 := run_frombits
  go_enter Try.func32, Try.ntmps32
  go_wp2_with (first | (go_at_call 16; (with_reducible refine (isnan_any b _ hb).mono ?_); rintro e w' ⟨rfl, rfl⟩) | go_in)
  go_ret
  exact ⟨rfl, rfl⟩
section
variable {n m lo hi : Nat}
theorem n_zero (h : ((n : Int) == 0) = true) : n = 0 := by rw [beq_iff_eq] at h; omega
theorem n_pos (h : ((n : Int) == 0) = false) : n ≠ 0 := by rw [beq_eq_false_iff_ne] at h; omega
theorem cz1 (h : ((n : Int) == 0) = true) (h1 : lo = 0) (h2 : hi = 0) : true = checkG ⟨n, m, lo, hi⟩ := by simp [checkG, n_zero h, h1, h2]
theorem cz2 (h : ((n : Int) == 0) = true) (h2 : ¬ hi = 0) : false = checkG ⟨n, m, lo, hi⟩ := by simp [checkG, n_zero h, h2]
theorem cz3 (h : ((n : Int) == 0) = true) (h1 : ¬ lo = 0) : false = checkG ⟨n, m, lo, hi⟩ := by simp [checkG, n_zero h, h1]
theorem cz4 (h : ((n : Int) == 0) = true) (h1 : lo = 0) : ((hi : Int) == 0) = checkG ⟨n, m, lo, hi⟩ := by
  have e : ((hi : Int) == 0) = decide (hi = 0) := by rw [Bool.eq_iff_iff, beq_iff_eq, decide_eq_true_eq]; omega
  rw [e]
  simp [checkG, n_zero h, h1]
theorem cn1 (h : ((n : Int) == 0) = false) (h1 : nanB lo = true) : false = checkG ⟨n, m, lo, hi⟩ := by simp [checkG, n_pos h, h1]
theorem cn2 (h : ((n : Int) == 0) = false) (h1 : nanB hi = true) : false = checkG ⟨n, m, lo, hi⟩ := by simp [checkG, n_pos h, h1]
theorem cn3 (h : ((n : Int) == 0) = false) (h1 : ¬ nanB lo = true) (h2 : ¬ nanB hi = true) : (!lessB hi lo) = checkG ⟨n, m, lo, hi⟩ := by simp [checkG, n_pos h, h1, h2]
theorem kne (x : Nat) : (((kindN x : Nat) : Int) != 4) = !nanB x := by
  rw [Bool.eq_iff_iff, bne_iff_ne, Bool.not_eq_true', ← Bool.not_eq_true, ← kind_nan_iff]
  omega
theorem cr1 (h : ((n : Int) == 0) = false) (h1 : ((kindN lo : Nat) : Int) = 4) : false = checkG ⟨n, m, lo, hi⟩ := cn1 h ((kind_nan_iff lo).1 (by omega))
theorem cr2 (h : ((n : Int) == 0) = false) (h1 : ((kindN hi : Nat) : Int) = 4) : false = checkG ⟨n, m, lo, hi⟩ := cn2 h ((kind_nan_iff hi).1 (by omega))
theorem cr3 (h : ((n : Int) == 0) = false) : ((((kindN lo : Nat) : Int) != 4) && (((kindN hi : Nat) : Int) != 4) && !lessB hi lo) = checkG ⟨n, m, lo, hi⟩ := by
  rw [kne, kne]
  simp [checkG, n_pos h]
end
theorem check_any (g : G4) (w : World) (hg : g.wf) :
    Calls Try.prog 19 #[gval g] w fun e w' => e = .returned (.bool (checkG g)) ∧ Below w.heap.size w w' := by
  obtain ⟨n, m, lo, hi⟩ := g
  obtain ⟨h1, h2, h3, h4⟩ := hg
  simp only at h1 h2 h3 h4
  show Calls Try.prog 19 #[.agg #[.int .u64 (n : Int), .int .u64 (m : Int), .int .u64 (lo : Int), .int .u64 (hi : Int)]] w _
  go_enter Try.func19, Try.ntmps19
  go_wp2_with (first | (go_at_call 32; (with_reducible refine (none_any _ _ (by assumption)).mono ?_); rintro e w' ⟨rfl, rfl⟩) | (go_at_call 31; (with_reducible refine (less_any _ _ _ (by assumption) (by assumption)).mono ?_); rintro e w' ⟨rfl, rfl⟩))
  all_goals go_ret
  all_goals exact ⟨ret_bool (by first | exact cz1 ‹_› ‹_› ‹_› | exact cz2 ‹_› ‹_› | exact cz3 ‹_› ‹_› | exact cz4 ‹_› ‹_› | exact cn1 ‹_› ‹_› | exact cn2 ‹_› ‹_› | exact cn3 ‹_› ‹_› ‹_› | exact cr1 ‹_› ‹_› | exact cr2 ‹_› ‹_› | exact cr3 ‹_›), below_new _ _⟩
theorem rcheck_any (g : G4) (w : World) (hg : g.wf) :
    Calls Try.prog 11 #[gval g] w fun e w' => e = .returned (.bool (checkG g)) ∧ Below w.heap.size w w' := by
  obtain ⟨n, m, lo, hi⟩ := g
  obtain ⟨h1, h2, h3, h4⟩ := hg
  simp only at h1 h2 h3 h4
  show Calls Try.prog 11 #[.agg #[.int .u64 (n : Int), .int .u64 (m : Int), .int .u64 (lo : Int), .int .u64 (hi : Int)]] w _
  go_enter Try.func11, Try.ntmps11
  go_wp2_with (first | (go_at_call 17; (with_reducible refine (rkind_any _ _ (by assumption)).mono ?_); rintro e w' ⟨rfl, rfl⟩) | (go_at_call 18; (with_reducible refine (rless_any _ _ _ (by assumption) (by assumption)).mono ?_); rintro e w' ⟨rfl, rfl⟩))
  all_goals go_ret
  all_goals exact ⟨ret_bool (by first | exact cz1 ‹_› ‹_› ‹_› | exact cz2 ‹_› ‹_› | exact cz3 ‹_› ‹_› | exact cz4 ‹_› ‹_› | exact cn1 ‹_› ‹_› | exact cn2 ‹_› ‹_› | exact cn3 ‹_› ‹_› ‹_› | exact cr1 ‹_› ‹_› | exact cr2 ‹_› ‹_› | exact cr3 ‹_›), below_new _ _⟩
end Go.Proofs.Yteohmcjclmaanaa
