/- What the statements on floats come to: the walks. -/
import Derived.Test.YtmkobcheemgofaaFloAddW
namespace Go.Proofs.Ytmkobcheemgofaa
set_option linter.unusedVariables false
set_option linter.unusedSimpArgs false
open Go.RowKit
theorem wf_i64 {x : Int} (h : (Lit.int .i64 x).wf = true) : -9223372036854775808 ≤ x ∧ x ≤ 9223372036854775807 := by
  simp [Lit.wf, IntKind.min, IntKind.max, IntKind.signed, IntKind.bits] at h
  exact h
theorem wf_u64 {x : Int} (h : (Lit.int .u64 x).wf = true) : ∃ n : Nat, x = (n : Int) ∧ n < 18446744073709551616 := by
  simp [Lit.wf, IntKind.min, IntKind.max, IntKind.signed, IntKind.bits] at h
  exact ⟨x.toNat, by omega, by omega⟩
theorem kind4 (b : Nat) : (((kindN b : Nat) : Int) == 4) = nanB b := by
  rw [Bool.eq_iff_iff, beq_iff_eq, ← kind_nan_iff]
  omega
theorem kind3 (b : Nat) (hb : b < 18446744073709551616) : (((kindN b : Nat) : Int) == 3) = decide (b % 9223372036854775808 = 9218868437227405312) := by
  rw [Bool.eq_iff_iff, beq_iff_eq, decide_eq_true_eq]
  unfold kindN expN fracN
  by_cases h1 : b / 4503599627370496 % 2048 = 2047 <;> by_cases h2 : 0 < b % 4503599627370496 <;> by_cases h3 : 0 < b / 4503599627370496 % 2048 <;> simp only [h1, h2, h3, if_true, if_false] <;> omega
theorem kind0 (b : Nat) (hb : b < 18446744073709551616) : (((kindN b : Nat) : Int) == 0) = zeroB b := by
  rw [Bool.eq_iff_iff, beq_iff_eq]
  unfold kindN expN fracN zeroB
  rw [decide_eq_true_eq]
  by_cases h1 : b / 4503599627370496 % 2048 = 2047 <;> by_cases h2 : 0 < b % 4503599627370496 <;> by_cases h3 : 0 < b / 4503599627370496 % 2048 <;> simp only [h1, h2, h3, if_true, if_false] <;> omega
theorem from_lt (v : Nat) (hv : v < 18446744073709551616) : fromN v < 18446744073709551616 := by have := from_bd v hv; omega
set_option maxRecDepth 100000 in
set_option maxHeartbeats 800000 in
theorem floOrders_walk (x0 : Int) (x1 : Int) (w : World) (wf0 : (Lit.int .u64 x0).wf = true) (wf1 : (Lit.int .u64 x1).wf = true) :
    Calls Try.prog 3 #[.int .u64 x0, .int .u64 x1] w fun e w' => e = .returned (.bool true) ∧ Below w.heap.size w w' := by
  obtain ⟨a, rfl, ha⟩ := wf_u64 wf0
  obtain ⟨b, rfl, hb⟩ := wf_u64 wf1
  clear wf0 wf1
  have h1 := less_self a
  have h2 := less_asymm a b
  rcases g1 : lessB a b with _ | _ <;> rcases g2 : lessB b a with _ | _
  all_goals
    rw [g1, g2] at h2
    first
    | (cases h2; done)
    | (clear h2
       go_enter Try.func3, Try.ntmps3
       go_wp2_with (first | (go_at_call 16; (with_reducible refine (less_any _ _ _ (by first | assumption | exact key_lt _ (by assumption) | exact of_lt _ (by assumption) | exact next_lt _ (by assumption) | exact mir_lt _ (by assumption) | exact next_lt _ (mir_lt _ (by assumption)) | exact mir_lt _ (next_lt _ (mir_lt _ (by assumption))) | exact steps_lt _ _ (by assumption) | exact from_lt _ (by assumption)) (by first | assumption | exact key_lt _ (by assumption) | exact of_lt _ (by assumption) | exact next_lt _ (by assumption) | exact mir_lt _ (by assumption) | exact next_lt _ (mir_lt _ (by assumption)) | exact mir_lt _ (next_lt _ (mir_lt _ (by assumption))) | exact steps_lt _ _ (by assumption) | exact from_lt _ (by assumption))).mono ?_); rintro e w' ⟨rfl, rfl⟩) | (go_at_call 17; (with_reducible refine (rless_any _ _ _ (by first | assumption | exact key_lt _ (by assumption) | exact of_lt _ (by assumption) | exact next_lt _ (by assumption) | exact mir_lt _ (by assumption) | exact next_lt _ (mir_lt _ (by assumption)) | exact mir_lt _ (next_lt _ (mir_lt _ (by assumption))) | exact steps_lt _ _ (by assumption) | exact from_lt _ (by assumption)) (by first | assumption | exact key_lt _ (by assumption) | exact of_lt _ (by assumption) | exact next_lt _ (by assumption) | exact mir_lt _ (by assumption) | exact next_lt _ (mir_lt _ (by assumption)) | exact mir_lt _ (next_lt _ (mir_lt _ (by assumption))) | exact steps_lt _ _ (by assumption) | exact from_lt _ (by assumption))).mono ?_); rintro e w' ⟨rfl, rfl⟩) | (go_at_call 18; (with_reducible refine (awake_any _).mono ?_); rintro e w' ⟨rfl, rfl⟩))
       all_goals go_ret
       all_goals exact ⟨rfl, Below.refl _ _⟩)
set_option maxRecDepth 100000 in
set_option maxHeartbeats 800000 in
theorem floKinds_walk (x0 : Int) (w : World) (wf0 : (Lit.int .u64 x0).wf = true) :
    Calls Try.prog 8 #[.int .u64 x0] w fun e w' => e = .returned (.bool true) ∧ Below w.heap.size w w' := by
  obtain ⟨b, rfl, hb⟩ := wf_u64 wf0
  clear wf0
  have h1 := of_key b hb
  have h2 := key_of b hb
  go_enter Try.func8, Try.ntmps8
  go_wp2_with (first | (go_at_call 24; (with_reducible refine (kind_any _ _ (by first | assumption | exact key_lt _ (by assumption) | exact of_lt _ (by assumption) | exact next_lt _ (by assumption) | exact mir_lt _ (by assumption) | exact next_lt _ (mir_lt _ (by assumption)) | exact mir_lt _ (next_lt _ (mir_lt _ (by assumption))) | exact steps_lt _ _ (by assumption) | exact from_lt _ (by assumption))).mono ?_); rintro e w' ⟨rfl, rfl⟩) | (go_at_call 25; (with_reducible refine (rkind_any _ _ (by first | assumption | exact key_lt _ (by assumption) | exact of_lt _ (by assumption) | exact next_lt _ (by assumption) | exact mir_lt _ (by assumption) | exact next_lt _ (mir_lt _ (by assumption)) | exact mir_lt _ (next_lt _ (mir_lt _ (by assumption))) | exact steps_lt _ _ (by assumption) | exact from_lt _ (by assumption))).mono ?_); rintro e w' ⟨rfl, rfl⟩) | (go_at_call 26; (with_reducible refine (key_any _ _ (by first | assumption | exact key_lt _ (by assumption) | exact of_lt _ (by assumption) | exact next_lt _ (by assumption) | exact mir_lt _ (by assumption) | exact next_lt _ (mir_lt _ (by assumption)) | exact mir_lt _ (next_lt _ (mir_lt _ (by assumption))) | exact steps_lt _ _ (by assumption) | exact from_lt _ (by assumption))).mono ?_); rintro e w' ⟨rfl, rfl⟩) | (go_at_call 27; (with_reducible refine (rkey_any _ _ (by first | assumption | exact key_lt _ (by assumption) | exact of_lt _ (by assumption) | exact next_lt _ (by assumption) | exact mir_lt _ (by assumption) | exact next_lt _ (mir_lt _ (by assumption)) | exact mir_lt _ (next_lt _ (mir_lt _ (by assumption))) | exact steps_lt _ _ (by assumption) | exact from_lt _ (by assumption))).mono ?_); rintro e w' ⟨rfl, rfl⟩) | (go_at_call 28; (with_reducible refine (of_any _ _ (by first | assumption | exact key_lt _ (by assumption) | exact of_lt _ (by assumption) | exact next_lt _ (by assumption) | exact mir_lt _ (by assumption) | exact next_lt _ (mir_lt _ (by assumption)) | exact mir_lt _ (next_lt _ (mir_lt _ (by assumption))) | exact steps_lt _ _ (by assumption) | exact from_lt _ (by assumption))).mono ?_); rintro e w' ⟨rfl, rfl⟩) | (go_at_call 29; (with_reducible refine (rof_any _ _ (by first | assumption | exact key_lt _ (by assumption) | exact of_lt _ (by assumption) | exact next_lt _ (by assumption) | exact mir_lt _ (by assumption) | exact next_lt _ (mir_lt _ (by assumption)) | exact mir_lt _ (next_lt _ (mir_lt _ (by assumption))) | exact steps_lt _ _ (by assumption) | exact from_lt _ (by assumption))).mono ?_); rintro e w' ⟨rfl, rfl⟩) | (go_at_call 18; (with_reducible refine (awake_any _).mono ?_); rintro e w' ⟨rfl, rfl⟩))
  all_goals go_ret
  all_goals exact ⟨rfl, Below.refl _ _⟩
set_option maxRecDepth 100000 in
set_option maxHeartbeats 800000 in
theorem floUnits_walk (x0 : Int) (x1 : Int) (w : World) (wf0 : (Lit.int .u64 x0).wf = true) (wf1 : (Lit.int .i64 x1).wf = true) :
    Calls Try.prog 4 #[.int .u64 x0, .int .i64 x1] w fun e w' => e = .returned (.bool true) ∧ Below w.heap.size w w' := by
  obtain ⟨b, rfl, hb⟩ := wf_u64 wf0
  obtain ⟨hx1, hx2⟩ := wf_i64 wf1
  clear wf0 wf1
  go_enter Try.func4, Try.ntmps4
  go_wp2_with (first | (go_at_call 19; (with_reducible refine (units_any _ _ _ (by first | assumption | exact key_lt _ (by assumption) | exact of_lt _ (by assumption) | exact next_lt _ (by assumption) | exact mir_lt _ (by assumption) | exact next_lt _ (mir_lt _ (by assumption)) | exact mir_lt _ (next_lt _ (mir_lt _ (by assumption))) | exact steps_lt _ _ (by assumption) | exact from_lt _ (by assumption)) (by omega) (by omega)).mono ?_); rintro e w' ⟨rfl, rfl⟩) | (go_at_call 20; (with_reducible refine (runits_any _ _ _ (by first | assumption | exact key_lt _ (by assumption) | exact of_lt _ (by assumption) | exact next_lt _ (by assumption) | exact mir_lt _ (by assumption) | exact next_lt _ (mir_lt _ (by assumption)) | exact mir_lt _ (next_lt _ (mir_lt _ (by assumption))) | exact steps_lt _ _ (by assumption) | exact from_lt _ (by assumption)) (by omega) (by omega)).mono ?_); rintro e w' ⟨rfl, rfl⟩) | (go_at_call 18; (with_reducible refine (awake_any _).mono ?_); rintro e w' ⟨rfl, rfl⟩))
  all_goals go_ret
  all_goals exact ⟨rfl, Below.refl _ _⟩
set_option maxRecDepth 100000 in
set_option maxHeartbeats 800000 in
theorem floFrom_walk (x0 : Int) (w : World) (wf0 : (Lit.int .u64 x0).wf = true) :
    Calls Try.prog 6 #[.int .u64 x0] w fun e w' => e = .returned (.bool true) ∧ Below w.heap.size w w' := by
  obtain ⟨v, rfl, hv⟩ := wf_u64 wf0
  clear wf0
  have h1 := from_float v hv
  have x23 := run_tobits
  go_enter Try.func6, Try.ntmps6
  go_wp2_with (first | (go_at_call 21; (with_reducible refine (from_any _ _ (by first | assumption | exact key_lt _ (by assumption) | exact of_lt _ (by assumption) | exact next_lt _ (by assumption) | exact mir_lt _ (by assumption) | exact next_lt _ (mir_lt _ (by assumption)) | exact mir_lt _ (next_lt _ (mir_lt _ (by assumption))) | exact steps_lt _ _ (by assumption) | exact from_lt _ (by assumption))).mono ?_); rintro e w' ⟨rfl, rfl⟩) | (go_at_call 22; (with_reducible refine (rfrom_any _ _ (by first | assumption | exact key_lt _ (by assumption) | exact of_lt _ (by assumption) | exact next_lt _ (by assumption) | exact mir_lt _ (by assumption) | exact next_lt _ (mir_lt _ (by assumption)) | exact mir_lt _ (next_lt _ (mir_lt _ (by assumption))) | exact steps_lt _ _ (by assumption) | exact from_lt _ (by assumption))).mono ?_); rintro e w' ⟨rfl, rfl⟩) | (go_at_call 18; (with_reducible refine (awake_any _).mono ?_); rintro e w' ⟨rfl, rfl⟩))
  all_goals go_ret
  all_goals exact ⟨rfl, Below.refl _ _⟩
set_option maxRecDepth 100000 in
set_option maxHeartbeats 800000 in
theorem floNext_walk (x0 : Int) (w : World) (wf0 : (Lit.int .u64 x0).wf = true) :
    Calls Try.prog 12 #[.int .u64 x0] w fun e w' => e = .returned (.bool true) ∧ Below w.heap.size w w' := by
  obtain ⟨b, rfl, hb⟩ := wf_u64 wf0
  clear wf0
  have k4 := kind4 b
  by_cases hn : nextN b = b
  · rcases next_eq b hb hn with g | g
    · go_enter Try.func12, Try.ntmps12
      go_wp2_with (first | (go_at_call 36; (with_reducible refine (next_any _ _ (by first | assumption | exact key_lt _ (by assumption) | exact of_lt _ (by assumption) | exact next_lt _ (by assumption) | exact mir_lt _ (by assumption) | exact next_lt _ (mir_lt _ (by assumption)) | exact mir_lt _ (next_lt _ (mir_lt _ (by assumption))) | exact steps_lt _ _ (by assumption) | exact from_lt _ (by assumption))).mono ?_); rintro e w' ⟨rfl, rfl⟩) | (go_at_call 37; (with_reducible refine (rnext_any _ _ (by first | assumption | exact key_lt _ (by assumption) | exact of_lt _ (by assumption) | exact next_lt _ (by assumption) | exact mir_lt _ (by assumption) | exact next_lt _ (mir_lt _ (by assumption)) | exact mir_lt _ (next_lt _ (mir_lt _ (by assumption))) | exact steps_lt _ _ (by assumption) | exact from_lt _ (by assumption))).mono ?_); rintro e w' ⟨rfl, rfl⟩) | (go_at_call 24; (with_reducible refine (kind_any _ _ (by first | assumption | exact key_lt _ (by assumption) | exact of_lt _ (by assumption) | exact next_lt _ (by assumption) | exact mir_lt _ (by assumption) | exact next_lt _ (mir_lt _ (by assumption)) | exact mir_lt _ (next_lt _ (mir_lt _ (by assumption))) | exact steps_lt _ _ (by assumption) | exact from_lt _ (by assumption))).mono ?_); rintro e w' ⟨rfl, rfl⟩) | (go_at_call 16; (with_reducible refine (less_any _ _ _ (by first | assumption | exact key_lt _ (by assumption) | exact of_lt _ (by assumption) | exact next_lt _ (by assumption) | exact mir_lt _ (by assumption) | exact next_lt _ (mir_lt _ (by assumption)) | exact mir_lt _ (next_lt _ (mir_lt _ (by assumption))) | exact steps_lt _ _ (by assumption) | exact from_lt _ (by assumption)) (by first | assumption | exact key_lt _ (by assumption) | exact of_lt _ (by assumption) | exact next_lt _ (by assumption) | exact mir_lt _ (by assumption) | exact next_lt _ (mir_lt _ (by assumption)) | exact mir_lt _ (next_lt _ (mir_lt _ (by assumption))) | exact steps_lt _ _ (by assumption) | exact from_lt _ (by assumption))).mono ?_); rintro e w' ⟨rfl, rfl⟩) | (go_at_call 18; (with_reducible refine (awake_any _).mono ?_); rintro e w' ⟨rfl, rfl⟩))
      all_goals go_ret
      all_goals exact ⟨rfl, Below.refl _ _⟩
    · have g1 : nanB b = false := by rw [g]; decide
      have g2 : ((b : Int) == 9218868437227405312) = true := by rw [beq_iff_eq]; omega
      clear g
      go_enter Try.func12, Try.ntmps12
      go_wp2_with (first | (go_at_call 36; (with_reducible refine (next_any _ _ (by first | assumption | exact key_lt _ (by assumption) | exact of_lt _ (by assumption) | exact next_lt _ (by assumption) | exact mir_lt _ (by assumption) | exact next_lt _ (mir_lt _ (by assumption)) | exact mir_lt _ (next_lt _ (mir_lt _ (by assumption))) | exact steps_lt _ _ (by assumption) | exact from_lt _ (by assumption))).mono ?_); rintro e w' ⟨rfl, rfl⟩) | (go_at_call 37; (with_reducible refine (rnext_any _ _ (by first | assumption | exact key_lt _ (by assumption) | exact of_lt _ (by assumption) | exact next_lt _ (by assumption) | exact mir_lt _ (by assumption) | exact next_lt _ (mir_lt _ (by assumption)) | exact mir_lt _ (next_lt _ (mir_lt _ (by assumption))) | exact steps_lt _ _ (by assumption) | exact from_lt _ (by assumption))).mono ?_); rintro e w' ⟨rfl, rfl⟩) | (go_at_call 24; (with_reducible refine (kind_any _ _ (by first | assumption | exact key_lt _ (by assumption) | exact of_lt _ (by assumption) | exact next_lt _ (by assumption) | exact mir_lt _ (by assumption) | exact next_lt _ (mir_lt _ (by assumption)) | exact mir_lt _ (next_lt _ (mir_lt _ (by assumption))) | exact steps_lt _ _ (by assumption) | exact from_lt _ (by assumption))).mono ?_); rintro e w' ⟨rfl, rfl⟩) | (go_at_call 16; (with_reducible refine (less_any _ _ _ (by first | assumption | exact key_lt _ (by assumption) | exact of_lt _ (by assumption) | exact next_lt _ (by assumption) | exact mir_lt _ (by assumption) | exact next_lt _ (mir_lt _ (by assumption)) | exact mir_lt _ (next_lt _ (mir_lt _ (by assumption))) | exact steps_lt _ _ (by assumption) | exact from_lt _ (by assumption)) (by first | assumption | exact key_lt _ (by assumption) | exact of_lt _ (by assumption) | exact next_lt _ (by assumption) | exact mir_lt _ (by assumption) | exact next_lt _ (mir_lt _ (by assumption)) | exact mir_lt _ (next_lt _ (mir_lt _ (by assumption))) | exact steps_lt _ _ (by assumption) | exact from_lt _ (by assumption))).mono ?_); rintro e w' ⟨rfl, rfl⟩) | (go_at_call 18; (with_reducible refine (awake_any _).mono ?_); rintro e w' ⟨rfl, rfl⟩))
      all_goals go_ret
      all_goals exact ⟨rfl, Below.refl _ _⟩
  · have g := next_less b hb hn
    have g1 : (((nextN b : Nat) : Int) == (b : Int)) = false := by rw [beq_eq_false_iff_ne]; omega
    have HN := Lib.hid hn
    clear hn
    go_enter Try.func12, Try.ntmps12
    go_wp2_with (first | (go_at_call 36; (with_reducible refine (next_any _ _ (by first | assumption | exact key_lt _ (by assumption) | exact of_lt _ (by assumption) | exact next_lt _ (by assumption) | exact mir_lt _ (by assumption) | exact next_lt _ (mir_lt _ (by assumption)) | exact mir_lt _ (next_lt _ (mir_lt _ (by assumption))) | exact steps_lt _ _ (by assumption) | exact from_lt _ (by assumption))).mono ?_); rintro e w' ⟨rfl, rfl⟩) | (go_at_call 37; (with_reducible refine (rnext_any _ _ (by first | assumption | exact key_lt _ (by assumption) | exact of_lt _ (by assumption) | exact next_lt _ (by assumption) | exact mir_lt _ (by assumption) | exact next_lt _ (mir_lt _ (by assumption)) | exact mir_lt _ (next_lt _ (mir_lt _ (by assumption))) | exact steps_lt _ _ (by assumption) | exact from_lt _ (by assumption))).mono ?_); rintro e w' ⟨rfl, rfl⟩) | (go_at_call 24; (with_reducible refine (kind_any _ _ (by first | assumption | exact key_lt _ (by assumption) | exact of_lt _ (by assumption) | exact next_lt _ (by assumption) | exact mir_lt _ (by assumption) | exact next_lt _ (mir_lt _ (by assumption)) | exact mir_lt _ (next_lt _ (mir_lt _ (by assumption))) | exact steps_lt _ _ (by assumption) | exact from_lt _ (by assumption))).mono ?_); rintro e w' ⟨rfl, rfl⟩) | (go_at_call 16; (with_reducible refine (less_any _ _ _ (by first | assumption | exact key_lt _ (by assumption) | exact of_lt _ (by assumption) | exact next_lt _ (by assumption) | exact mir_lt _ (by assumption) | exact next_lt _ (mir_lt _ (by assumption)) | exact mir_lt _ (next_lt _ (mir_lt _ (by assumption))) | exact steps_lt _ _ (by assumption) | exact from_lt _ (by assumption)) (by first | assumption | exact key_lt _ (by assumption) | exact of_lt _ (by assumption) | exact next_lt _ (by assumption) | exact mir_lt _ (by assumption) | exact next_lt _ (mir_lt _ (by assumption)) | exact mir_lt _ (next_lt _ (mir_lt _ (by assumption))) | exact steps_lt _ _ (by assumption) | exact from_lt _ (by assumption))).mono ?_); rintro e w' ⟨rfl, rfl⟩) | (go_at_call 18; (with_reducible refine (awake_any _).mono ?_); rintro e w' ⟨rfl, rfl⟩))
    all_goals go_ret
    all_goals exact ⟨rfl, Below.refl _ _⟩
set_option maxRecDepth 100000 in
set_option maxHeartbeats 800000 in
theorem floBetween_walk (x0 : Int) (x1 : Int) (w : World) (wf0 : (Lit.int .u64 x0).wf = true) (wf1 : (Lit.int .u64 x1).wf = true) :
    Calls Try.prog 13 #[.int .u64 x0, .int .u64 x1] w fun e w' => e = .returned (.bool true) ∧ Below w.heap.size w w' := by
  obtain ⟨b, rfl, hb⟩ := wf_u64 wf0
  obtain ⟨x, rfl, hx⟩ := wf_u64 wf1
  clear wf0 wf1
  have h2 := next_between b x hb
  rcases g1 : lessB b x with _ | _ <;> rcases g2 : lessB x (nextN b) with _ | _
  all_goals
    rw [g1, g2] at h2
    first
    | (cases h2; done)
    | (clear h2
       go_enter Try.func13, Try.ntmps13
       go_wp2_with (first | (go_at_call 16; (with_reducible refine (less_any _ _ _ (by first | assumption | exact key_lt _ (by assumption) | exact of_lt _ (by assumption) | exact next_lt _ (by assumption) | exact mir_lt _ (by assumption) | exact next_lt _ (mir_lt _ (by assumption)) | exact mir_lt _ (next_lt _ (mir_lt _ (by assumption))) | exact steps_lt _ _ (by assumption) | exact from_lt _ (by assumption)) (by first | assumption | exact key_lt _ (by assumption) | exact of_lt _ (by assumption) | exact next_lt _ (by assumption) | exact mir_lt _ (by assumption) | exact next_lt _ (mir_lt _ (by assumption)) | exact mir_lt _ (next_lt _ (mir_lt _ (by assumption))) | exact steps_lt _ _ (by assumption) | exact from_lt _ (by assumption))).mono ?_); rintro e w' ⟨rfl, rfl⟩) | (go_at_call 36; (with_reducible refine (next_any _ _ (by first | assumption | exact key_lt _ (by assumption) | exact of_lt _ (by assumption) | exact next_lt _ (by assumption) | exact mir_lt _ (by assumption) | exact next_lt _ (mir_lt _ (by assumption)) | exact mir_lt _ (next_lt _ (mir_lt _ (by assumption))) | exact steps_lt _ _ (by assumption) | exact from_lt _ (by assumption))).mono ?_); rintro e w' ⟨rfl, rfl⟩) | (go_at_call 18; (with_reducible refine (awake_any _).mono ?_); rintro e w' ⟨rfl, rfl⟩))
       all_goals go_ret
       all_goals exact ⟨rfl, Below.refl _ _⟩)
set_option maxRecDepth 100000 in
set_option maxHeartbeats 800000 in
theorem floMirror_walk (x0 : Int) (x1 : Int) (w : World) (wf0 : (Lit.int .u64 x0).wf = true) (wf1 : (Lit.int .u64 x1).wf = true) :
    Calls Try.prog 14 #[.int .u64 x0, .int .u64 x1] w fun e w' => e = .returned (.bool true) ∧ Below w.heap.size w w' := by
  obtain ⟨a, rfl, ha⟩ := wf_u64 wf0
  obtain ⟨b, rfl, hb⟩ := wf_u64 wf1
  clear wf0 wf1
  have hma := mir_lt a ha
  have e1 := xor_sign a ha
  have e2 := xor_sign b hb
  have e3 := xor_sign (nextN (mirN a)) (next_lt _ hma)
  have k1 := mir_kind a ha
  have k2 := mir_less a b ha hb
  have k4 := kind4 a
  rcases hn : nanB a with _ | _
  · by_cases i1 : a = 18442240474082181120
    · have j1 : ((a : Int) == 18442240474082181120) = true := by rw [beq_iff_eq]; omega
      clear i1
      go_enter Try.func14, Try.ntmps14
      go_wp2_with (first | (go_at_call 24; (with_reducible refine (kind_any _ _ (by first | assumption | exact key_lt _ (by assumption) | exact of_lt _ (by assumption) | exact next_lt _ (by assumption) | exact mir_lt _ (by assumption) | exact next_lt _ (mir_lt _ (by assumption)) | exact mir_lt _ (next_lt _ (mir_lt _ (by assumption))) | exact steps_lt _ _ (by assumption) | exact from_lt _ (by assumption))).mono ?_); rintro e w' ⟨rfl, rfl⟩) | (go_at_call 16; (with_reducible refine (less_any _ _ _ (by first | assumption | exact key_lt _ (by assumption) | exact of_lt _ (by assumption) | exact next_lt _ (by assumption) | exact mir_lt _ (by assumption) | exact next_lt _ (mir_lt _ (by assumption)) | exact mir_lt _ (next_lt _ (mir_lt _ (by assumption))) | exact steps_lt _ _ (by assumption) | exact from_lt _ (by assumption)) (by first | assumption | exact key_lt _ (by assumption) | exact of_lt _ (by assumption) | exact next_lt _ (by assumption) | exact mir_lt _ (by assumption) | exact next_lt _ (mir_lt _ (by assumption)) | exact mir_lt _ (next_lt _ (mir_lt _ (by assumption))) | exact steps_lt _ _ (by assumption) | exact from_lt _ (by assumption))).mono ?_); rintro e w' ⟨rfl, rfl⟩) | (go_at_call 36; (with_reducible refine (next_any _ _ (by first | assumption | exact key_lt _ (by assumption) | exact of_lt _ (by assumption) | exact next_lt _ (by assumption) | exact mir_lt _ (by assumption) | exact next_lt _ (mir_lt _ (by assumption)) | exact mir_lt _ (next_lt _ (mir_lt _ (by assumption))) | exact steps_lt _ _ (by assumption) | exact from_lt _ (by assumption))).mono ?_); rintro e w' ⟨rfl, rfl⟩) | (go_at_call 18; (with_reducible refine (awake_any _).mono ?_); rintro e w' ⟨rfl, rfl⟩))
      all_goals go_ret
      all_goals exact ⟨rfl, Below.refl _ _⟩
    · have j1 : ((a : Int) == 18442240474082181120) = false := by rw [beq_eq_false_iff_ne]; omega
      by_cases i2 : a = 9218868437227405312
      · have j2 : (((mirN a : Nat) : Int) == 18442240474082181120) = true := by rw [i2]; decide
        clear i1 i2
        go_enter Try.func14, Try.ntmps14
        go_wp2_with (first | (go_at_call 24; (with_reducible refine (kind_any _ _ (by first | assumption | exact key_lt _ (by assumption) | exact of_lt _ (by assumption) | exact next_lt _ (by assumption) | exact mir_lt _ (by assumption) | exact next_lt _ (mir_lt _ (by assumption)) | exact mir_lt _ (next_lt _ (mir_lt _ (by assumption))) | exact steps_lt _ _ (by assumption) | exact from_lt _ (by assumption))).mono ?_); rintro e w' ⟨rfl, rfl⟩) | (go_at_call 16; (with_reducible refine (less_any _ _ _ (by first | assumption | exact key_lt _ (by assumption) | exact of_lt _ (by assumption) | exact next_lt _ (by assumption) | exact mir_lt _ (by assumption) | exact next_lt _ (mir_lt _ (by assumption)) | exact mir_lt _ (next_lt _ (mir_lt _ (by assumption))) | exact steps_lt _ _ (by assumption) | exact from_lt _ (by assumption)) (by first | assumption | exact key_lt _ (by assumption) | exact of_lt _ (by assumption) | exact next_lt _ (by assumption) | exact mir_lt _ (by assumption) | exact next_lt _ (mir_lt _ (by assumption)) | exact mir_lt _ (next_lt _ (mir_lt _ (by assumption))) | exact steps_lt _ _ (by assumption) | exact from_lt _ (by assumption))).mono ?_); rintro e w' ⟨rfl, rfl⟩) | (go_at_call 36; (with_reducible refine (next_any _ _ (by first | assumption | exact key_lt _ (by assumption) | exact of_lt _ (by assumption) | exact next_lt _ (by assumption) | exact mir_lt _ (by assumption) | exact next_lt _ (mir_lt _ (by assumption)) | exact mir_lt _ (next_lt _ (mir_lt _ (by assumption))) | exact steps_lt _ _ (by assumption) | exact from_lt _ (by assumption))).mono ?_); rintro e w' ⟨rfl, rfl⟩) | (go_at_call 18; (with_reducible refine (awake_any _).mono ?_); rintro e w' ⟨rfl, rfl⟩))
        all_goals go_ret
        all_goals exact ⟨rfl, Below.refl _ _⟩
      · have j2 : (((mirN a : Nat) : Int) == 18442240474082181120) = false := by rw [beq_eq_false_iff_ne]; unfold mirN; split <;> omega
        have k3 := mir_next a ha hn i1 i2
        clear i1 i2
        go_enter Try.func14, Try.ntmps14
        go_wp2_with (first | (go_at_call 24; (with_reducible refine (kind_any _ _ (by first | assumption | exact key_lt _ (by assumption) | exact of_lt _ (by assumption) | exact next_lt _ (by assumption) | exact mir_lt _ (by assumption) | exact next_lt _ (mir_lt _ (by assumption)) | exact mir_lt _ (next_lt _ (mir_lt _ (by assumption))) | exact steps_lt _ _ (by assumption) | exact from_lt _ (by assumption))).mono ?_); rintro e w' ⟨rfl, rfl⟩) | (go_at_call 16; (with_reducible refine (less_any _ _ _ (by first | assumption | exact key_lt _ (by assumption) | exact of_lt _ (by assumption) | exact next_lt _ (by assumption) | exact mir_lt _ (by assumption) | exact next_lt _ (mir_lt _ (by assumption)) | exact mir_lt _ (next_lt _ (mir_lt _ (by assumption))) | exact steps_lt _ _ (by assumption) | exact from_lt _ (by assumption)) (by first | assumption | exact key_lt _ (by assumption) | exact of_lt _ (by assumption) | exact next_lt _ (by assumption) | exact mir_lt _ (by assumption) | exact next_lt _ (mir_lt _ (by assumption)) | exact mir_lt _ (next_lt _ (mir_lt _ (by assumption))) | exact steps_lt _ _ (by assumption) | exact from_lt _ (by assumption))).mono ?_); rintro e w' ⟨rfl, rfl⟩) | (go_at_call 36; (with_reducible refine (next_any _ _ (by first | assumption | exact key_lt _ (by assumption) | exact of_lt _ (by assumption) | exact next_lt _ (by assumption) | exact mir_lt _ (by assumption) | exact next_lt _ (mir_lt _ (by assumption)) | exact mir_lt _ (next_lt _ (mir_lt _ (by assumption))) | exact steps_lt _ _ (by assumption) | exact from_lt _ (by assumption))).mono ?_); rintro e w' ⟨rfl, rfl⟩) | (go_at_call 18; (with_reducible refine (awake_any _).mono ?_); rintro e w' ⟨rfl, rfl⟩))
        all_goals go_ret
        all_goals exact ⟨rfl, Below.refl _ _⟩
  · go_enter Try.func14, Try.ntmps14
    go_wp2_with (first | (go_at_call 24; (with_reducible refine (kind_any _ _ (by first | assumption | exact key_lt _ (by assumption) | exact of_lt _ (by assumption) | exact next_lt _ (by assumption) | exact mir_lt _ (by assumption) | exact next_lt _ (mir_lt _ (by assumption)) | exact mir_lt _ (next_lt _ (mir_lt _ (by assumption))) | exact steps_lt _ _ (by assumption) | exact from_lt _ (by assumption))).mono ?_); rintro e w' ⟨rfl, rfl⟩) | (go_at_call 16; (with_reducible refine (less_any _ _ _ (by first | assumption | exact key_lt _ (by assumption) | exact of_lt _ (by assumption) | exact next_lt _ (by assumption) | exact mir_lt _ (by assumption) | exact next_lt _ (mir_lt _ (by assumption)) | exact mir_lt _ (next_lt _ (mir_lt _ (by assumption))) | exact steps_lt _ _ (by assumption) | exact from_lt _ (by assumption)) (by first | assumption | exact key_lt _ (by assumption) | exact of_lt _ (by assumption) | exact next_lt _ (by assumption) | exact mir_lt _ (by assumption) | exact next_lt _ (mir_lt _ (by assumption)) | exact mir_lt _ (next_lt _ (mir_lt _ (by assumption))) | exact steps_lt _ _ (by assumption) | exact from_lt _ (by assumption))).mono ?_); rintro e w' ⟨rfl, rfl⟩) | (go_at_call 36; (with_reducible refine (next_any _ _ (by first | assumption | exact key_lt _ (by assumption) | exact of_lt _ (by assumption) | exact next_lt _ (by assumption) | exact mir_lt _ (by assumption) | exact next_lt _ (mir_lt _ (by assumption)) | exact mir_lt _ (next_lt _ (mir_lt _ (by assumption))) | exact steps_lt _ _ (by assumption) | exact from_lt _ (by assumption))).mono ?_); rintro e w' ⟨rfl, rfl⟩) | (go_at_call 18; (with_reducible refine (awake_any _).mono ?_); rintro e w' ⟨rfl, rfl⟩))
    all_goals go_ret
    all_goals exact ⟨rfl, Below.refl _ _⟩
end Go.Proofs.Ytmkobcheemgofaa
