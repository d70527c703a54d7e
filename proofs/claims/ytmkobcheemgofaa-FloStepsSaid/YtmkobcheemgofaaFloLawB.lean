/- What the statements on sums, shifts and steps come to: the walks. -/
import Derived.Test.YtmkobcheemgofaaFloLawA
namespace Go.Proofs.Ytmkobcheemgofaa
set_option linter.unusedVariables false
set_option linter.unusedSimpArgs false
open Go.RowKit
theorem below_then {w w1 w2 : World} (h : Below w.heap.size w w1) (k : Below w1.heap.size w1 w2) : Below w.heap.size w w2 := h.trans (k.mono h.size)
set_option maxRecDepth 100000 in
set_option maxHeartbeats 800000 in
theorem floAdds_walk (x0 : Int) (x1 : Int) (w : World) (wf0 : (Lit.int .u64 x0).wf = true) (wf1 : (Lit.int .u64 x1).wf = true) :
    Calls Try.prog 9 #[.int .u64 x0, .int .u64 x1] w fun e w' => e = .returned (.bool true) ∧ Below w.heap.size w w' := by
  obtain ⟨a, rfl, ha⟩ := wf_u64 wf0
  obtain ⟨b, rfl, hb⟩ := wf_u64 wf1
  clear wf0 wf1
  have hc := addN_comm b a
  have HC := Lib.hid hc
  clear hc
  go_enter Try.func9, Try.ntmps9
  go_wp2_with fail
  refine (add_any a b _ ha hb).mono ?_
  rintro e w1 ⟨rfl, hb1⟩
  go_wp2_with fail
  refine (radd_any a b _ ha hb).mono ?_
  rintro e w2 ⟨rfl, hb2⟩
  go_wp2_with fail
  refine (add_any a b _ ha hb).mono ?_
  rintro e w3 ⟨rfl, hb3⟩
  go_wp2_with fail
  refine (add_any b a _ hb ha).mono ?_
  rintro e w4 ⟨rfl, hb4⟩
  rw [HC.out]
  go_wp2_with fail
  refine (awake_any _).mono ?_
  rintro e w5 ⟨rfl, rfl⟩
  go_wp2
  go_ret
  exact ⟨rfl, below_then (below_then (below_then hb1 hb2) hb3) hb4⟩
theorem noughts_add : addN 9223372036854775808 9223372036854775808 = 9223372036854775808 := by decide +kernel
theorem noughts_add' : addN 0 9223372036854775808 = 0 := by decide +kernel
theorem add_lit1 (w : World) : Calls Try.prog 30 #[.int .u64 9223372036854775808, .int .u64 9223372036854775808] w fun e w' => e = .returned (.int .u64 9223372036854775808) ∧ Below w.heap.size w w' := by
  refine (add_any 9223372036854775808 9223372036854775808 w (by decide) (by decide)).mono ?_
  rw [noughts_add]
  exact fun _ _ h => h
theorem add_lit0 (w : World) : Calls Try.prog 30 #[.int .u64 0, .int .u64 9223372036854775808] w fun e w' => e = .returned (.int .u64 0) ∧ Below w.heap.size w w' := by
  refine (add_any 0 9223372036854775808 w (by decide) (by decide)).mono ?_
  rw [noughts_add']
  exact fun _ _ h => h
theorem add_nought_any (b : Nat) (w : World) (hb : b < 18446744073709551616) (hf : finB b = true) : Calls Try.prog 30 #[.int .u64 (b : Int), .int .u64 9223372036854775808] w fun e w' => e = .returned (.int .u64 (b : Int)) ∧ Below w.heap.size w w' := by
  refine (add_any b 9223372036854775808 w hb (by decide)).mono ?_
  rw [addN_some (add_nought b hb hf) (by rw [nan_false b hb]; unfold finB at hf; rw [decide_eq_true_eq] at hf; omega)]
  exact fun _ _ h => h
set_option maxRecDepth 100000 in
set_option maxHeartbeats 800000 in
theorem floNoughts_walk (x0 : Int) (w : World) (wf0 : (Lit.int .u64 x0).wf = true) :
    Calls Try.prog 10 #[.int .u64 x0] w fun e w' => e = .returned (.bool true) ∧ Below w.heap.size w w' := by
  obtain ⟨b, rfl, hb⟩ := wf_u64 wf0
  clear wf0
  have e1 := xor_sign b hb
  have hm := mir_lt b hb
  have k4 := kind4 b
  have k3 := kind3 b hb
  rcases hf : finB b with _ | _
  · have ha := addN_none (add_cancel_bad b hb hf)
    have HA := Lib.hid ha
    clear ha
    have hq : nanB b = true ∨ nanB b = false ∧ decide (b % 9223372036854775808 = 9218868437227405312) = true := by
      rcases hn : nanB b with _ | _
      · right
        refine ⟨rfl, ?_⟩
        rw [nan_false b hb] at hn
        unfold finB at hf
        rw [decide_eq_false_iff_not] at hf
        rw [decide_eq_true_eq]
        omega
      · exact .inl rfl
    clear hf
    rcases hq with q1 | ⟨q1, q2⟩
    all_goals
      go_enter Try.func10, Try.ntmps10
      go_wp2_with (first | (go_at_call 24; (with_reducible refine (kind_any _ _ (by first | assumption | exact key_lt _ (by assumption) | exact of_lt _ (by assumption) | exact next_lt _ (by assumption) | exact mir_lt _ (by assumption) | exact next_lt _ (mir_lt _ (by assumption)) | exact mir_lt _ (next_lt _ (mir_lt _ (by assumption))) | exact steps_lt _ _ (by assumption) | exact from_lt _ (by assumption))).mono ?_); rintro e w' ⟨rfl, rfl⟩))
      refine (add_any b (mirN b) _ hb hm).mono ?_
      rintro e w1 ⟨rfl, hb1⟩
      rw [HA.out]
      go_wp2_with fail
      refine (awake_any _).mono ?_
      rintro e w2 ⟨rfl, rfl⟩
      go_wp2
      go_ret
      exact ⟨rfl, hb1⟩
  · have ha := addN_some (add_cancel b hb hf) (by decide)
    have HA := Lib.hid ha
    have HF := Lib.hid hf
    clear ha
    have q1 : nanB b = false := by
      rw [nan_false b hb]
      unfold finB at hf
      rw [decide_eq_true_eq] at hf
      omega
    have q2 : decide (b % 9223372036854775808 = 9218868437227405312) = false := by
      unfold finB at hf
      rw [decide_eq_true_eq] at hf
      rw [decide_eq_false_iff_not]
      omega
    clear hf
    go_enter Try.func10, Try.ntmps10
    go_wp2_with (first | (go_at_call 24; (with_reducible refine (kind_any _ _ (by first | assumption | exact key_lt _ (by assumption) | exact of_lt _ (by assumption) | exact next_lt _ (by assumption) | exact mir_lt _ (by assumption) | exact next_lt _ (mir_lt _ (by assumption)) | exact mir_lt _ (next_lt _ (mir_lt _ (by assumption))) | exact steps_lt _ _ (by assumption) | exact from_lt _ (by assumption))).mono ?_); rintro e w' ⟨rfl, rfl⟩))
    refine (add_any b (mirN b) _ hb hm).mono ?_
    rintro e w1 ⟨rfl, hb1⟩
    rw [HA.out]
    go_wp2_with fail
    refine (add_lit1 _).mono ?_
    rintro e w2 ⟨rfl, hb2⟩
    go_wp2_with fail
    refine (add_lit0 _).mono ?_
    rintro e w3 ⟨rfl, hb3⟩
    go_wp2_with fail
    refine (add_nought_any b _ hb HF.out).mono ?_
    rintro e w4 ⟨rfl, hb4⟩
    go_wp2_with fail
    refine (awake_any _).mono ?_
    rintro e w5 ⟨rfl, rfl⟩
    go_wp2
    go_ret
    exact ⟨rfl, below_then (below_then (below_then hb1 hb2) hb3) hb4⟩
theorem less_noughts {a b : Nat} (h1 : zeroB a = true) (h2 : zeroB b = true) : lessB a b = (negB a && !negB b) := by
  unfold zeroB at h1 h2
  rw [decide_eq_true_eq] at h1 h2
  rcases h1 with rfl | rfl <;> rcases h2 with rfl | rfl <;> decide
theorem eq_nought (a : Nat) (ha : a < 18446744073709551616) : (FloatKind.f64.format.order a 0 == some Ordering.eq) = zeroB a := by
  show (Ieee.double.order a 0 == some Ordering.eq) = _
  rw [order_eq a 0 ha (by decide), show nanB 0 = false by decide, show zeroB 0 = true by decide, Bool.eq_iff_iff]
  rcases hn : nanB a with _ | _
  · simp [zeroB]
  · simp
    rw [nan_bound a ha] at hn
    unfold zeroB
    rw [decide_eq_false_iff_not]
    omega
theorem lt_bits (a b : Nat) (ha : a < 18446744073709551616) (hb : b < 18446744073709551616) : (FloatKind.f64.format.order a b == some Ordering.lt) = (lessB a b && !(zeroB a && zeroB b)) := order_lt a b ha hb
set_option maxRecDepth 100000 in
set_option maxHeartbeats 800000 in
theorem floMachine_walk (x0 : Int) (x1 : Int) (w : World) (wf0 : (Lit.int .u64 x0).wf = true) (wf1 : (Lit.int .u64 x1).wf = true) :
    Calls Try.prog 11 #[.int .u64 x0, .int .u64 x1] w fun e w' => e = .returned (.bool true) ∧ Below w.heap.size w w' := by
  obtain ⟨a, rfl, ha⟩ := wf_u64 wf0
  obtain ⟨b, rfl, hb⟩ := wf_u64 wf1
  clear wf0 wf1
  have k4 := kind4 a
  have k3 := kind3 a ha
  have k0 := kind0 a ha
  have z1 := eq_nought a ha
  have z2 := eq_nought b hb
  have l1 := lt_bits a b ha hb
  have x32 := run_frombits
  have hq : (zeroB a = true ∧ zeroB b = true ∧ lessB a b = (negB a && !negB b)) ∨ (zeroB a = false) ∨ (zeroB a = true ∧ zeroB b = false) := by
    rcases g1 : zeroB a with _ | _
    · exact .inr (.inl rfl)
    · rcases g2 : zeroB b with _ | _
      · exact .inr (.inr ⟨rfl, rfl⟩)
      · exact .inl ⟨rfl, rfl, less_noughts g1 g2⟩
  rcases hq with ⟨q1, q2, q3⟩ | q1 | ⟨q1, q2⟩
  · rcases n1 : negB a with _ | _ <;> rcases n2 : negB b with _ | _
    all_goals
      rw [n1, n2] at q3
      go_enter Try.func11, Try.ntmps11
      go_wp2_with (first | (go_at_call 24; (with_reducible refine (kind_any _ _ (by first | assumption | exact key_lt _ (by assumption) | exact of_lt _ (by assumption) | exact next_lt _ (by assumption) | exact mir_lt _ (by assumption) | exact next_lt _ (mir_lt _ (by assumption)) | exact mir_lt _ (next_lt _ (mir_lt _ (by assumption))) | exact steps_lt _ _ (by assumption) | exact from_lt _ (by assumption))).mono ?_); rintro e w' ⟨rfl, rfl⟩) | (go_at_call 33; (with_reducible refine (isnan_any _ _ (by first | assumption | exact key_lt _ (by assumption) | exact of_lt _ (by assumption) | exact next_lt _ (by assumption) | exact mir_lt _ (by assumption) | exact next_lt _ (mir_lt _ (by assumption)) | exact mir_lt _ (next_lt _ (mir_lt _ (by assumption))) | exact steps_lt _ _ (by assumption) | exact from_lt _ (by assumption))).mono ?_); rintro e w' ⟨rfl, rfl⟩) | (go_at_call 34; (with_reducible refine (isinf0_any _ _ (by first | assumption | exact key_lt _ (by assumption) | exact of_lt _ (by assumption) | exact next_lt _ (by assumption) | exact mir_lt _ (by assumption) | exact next_lt _ (mir_lt _ (by assumption)) | exact mir_lt _ (next_lt _ (mir_lt _ (by assumption))) | exact steps_lt _ _ (by assumption) | exact from_lt _ (by assumption))).mono ?_); rintro e w' ⟨rfl, rfl⟩) | (go_at_call 35; (with_reducible refine (signbit_any _ _ (by first | assumption | exact key_lt _ (by assumption) | exact of_lt _ (by assumption) | exact next_lt _ (by assumption) | exact mir_lt _ (by assumption) | exact next_lt _ (mir_lt _ (by assumption)) | exact mir_lt _ (next_lt _ (mir_lt _ (by assumption))) | exact steps_lt _ _ (by assumption) | exact from_lt _ (by assumption))).mono ?_); rintro e w' ⟨rfl, rfl⟩) | (go_at_call 16; (with_reducible refine (less_any _ _ _ (by first | assumption | exact key_lt _ (by assumption) | exact of_lt _ (by assumption) | exact next_lt _ (by assumption) | exact mir_lt _ (by assumption) | exact next_lt _ (mir_lt _ (by assumption)) | exact mir_lt _ (next_lt _ (mir_lt _ (by assumption))) | exact steps_lt _ _ (by assumption) | exact from_lt _ (by assumption)) (by first | assumption | exact key_lt _ (by assumption) | exact of_lt _ (by assumption) | exact next_lt _ (by assumption) | exact mir_lt _ (by assumption) | exact next_lt _ (mir_lt _ (by assumption)) | exact mir_lt _ (next_lt _ (mir_lt _ (by assumption))) | exact steps_lt _ _ (by assumption) | exact from_lt _ (by assumption))).mono ?_); rintro e w' ⟨rfl, rfl⟩) | (go_at_call 18; (with_reducible refine (awake_any _).mono ?_); rintro e w' ⟨rfl, rfl⟩))
      all_goals go_ret
      all_goals exact ⟨rfl, Below.refl _ _⟩
  all_goals
    go_enter Try.func11, Try.ntmps11
    go_wp2_with (first | (go_at_call 24; (with_reducible refine (kind_any _ _ (by first | assumption | exact key_lt _ (by assumption) | exact of_lt _ (by assumption) | exact next_lt _ (by assumption) | exact mir_lt _ (by assumption) | exact next_lt _ (mir_lt _ (by assumption)) | exact mir_lt _ (next_lt _ (mir_lt _ (by assumption))) | exact steps_lt _ _ (by assumption) | exact from_lt _ (by assumption))).mono ?_); rintro e w' ⟨rfl, rfl⟩) | (go_at_call 33; (with_reducible refine (isnan_any _ _ (by first | assumption | exact key_lt _ (by assumption) | exact of_lt _ (by assumption) | exact next_lt _ (by assumption) | exact mir_lt _ (by assumption) | exact next_lt _ (mir_lt _ (by assumption)) | exact mir_lt _ (next_lt _ (mir_lt _ (by assumption))) | exact steps_lt _ _ (by assumption) | exact from_lt _ (by assumption))).mono ?_); rintro e w' ⟨rfl, rfl⟩) | (go_at_call 34; (with_reducible refine (isinf0_any _ _ (by first | assumption | exact key_lt _ (by assumption) | exact of_lt _ (by assumption) | exact next_lt _ (by assumption) | exact mir_lt _ (by assumption) | exact next_lt _ (mir_lt _ (by assumption)) | exact mir_lt _ (next_lt _ (mir_lt _ (by assumption))) | exact steps_lt _ _ (by assumption) | exact from_lt _ (by assumption))).mono ?_); rintro e w' ⟨rfl, rfl⟩) | (go_at_call 35; (with_reducible refine (signbit_any _ _ (by first | assumption | exact key_lt _ (by assumption) | exact of_lt _ (by assumption) | exact next_lt _ (by assumption) | exact mir_lt _ (by assumption) | exact next_lt _ (mir_lt _ (by assumption)) | exact mir_lt _ (next_lt _ (mir_lt _ (by assumption))) | exact steps_lt _ _ (by assumption) | exact from_lt _ (by assumption))).mono ?_); rintro e w' ⟨rfl, rfl⟩) | (go_at_call 16; (with_reducible refine (less_any _ _ _ (by first | assumption | exact key_lt _ (by assumption) | exact of_lt _ (by assumption) | exact next_lt _ (by assumption) | exact mir_lt _ (by assumption) | exact next_lt _ (mir_lt _ (by assumption)) | exact mir_lt _ (next_lt _ (mir_lt _ (by assumption))) | exact steps_lt _ _ (by assumption) | exact from_lt _ (by assumption)) (by first | assumption | exact key_lt _ (by assumption) | exact of_lt _ (by assumption) | exact next_lt _ (by assumption) | exact mir_lt _ (by assumption) | exact next_lt _ (mir_lt _ (by assumption)) | exact mir_lt _ (next_lt _ (mir_lt _ (by assumption))) | exact steps_lt _ _ (by assumption) | exact from_lt _ (by assumption))).mono ?_); rintro e w' ⟨rfl, rfl⟩) | (go_at_call 18; (with_reducible refine (awake_any _).mono ?_); rintro e w' ⟨rfl, rfl⟩))
    all_goals go_ret
    all_goals exact ⟨rfl, Below.refl _ _⟩
end Go.Proofs.Ytmkobcheemgofaa
