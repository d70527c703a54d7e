/- What the statements on shifts, whole numbers and steps come to: the walks. -/
import Derived.Test.YtmkobcheemgofaaFloLawB
namespace Go.Proofs.Ytmkobcheemgofaa
set_option linter.unusedVariables false
set_option linter.unusedSimpArgs false
open Go.RowKit
theorem units_how (b : Nat) (s : Int) : (unitsN b s).2 ≤ 3 := by
  unfold unitsN
  split
  · exact Nat.le_refl _
  · split
    · decide
    · split
      · decide
      · split
        · decide
        · split <;> simp
theorem units_num (b : Nat) (s : Int) : (unitsN b s).1 < 18446744073709551616 := by
  unfold unitsN
  split
  · simp
  · split
    · simp
    · split
      · simp
      · split
        · simp
        · split
          · simp
          · omega
theorem units_is (b x how : Nat) (s : Int) (w : World) (hb : b < 18446744073709551616) (h2 : -9223372036854775808 ≤ s) (h3 : s ≤ 9223372036854775807) (h : unitsN b s = (x, how)) :
    Calls Try.prog 19 #[.int .u64 (b : Int), .int .i64 s] w fun e w' => e = .returned (.tuple #[.int .u64 (x : Int), .int .i64 (how : Int)]) ∧ w = w' := by
  have := units_any b s w hb h2 h3
  rw [h] at this
  exact this
theorem units_lit (b x : Nat) (hw : Nat) (k : Int) (s : Int) (w : World) (hk : k = (hw : Int)) (hb : b < 18446744073709551616) (h2 : -9223372036854775808 ≤ s) (h3 : s ≤ 9223372036854775807) (h : unitsN b s = (x, hw)) :
    Calls Try.prog 19 #[.int .u64 (b : Int), .int .i64 s] w fun e w' => e = .returned (.tuple #[.int .u64 (x : Int), .int .i64 k]) ∧ w = w' := by
  subst hk
  exact units_is b x hw s w hb h2 h3 h
set_option maxRecDepth 100000 in
set_option maxHeartbeats 800000 in
theorem floShifts_walk (x0 : Int) (x1 : Int) (w : World) (wf0 : (Lit.int .u64 x0).wf = true) (wf1 : (Lit.int .i64 x1).wf = true) :
    Calls Try.prog 5 #[.int .u64 x0, .int .i64 x1] w fun e w' => e = .returned (.bool true) ∧ Below w.heap.size w w' := by
  obtain ⟨b, rfl, hb⟩ := wf_u64 wf0
  obtain ⟨hx1, hx2⟩ := wf_i64 wf1
  obtain ⟨s, rfl⟩ : ∃ s : Int, s = x1 := ⟨_, rfl⟩
  clear wf0 wf1
  by_cases c1 : s < -1900
  · go_enter Try.func5, Try.ntmps5
    go_wp2_with (first | (go_at_call 18; (with_reducible refine (awake_any _).mono ?_); rintro e w' ⟨rfl, rfl⟩))
    all_goals go_ret
    all_goals exact ⟨rfl, Below.refl _ _⟩
  · by_cases c2 : 1900 < s
    · go_enter Try.func5, Try.ntmps5
      go_wp2_with (first | (go_at_call 18; (with_reducible refine (awake_any _).mono ?_); rintro e w' ⟨rfl, rfl⟩))
      all_goals go_ret
      all_goals exact ⟨rfl, Below.refl _ _⟩
    · have hsh := units_shift b s (by omega) (by omega)
      have hh := units_how b s
      have hnum := units_num b (s + 1)
      rcases hu : unitsN b s with ⟨x, how⟩
      rcases hu2 : unitsN b (s + 1) with ⟨y, is⟩
      rw [hu, hu2] at hsh
      rw [hu] at hh
      rw [hu2] at hnum
      simp only at hsh hh hnum
      have HU := Lib.hid hu
      have HU2 := Lib.hid hu2
      have HY := Lib.hid hnum
      clear hu hu2 hnum
      by_cases c3 : how = 1 ∨ how = 3 ∨ how = 2
      · rw [if_pos c3] at hsh
        subst hsh
        rcases c3 with rfl | rfl | rfl
        all_goals
          clear hh
          go_enter Try.func5, Try.ntmps5
          go_wp2_with (first | (go_at_call 19; (with_reducible refine (units_lit b x _ _ s _ rfl hb (by omega) (by omega) HU.out).mono ?_); rintro e w' ⟨rfl, rfl⟩) | (go_at_call 19; (with_reducible refine (units_lit b y _ _ (s + 1) _ rfl hb (by omega) (by omega) HU2.out).mono ?_); rintro e w' ⟨rfl, rfl⟩) | (go_at_call 18; (with_reducible refine (awake_any _).mono ?_); rintro e w' ⟨rfl, rfl⟩))
          all_goals go_ret
          all_goals exact ⟨rfl, Below.refl _ _⟩
      · rw [if_neg c3] at hsh
        obtain rfl : how = 0 := by omega
        clear c3 hh
        by_cases c4 : 9223372036854775808 ≤ x
        · rw [if_pos c4] at hsh
          subst hsh
          have t1 : (9223372036854775808 : Int) ≤ (x : Int) := by omega
          clear c4
          go_enter Try.func5, Try.ntmps5
          go_wp2_with (first | (go_at_call 19; (with_reducible refine (units_lit b x _ 0 s _ rfl hb (by omega) (by omega) HU.out).mono ?_); rintro e w' ⟨rfl, rfl⟩) | (go_at_call 19; (with_reducible refine (units_lit b y _ 2 (s + 1) _ rfl hb (by omega) (by omega) HU2.out).mono ?_); rintro e w' ⟨rfl, rfl⟩) | (go_at_call 18; (with_reducible refine (awake_any _).mono ?_); rintro e w' ⟨rfl, rfl⟩))
          all_goals go_ret
          all_goals exact ⟨rfl, Below.refl _ _⟩
        · rw [if_neg c4] at hsh
          obtain ⟨rfl, hy⟩ := hsh
          have t1 : decide ((9223372036854775808 : Int) ≤ (x : Int)) = false := by rw [decide_eq_false_iff_not]; omega
          obtain ⟨d, hd⟩ : ∃ d, 2 * x = d := ⟨_, rfl⟩
          have hm : IntKind.u64.wrap (2 * (x : Int)) = (d : Int) := by rw [IntKind.wrap_u64]; omega
          have hd2 : (d : Int) ≤ 18446744073709551614 := by omega
          rw [hd] at hy
          clear c4 hd
          rcases hy with hy | hy
          all_goals
            have q1 : ((y : Int) == (d : Int)) = true ∨ ((y : Int) == (d : Int)) = false ∧ ((y : Int) == (d : Int) + 1) = true := by
              first
              | (left; rw [beq_iff_eq]; omega)
              | (right; exact ⟨by rw [beq_eq_false_iff_ne]; omega, by rw [beq_iff_eq]; omega⟩)
            clear hy
            rcases q1 with q1 | ⟨q1, q2⟩
            all_goals
              go_enter Try.func5, Try.ntmps5
              go_wp2_with (first | (go_at_call 19; (with_reducible refine (units_lit b x _ 0 s _ rfl hb (by omega) (by omega) HU.out).mono ?_); rintro e w' ⟨rfl, rfl⟩) | (go_at_call 19; (with_reducible refine (units_lit b y _ 0 (s + 1) _ rfl hb (by omega) (by omega) HU2.out).mono ?_); rintro e w' ⟨rfl, rfl⟩) | (go_at_call 18; (with_reducible refine (awake_any _).mono ?_); rintro e w' ⟨rfl, rfl⟩))
              all_goals go_ret
              all_goals exact ⟨rfl, Below.refl _ _⟩
theorem units_from_how (v : Nat) (hv : v < 18446744073709551616) : (unitsN (fromN v) 0).2 = 0 ∨ (unitsN (fromN v) 0).2 = 2 := by
  have hb := from_bd v hv
  have hn : nanB (fromN v) = false := by rw [nan_false _ (by omega)]; omega
  unfold unitsN
  rw [hn]
  simp only [Bool.false_eq_true, if_false]
  split
  · exact .inl rfl
  · rw [if_neg (by omega), if_neg (by omega)]
    split
    · exact .inr rfl
    · exact .inl rfl
set_option maxRecDepth 100000 in
set_option maxHeartbeats 800000 in
theorem floWhole_walk (x0 : Int) (x1 : Int) (w : World) (wf0 : (Lit.int .u64 x0).wf = true) (wf1 : (Lit.int .u64 x1).wf = true) :
    Calls Try.prog 7 #[.int .u64 x0, .int .u64 x1] w fun e w' => e = .returned (.bool true) ∧ Below w.heap.size w w' := by
  obtain ⟨v, rfl, hv⟩ := wf_u64 wf0
  obtain ⟨u, rfl, hu⟩ := wf_u64 wf1
  clear wf0 wf1
  have hfv := from_lt v hv
  have hfu := from_lt u hu
  have h1 := units_from_how v hv
  have h2 := units_from_how u hu
  have h3 : v ≤ 9007199254740992 → unitsN (fromN v) 0 = (v, 0) := from_whole v
  have h4 : v ≤ u → _ := fun h => units_mono (fromN v) (fromN u) (from_mono v u h) (by have := from_bd u hu; omega) 0
  rcases e1 : unitsN (fromN v) 0 with ⟨x, how⟩
  rcases e2 : unitsN (fromN u) 0 with ⟨y, is⟩
  rw [e1] at h1 h3
  rw [e2] at h2
  rw [e1, e2] at h4
  simp only [Prod.mk.injEq] at h1 h2 h3 h4
  have E1 := Lib.hid e1
  have E2 := Lib.hid e2
  clear e1 e2
  have c1 : (v ≤ 9007199254740992 ∧ ((x : Int) != (v : Int)) = false ∧ how = 0) ∨ 9007199254740992 < v := by
    by_cases c : v ≤ 9007199254740992
    · obtain ⟨g1, g2⟩ := h3 c
      exact .inl ⟨c, by rw [g1]; simp, g2⟩
    · exact .inr (by omega)
  have c2 : (v ≤ u ∧ x ≤ y ∧ how ≤ is) ∨ u < v := by
    by_cases c : v ≤ u
    · exact .inl ⟨c, (h4 c).1, (h4 c).2⟩
    · exact .inr (by omega)
  clear h3 h4
  have C1 := Lib.hid c1
  have C2 := Lib.hid c2
  clear c1 c2
  rcases h1 with rfl | rfl <;> rcases h2 with rfl | rfl <;> rcases C1.out with ⟨c1, c3, c4⟩ | c1 <;> rcases C2.out with ⟨c2, c5, c6⟩ | c2
  all_goals first
  | omega
  | (clear C1 C2
     try clear c4
     try clear c6
     go_enter Try.func7, Try.ntmps7
     go_wp2_with (first | (go_at_call 21; (with_reducible refine (from_any _ _ (by assumption)).mono ?_); rintro e w' ⟨rfl, rfl⟩) | (go_at_call 19; (with_reducible refine (units_lit (fromN v) x _ _ 0 _ rfl hfv (by omega) (by omega) E1.out).mono ?_); rintro e w' ⟨rfl, rfl⟩) | (go_at_call 19; (with_reducible refine (units_lit (fromN u) y _ _ 0 _ rfl hfu (by omega) (by omega) E2.out).mono ?_); rintro e w' ⟨rfl, rfl⟩) | (go_at_call 18; (with_reducible refine (awake_any _).mono ?_); rintro e w' ⟨rfl, rfl⟩))
     all_goals go_ret
     all_goals exact ⟨rfl, Below.refl _ _⟩)
theorem and31_i64 (n : Int) (h1 : -9223372036854775808 ≤ n) (h2 : n ≤ 9223372036854775807) : bits .and .i64 n 31 = (((n % 32).toNat : Nat) : Int) := by
  show IntKind.i64.wrap ((BitVec.ofInt 64 n &&& BitVec.ofInt 64 31).toNat : Int) = _
  have e1 : (BitVec.ofInt 64 n &&& BitVec.ofInt 64 31).toNat = (n % 32).toNat := by
    rw [BitVec.toNat_and, BitVec.toNat_ofInt, BitVec.toNat_ofInt, show ((31 : Int) % ((2 ^ 64 : Nat) : Int)).toNat = 2 ^ 5 - 1 by decide, Nat.and_two_pow_sub_one_eq_mod]
    omega
  rw [e1]
  simp [IntKind.wrap, IntKind.bits, IntKind.signed]
  omega
theorem key_lit (w : World) : Calls Try.prog 26 #[.int .u64 9218868437227405312] w fun e w' => e = .returned (.int .u64 18442240474082181120) ∧ w = w' := key_any 9218868437227405312 w (by decide)
set_option maxRecDepth 100000 in
set_option maxHeartbeats 800000 in
theorem floSteps_walk (x0 : Int) (x1 : Int) (w : World) (wf0 : (Lit.int .u64 x0).wf = true) (wf1 : (Lit.int .i64 x1).wf = true) :
    Calls Try.prog 15 #[.int .u64 x0, .int .i64 x1] w fun e w' => e = .returned (.bool true) ∧ Below w.heap.size w w' := by
  obtain ⟨b, rfl, hb⟩ := wf_u64 wf0
  obtain ⟨hx1, hx2⟩ := wf_i64 wf1
  clear wf0 wf1
  have ha := and31_i64 x1 hx1 hx2
  obtain ⟨k, hk⟩ : ∃ k, (x1 % 32).toNat = k := ⟨_, rfl⟩
  rw [hk] at ha
  have hk2 : k ≤ 31 := by omega
  have k4 := kind4 b
  clear hk
  go_enter Try.func15, Try.ntmps15
  go_wp2
  go_loop [6, 7] (fun x i => ∃ j : Nat, j ≤ k ∧ i = .int .i64 (j : Int) ∧ x = .int .u64 (stepsN j b : Int)) (fun _ i => k - (intOf i).toNat)
  case atStart => exact ⟨0, by omega, rfl, rfl⟩
  case round =>
    obtain ⟨j, hj, rfl, rfl⟩ := hrel
    by_cases hjk : j < k
    · go_wp2_with (first | (go_at_call 36; (with_reducible refine (next_any _ _ (by first | assumption | exact key_lt _ (by assumption) | exact of_lt _ (by assumption) | exact next_lt _ (by assumption) | exact mir_lt _ (by assumption) | exact next_lt _ (mir_lt _ (by assumption)) | exact mir_lt _ (next_lt _ (mir_lt _ (by assumption))) | exact steps_lt _ _ (by assumption) | exact from_lt _ (by assumption))).mono ?_); rintro e w' ⟨rfl, rfl⟩))
      go_round
      case rel => exact ⟨j + 1, by omega, by go_num, rfl⟩
      case measure => simp [intOf]; omega
    · obtain rfl : j = k := by omega
      clear hjk hj
      rcases hn : nanB b with _ | _
      · obtain ⟨g1, g2⟩ := steps_key j b hb hn
        have hkb : keyN b ≤ 18442240474082181120 := by
          rw [nan_false b hb] at hn
          unfold keyN
          split <;> omega
        have G1 := Lib.hid g1
        have hkb2 : ((keyN b : Nat) : Int) ≤ 18442240474082181120 := by omega
        by_cases ht : 18442240474082181120 < keyN b + j
        · have t1 : (18442240474082181120 : Int) < ((keyN b : Nat) : Int) + (j : Int) := by omega
          have t2 : keyN (stepsN j b) = 18442240474082181120 := by omega
          clear g1 ht hkb
          go_wp2_with (first | (go_at_call 24; (with_reducible refine (kind_any _ _ hb).mono ?_); rintro e w' ⟨rfl, rfl⟩) | (go_at_call 26; (with_reducible refine (key_any b _ hb).mono ?_); rintro e w' ⟨rfl, rfl⟩) | (go_at_call 26; (with_reducible refine (key_any (stepsN j b) _ (steps_lt _ _ hb)).mono ?_); rintro e w' ⟨rfl, rfl⟩) | (go_at_call 26; (with_reducible refine (key_lit _).mono ?_); rintro e w' ⟨rfl, rfl⟩) | (go_at_call 18; (with_reducible refine (awake_any _).mono ?_); rintro e w' ⟨rfl, rfl⟩))
          all_goals go_ret
          all_goals exact ⟨rfl, Below.refl _ _⟩
        · have t1 : ((keyN b : Nat) : Int) + (j : Int) ≤ 18442240474082181120 := by omega
          have t2 : ((keyN (stepsN j b) : Nat) : Int) = ((keyN b : Nat) : Int) + (j : Int) := by omega
          clear g1 ht hkb
          go_wp2_with (first | (go_at_call 24; (with_reducible refine (kind_any _ _ hb).mono ?_); rintro e w' ⟨rfl, rfl⟩) | (go_at_call 26; (with_reducible refine (key_any b _ hb).mono ?_); rintro e w' ⟨rfl, rfl⟩) | (go_at_call 26; (with_reducible refine (key_any (stepsN j b) _ (steps_lt _ _ hb)).mono ?_); rintro e w' ⟨rfl, rfl⟩) | (go_at_call 26; (with_reducible refine (key_lit _).mono ?_); rintro e w' ⟨rfl, rfl⟩) | (go_at_call 18; (with_reducible refine (awake_any _).mono ?_); rintro e w' ⟨rfl, rfl⟩))
          all_goals go_ret
          all_goals exact ⟨rfl, Below.refl _ _⟩
      · have g1 := steps_nan j b hn
        go_wp2_with (first | (go_at_call 24; (with_reducible refine (kind_any _ _ (by first | assumption | exact key_lt _ (by assumption) | exact of_lt _ (by assumption) | exact next_lt _ (by assumption) | exact mir_lt _ (by assumption) | exact next_lt _ (mir_lt _ (by assumption)) | exact mir_lt _ (next_lt _ (mir_lt _ (by assumption))) | exact steps_lt _ _ (by assumption) | exact from_lt _ (by assumption))).mono ?_); rintro e w' ⟨rfl, rfl⟩) | (go_at_call 18; (with_reducible refine (awake_any _).mono ?_); rintro e w' ⟨rfl, rfl⟩))
        all_goals go_ret
        all_goals exact ⟨rfl, Below.refl _ _⟩
end Go.Proofs.Ytmkobcheemgofaa
