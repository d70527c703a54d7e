/- What the reference's Units computes: the walk. -/
import Derived.Test.YtmkobcheemgofaaFloUnitsW
namespace Go.Proofs.Ytmkobcheemgofaa
set_option linter.unusedVariables false
set_option linter.unusedSimpArgs false
open Go.RowKit
theorem scaled_up (m : Nat) (e : Int) (h : 0 < e) : scaled (2 * m) (e - 1) = scaled m e := by
  unfold scaled
  rw [if_pos (by omega), if_pos (by omega), show e.toNat = (e - 1).toNat + 1 by omega, Nat.pow_succ, Nat.mul_comm 2 m, Nat.mul_assoc, Nat.mul_comm 2]
theorem scaled_down (m : Nat) (e : Int) (h : e < 0) : scaled (m / 2) (e + 1) = scaled m e := by
  have h2 := scaled_shift (m / 2) 1 e
  by_cases h0 : e = -1
  · subst h0
    unfold scaled
    rw [if_pos (by omega), if_neg (by omega)]
    simp
  · unfold scaled
    rw [if_neg (by omega), if_neg (by omega), Nat.div_div_eq_div_mul, Nat.mul_comm 2, ← Nat.pow_succ]
    congr 2
    omega
theorem scaled_most (m : Nat) (e : Int) (h : 0 < e) (hm : 9223372036854775808 ≤ m) : 18446744073709551616 ≤ scaled m e := by
  unfold scaled
  rw [if_pos (by omega), show e.toNat = (e - 1).toNat + 1 by omega, Nat.pow_succ]
  have h1 : 1 ≤ 2 ^ (e - 1).toNat := Nat.two_pow_pos _
  have h2 : m * 2 ≤ m * (2 ^ (e - 1).toNat * 2) := Nat.mul_le_mul_left _ (by omega)
  omega
theorem scaled_le (m : Nat) (e : Int) (h : e ≤ 0) : scaled m e ≤ m := by
  unfold scaled
  split
  · have : e = 0 := by omega
    subst this
    simp
  · exact Nat.div_le_self _ _
theorem scaled_nought (e : Int) : scaled 0 e = 0 := by unfold scaled; split <;> simp
theorem scaled_zero (m : Nat) : scaled m 0 = m := by unfold scaled; simp
/-- what the reference's loops come to -/
def unitsOf (T : Nat) : Nat × Nat := if 18446744073709551616 ≤ T then (18446744073709551615, 2) else (T, 0)
theorem of_most (T m : Nat) (e : Int) (hT : scaled m e = T) (h : 0 < e) (hm : 9223372036854775808 ≤ m) : unitsOf T = (18446744073709551615, 2) := by
  unfold unitsOf
  rw [if_pos (by rw [← hT]; exact scaled_most m e h hm)]
theorem of_fits (T m : Nat) (e : Int) (hT : scaled m e = T) (h : e ≤ 0) (hm : m < 18446744073709551616) : unitsOf T = (T, 0) := by
  unfold unitsOf
  have := scaled_le m e h
  rw [if_neg (by omega)]
theorem of_end (T m : Nat) (e : Int) (hT : scaled m e = T) (h : e = 0 ∨ m = 0) : T = m := by
  rcases h with rfl | rfl
  · rw [← hT, scaled_zero]
  · rw [← hT, scaled_nought]
theorem mul2_wrap (m : Nat) (h : m < 9223372036854775808) : IntKind.u64.wrap ((m : Int) * 2) = ((2 * m : Nat) : Int) := by
  rw [IntKind.wrap_u64]
  omega
set_option maxRecDepth 100000 in
set_option maxHeartbeats 1600000 in
theorem runits_norm (b : Nat) (s : Int) (w : World) (hb : b < 9218868437227405312) (h1 : 4503599627370496 ≤ b) (h2 : -9223372036854775808 ≤ s) (h3 : s ≤ 9223372036854775807) :
    Calls Try.prog 20 #[.int .u64 (b : Int), .int .i64 s] w fun e w' => e = .returned (.tuple #[.int .u64 ((unitsN b s).1 : Int), .int .i64 ((unitsN b s).2 : Int)]) ∧ w = w' := by
  have hb' : b < 18446744073709551616 := by omega
  have hk : kindN b = 1 := by
    unfold kindN expN fracN
    rw [if_neg (by omega), if_pos (by omega)]
  have hs := and_sign_lo (show b < 9223372036854775808 by omega)
  have he := exp_lt b
  have hf := frac_lt b
  have he1 : 1 ≤ expN b := by unfold expN; omega
  obtain ⟨c, hc⟩ : ∃ c, min (max s (-2000)) 2000 = c := ⟨_, rfl⟩
  obtain ⟨E, hE⟩ : ∃ E, (expN b : Int) + (c - 1075) = E := ⟨_, rfl⟩
  obtain ⟨m, hm⟩ : ∃ m, 4503599627370496 + fracN b = m := ⟨_, rfl⟩
  have hm1 : m < 9007199254740992 := by omega
  have hm2 : m ≠ 0 := by omega
  have hv := units_val b m ((expN b : Int) - 1) s c E (by omega) (by omega) hc ⟨by omega, by 
    unfold magN
    rw [if_neg (by omega), ← hm, show b / 4503599627370496 - 1 = ((expN b : Int) - 1).toNat by unfold expN; omega]
    rfl⟩ (by omega)
  obtain ⟨T, hT⟩ : ∃ T, scaled m E = T := ⟨_, rfl⟩
  rw [hT] at hv
  have HV : Hid (unitsN b s = unitsOf T) := hv
  have hT2 : ∀ x, x = E → scaled m x = T := fun x hx => by rw [hx]; exact hT
  have HT := Lib.hid hT2
  have HM2 := Lib.hid hm2
  have HE := Lib.hid hE
  have HC : Hid (s < -2000 ∧ c = -2000 ∨ (-2000 ≤ s ∧ s ≤ 2000) ∧ c = s ∨ 2000 < s ∧ c = 2000) := by
    show _ ∨ _
    omega
  have HM := Lib.hid hm
  have hE1 : -5000 ≤ E ∧ E ≤ 5000 := by omega
  have HE1 := Lib.hid hE1
  have hmz : (((m : Nat) : Int) == 0) = false := by rw [beq_eq_false_iff_ne]; omega
  have hadd : (fracN b : Int) + 4503599627370496 = (m : Int) := by omega
  clear hv hT hT2 hm2 hE hc hE1 hm
  obtain ⟨hE1, hE2⟩ := HE1.out
  rcases HC.out with ⟨c1, c2⟩ | ⟨⟨c1, c3⟩, c2⟩ | ⟨c1, c2⟩
  all_goals
    have HC2 := Lib.hid c2
    clear c2 HC
    go_enter Try.func20, Try.ntmps20
    go_wp2_with (first | (go_at_call 25; (with_reducible refine (rkind_any b _ hb').mono ?_); rintro e w' ⟨rfl, rfl⟩) | (go_at_call 41; (with_reducible refine (rfrac_any b _ hb').mono ?_); rintro e w' ⟨rfl, rfl⟩) | (go_at_call 42; (with_reducible refine (rexp_any b _ hb').mono ?_); rintro e w' ⟨rfl, rfl⟩))
    go_loop [6, 7] (fun a e => ∃ (n : Nat) (k : Int), a = .int .u64 (n : Int) ∧ e = .int .i64 k ∧ n < 18446744073709551616 ∧ -5000 ≤ k ∧ k ≤ 5000 ∧ Hid (scaled n k = T)) (fun _ e => (intOf e).toNat)
    case atStart => exact ⟨m, _, rfl, rfl, by omega, by have := HE.out; have := HC2.out; omega, by have := HE.out; have := HC2.out; omega, HT.out _ (by have := HE.out; have := HC2.out; omega)⟩
    case round =>
      obtain ⟨n, k, rfl, rfl, hn, hk1, hk2, HS⟩ := hrel
      clear HT HC2 HE hmz
      by_cases hk3 : 0 < k
      · by_cases hn2 : 9223372036854775808 ≤ n
        · have HO := Lib.hid (of_most T n k HS.out hk3 hn2)
          have t1 : (9223372036854775808 : Int) ≤ (n : Int) := by omega
          clear hn2 hn
          go_wp2
          go_ret2
          exact ⟨ret_pair (by rw [HV.out, HO.out]; rfl) (by rw [HV.out, HO.out]; rfl), rfl⟩
        · obtain ⟨n2, hn3⟩ : ∃ n2, 2 * n = n2 := ⟨_, rfl⟩
          have hmul := mul2_wrap n (by omega)
          rw [hn3] at hmul
          have HN3 := Lib.hid hn3
          clear hn3
          have t1 : decide ((9223372036854775808 : Int) ≤ (n : Int)) = false := by rw [decide_eq_false_iff_not]; omega
          have HN2 := Lib.hid hn2
          clear hn2 hn
          go_wp2
          go_round
          case rel => exact ⟨n2, k - 1, rfl, rfl, by have := HN2.out; have := HN3.out; omega, by omega, by omega, (show scaled n2 (k - 1) = T by rw [← HN3.out, scaled_up n k hk3]; exact HS.out)⟩
          case measure => simp [intOf]; omega
      · have HO := Lib.hid (of_fits T n k HS.out (by omega) hn)
        go_wp2
        go_loop [6, 7] (fun a e => ∃ (n : Nat) (k : Int), a = .int .u64 (n : Int) ∧ e = .int .i64 k ∧ n < 18446744073709551616 ∧ -5000 ≤ k ∧ k ≤ 0 ∧ Hid (scaled n k = T)) (fun _ e => (-(intOf e)).toNat)
        case atStart => exact ⟨n, k, rfl, rfl, hn, hk1, by omega, HS⟩
        case round =>
          clear HS hk1 hk2 hk3 hn
          obtain ⟨n, k, rfl, rfl, hn, hk1, hk2, HS⟩ := hrel
          by_cases hk4 : k < 0
          · by_cases hn0 : 0 < n
            · go_wp2
              go_round
              case rel => exact ⟨n / 2, k + 1, by go_num, rfl, by omega, by omega, by omega, (show scaled (n / 2) (k + 1) = T by rw [scaled_down n k hk4]; exact HS.out)⟩
              case measure => simp [intOf]; omega
            · have HQ := Lib.hid (of_end T n k HS.out (.inr (by omega)))
              go_wp2
              go_ret2
              exact ⟨ret_pair (by rw [HV.out, HO.out]; show _ = ((T : Nat) : Int); rw [HQ.out]) (by rw [HV.out, HO.out]; rfl), rfl⟩
          · have HQ := Lib.hid (of_end T n k HS.out (.inl (by omega)))
            go_wp2
            go_ret2
            exact ⟨ret_pair (by rw [HV.out, HO.out]; show _ = ((T : Nat) : Int); rw [HQ.out]) (by rw [HV.out, HO.out]; rfl), rfl⟩
set_option maxRecDepth 100000 in
set_option maxHeartbeats 1600000 in
theorem runits_tiny (b : Nat) (s : Int) (w : World) (hb : b < 4503599627370496) (h1 : b ≠ 0) (h2 : -9223372036854775808 ≤ s) (h3 : s ≤ 9223372036854775807) :
    Calls Try.prog 20 #[.int .u64 (b : Int), .int .i64 s] w fun e w' => e = .returned (.tuple #[.int .u64 ((unitsN b s).1 : Int), .int .i64 ((unitsN b s).2 : Int)]) ∧ w = w' := by
  have hb' : b < 18446744073709551616 := by omega
  have hk : kindN b = 2 := by
    unfold kindN expN fracN
    rw [if_neg (by omega), if_neg (by omega), if_pos (by omega)]
  have hs := and_sign_lo (show b < 9223372036854775808 by omega)
  have he := exp_lt b
  have hf := frac_lt b
  have he1 : expN b = 0 := by unfold expN; omega
  obtain ⟨c, hc⟩ : ∃ c, min (max s (-2000)) 2000 = c := ⟨_, rfl⟩
  obtain ⟨E, hE⟩ : ∃ E, (1 : Int) + (c - 1075) = E := ⟨_, rfl⟩
  obtain ⟨m, hm⟩ : ∃ m, fracN b = m := ⟨_, rfl⟩
  have hm1 : m < 9007199254740992 := by omega
  have hm2 : m ≠ 0 := by unfold fracN at hm; omega
  have hv := units_val b m ((1 : Int) - 1) s c E (by omega) (by omega) hc ⟨by omega, by 
    unfold magN
    rw [if_pos hb, ← hm]
    unfold fracN
    simp
    omega⟩ (by omega)
  obtain ⟨T, hT⟩ : ∃ T, scaled m E = T := ⟨_, rfl⟩
  rw [hT] at hv
  have HV : Hid (unitsN b s = unitsOf T) := hv
  have hT2 : ∀ x, x = E → scaled m x = T := fun x hx => by rw [hx]; exact hT
  have HT := Lib.hid hT2
  have HM2 := Lib.hid hm2
  have HE := Lib.hid hE
  have HC : Hid (s < -2000 ∧ c = -2000 ∨ (-2000 ≤ s ∧ s ≤ 2000) ∧ c = s ∨ 2000 < s ∧ c = 2000) := by
    show _ ∨ _
    omega
  have HM := Lib.hid hm
  have hE1 : -5000 ≤ E ∧ E ≤ 5000 := by omega
  have HE1 := Lib.hid hE1
  have hmz : (((m : Nat) : Int) == 0) = false := by rw [beq_eq_false_iff_ne]; omega
  
  clear hv hT hT2 hm2 hE hc hE1 h1
  obtain ⟨hE1, hE2⟩ := HE1.out
  rcases HC.out with ⟨c1, c2⟩ | ⟨⟨c1, c3⟩, c2⟩ | ⟨c1, c2⟩
  all_goals
    have HC2 := Lib.hid c2
    clear c2 HC
    go_enter Try.func20, Try.ntmps20
    go_wp2_with (first | (go_at_call 25; (with_reducible refine (rkind_any b _ hb').mono ?_); rintro e w' ⟨rfl, rfl⟩) | (go_at_call 41; (with_reducible refine (rfrac_any b _ hb').mono ?_); rintro e w' ⟨rfl, rfl⟩) | (go_at_call 42; (with_reducible refine (rexp_any b _ hb').mono ?_); rintro e w' ⟨rfl, rfl⟩))
    go_loop [6, 7] (fun a e => ∃ (n : Nat) (k : Int), a = .int .u64 (n : Int) ∧ e = .int .i64 k ∧ n < 18446744073709551616 ∧ -5000 ≤ k ∧ k ≤ 5000 ∧ Hid (scaled n k = T)) (fun _ e => (intOf e).toNat)
    case atStart => exact ⟨m, _, rfl, rfl, by omega, by have := HE.out; have := HC2.out; omega, by have := HE.out; have := HC2.out; omega, HT.out _ (by have := HE.out; have := HC2.out; omega)⟩
    case round =>
      obtain ⟨n, k, rfl, rfl, hn, hk1, hk2, HS⟩ := hrel
      clear HT HC2 HE hmz
      by_cases hk3 : 0 < k
      · by_cases hn2 : 9223372036854775808 ≤ n
        · have HO := Lib.hid (of_most T n k HS.out hk3 hn2)
          have t1 : (9223372036854775808 : Int) ≤ (n : Int) := by omega
          clear hn2 hn
          go_wp2
          go_ret2
          exact ⟨ret_pair (by rw [HV.out, HO.out]; rfl) (by rw [HV.out, HO.out]; rfl), rfl⟩
        · obtain ⟨n2, hn3⟩ : ∃ n2, 2 * n = n2 := ⟨_, rfl⟩
          have hmul := mul2_wrap n (by omega)
          rw [hn3] at hmul
          have HN3 := Lib.hid hn3
          clear hn3
          have t1 : decide ((9223372036854775808 : Int) ≤ (n : Int)) = false := by rw [decide_eq_false_iff_not]; omega
          have HN2 := Lib.hid hn2
          clear hn2 hn
          go_wp2
          go_round
          case rel => exact ⟨n2, k - 1, rfl, rfl, by have := HN2.out; have := HN3.out; omega, by omega, by omega, (show scaled n2 (k - 1) = T by rw [← HN3.out, scaled_up n k hk3]; exact HS.out)⟩
          case measure => simp [intOf]; omega
      · have HO := Lib.hid (of_fits T n k HS.out (by omega) hn)
        go_wp2
        go_loop [6, 7] (fun a e => ∃ (n : Nat) (k : Int), a = .int .u64 (n : Int) ∧ e = .int .i64 k ∧ n < 18446744073709551616 ∧ -5000 ≤ k ∧ k ≤ 0 ∧ Hid (scaled n k = T)) (fun _ e => (-(intOf e)).toNat)
        case atStart => exact ⟨n, k, rfl, rfl, hn, hk1, by omega, HS⟩
        case round =>
          clear HS hk1 hk2 hk3 hn
          obtain ⟨n, k, rfl, rfl, hn, hk1, hk2, HS⟩ := hrel
          by_cases hk4 : k < 0
          · by_cases hn0 : 0 < n
            · go_wp2
              go_round
              case rel => exact ⟨n / 2, k + 1, by go_num, rfl, by omega, by omega, by omega, (show scaled (n / 2) (k + 1) = T by rw [scaled_down n k hk4]; exact HS.out)⟩
              case measure => simp [intOf]; omega
            · have HQ := Lib.hid (of_end T n k HS.out (.inr (by omega)))
              go_wp2
              go_ret2
              exact ⟨ret_pair (by rw [HV.out, HO.out]; show _ = ((T : Nat) : Int); rw [HQ.out]) (by rw [HV.out, HO.out]; rfl), rfl⟩
          · have HQ := Lib.hid (of_end T n k HS.out (.inl (by omega)))
            go_wp2
            go_ret2
            exact ⟨ret_pair (by rw [HV.out, HO.out]; show _ = ((T : Nat) : Int); rw [HQ.out]) (by rw [HV.out, HO.out]; rfl), rfl⟩
theorem runits_any (b : Nat) (s : Int) (w : World) (hb' : b < 18446744073709551616) (h2 : -9223372036854775808 ≤ s) (h3 : s ≤ 9223372036854775807) :
    Calls Try.prog 20 #[.int .u64 (b : Int), .int .i64 s] w fun e w' => e = .returned (.tuple #[.int .u64 ((unitsN b s).1 : Int), .int .i64 ((unitsN b s).2 : Int)]) ∧ w = w' := by
  rcases hn : nanB b with _ | _
  · rw [nan_false b hb'] at hn
    by_cases hz : b = 0 ∨ b = 9223372036854775808
    · have HV : Hid (unitsN b s = (0, 0)) := by
        show _ = _
        unfold unitsN
        rw [if_neg (by rw [nan_bound b hb']; omega), if_pos hz]
      clear hn
      have hk : kindN b = 0 := by rcases hz with rfl | rfl <;> decide
      have he : expN b = 0 := by rcases hz with rfl | rfl <;> decide
      have hf : fracN b = 0 := by rcases hz with rfl | rfl <;> decide
      have hq : bits .and .u64 (b : Int) 9223372036854775808 = 0 ∨ bits .and .u64 (b : Int) 9223372036854775808 = 9223372036854775808 ∧ ((b : Int) != 9223372036854775808) = false := by
        rcases hz with rfl | rfl
        · exact .inl (and_sign_lo (by omega))
        · exact .inr ⟨and_sign_hi (by omega) (by omega), by decide⟩
      clear hz
      rcases hq with hq | ⟨hq, hq2⟩
      all_goals
        go_enter Try.func20, Try.ntmps20
        go_wp2_with (first | (go_at_call 25; (with_reducible refine (rkind_any b _ hb').mono ?_); rintro e w' ⟨rfl, rfl⟩) | (go_at_call 41; (with_reducible refine (rfrac_any b _ hb').mono ?_); rintro e w' ⟨rfl, rfl⟩) | (go_at_call 42; (with_reducible refine (rexp_any b _ hb').mono ?_); rintro e w' ⟨rfl, rfl⟩))
        all_goals go_ret2
        all_goals exact ⟨ret_pair (by rw [HV.out]; rfl) (by rw [HV.out]; rfl), rfl⟩
    · by_cases hs : 9223372036854775808 ≤ b
      · have hss := and_sign_hi hb' hs
        have hk4 : ((kindN b : Nat) : Int) = 4 → False := by
          intro h
          have := (kind_nan_iff b).1 (by omega)
          rw [nan_bound b hb'] at this
          omega
        have e4 : (((kindN b : Nat) : Int) == 4) = false := by rw [beq_eq_false_iff_ne]; exact hk4
        have HV : Hid (unitsN b s = (0, 1)) := by
          show _ = _
          unfold unitsN
          rw [if_neg (by rw [nan_bound b hb']; omega), if_neg hz, if_pos hs]
        have en : ((b : Int) != 9223372036854775808) = true := by rw [bne_iff_ne]; omega
        clear hk4 hz hn
        go_enter Try.func20, Try.ntmps20
        go_wp2_with (first | (go_at_call 25; (with_reducible refine (rkind_any b _ hb').mono ?_); rintro e w' ⟨rfl, rfl⟩) | (go_at_call 41; (with_reducible refine (rfrac_any b _ hb').mono ?_); rintro e w' ⟨rfl, rfl⟩) | (go_at_call 42; (with_reducible refine (rexp_any b _ hb').mono ?_); rintro e w' ⟨rfl, rfl⟩))
        all_goals go_ret2
        all_goals exact ⟨ret_pair (by rw [HV.out]; rfl) (by rw [HV.out]; rfl), rfl⟩
      · by_cases hi : b = 9218868437227405312
        · have hss := and_sign_lo (show b < 9223372036854775808 by omega)
          have hk : kindN b = 3 := by subst hi; decide
          have HV : Hid (unitsN b s = (18446744073709551615, 2)) := by
            show _ = _
            unfold unitsN
            rw [if_neg (by rw [nan_bound b hb']; omega), if_neg hz, if_neg hs, if_pos (by omega)]
          have HI := Lib.hid hi
          clear hi hz hn hs
          go_enter Try.func20, Try.ntmps20
          go_wp2_with (first | (go_at_call 25; (with_reducible refine (rkind_any b _ hb').mono ?_); rintro e w' ⟨rfl, rfl⟩) | (go_at_call 41; (with_reducible refine (rfrac_any b _ hb').mono ?_); rintro e w' ⟨rfl, rfl⟩) | (go_at_call 42; (with_reducible refine (rexp_any b _ hb').mono ?_); rintro e w' ⟨rfl, rfl⟩))
          all_goals go_ret2
          all_goals exact ⟨ret_pair (by rw [HV.out]; rfl) (by rw [HV.out]; rfl), rfl⟩
        · by_cases ht : b < 4503599627370496
          · exact runits_tiny b s w ht (by omega) h2 h3
          · exact runits_norm b s w (by omega) (by omega) h2 h3
  · have hk : kindN b = 4 := (kind_nan_iff b).2 hn
    have HV : Hid (unitsN b s = (0, 3)) := by
      show _ = _
      unfold unitsN
      rw [if_pos hn]
    go_enter Try.func20, Try.ntmps20
    go_wp2_with (first | (go_at_call 25; (with_reducible refine (rkind_any b _ hb').mono ?_); rintro e w' ⟨rfl, rfl⟩) | (go_at_call 41; (with_reducible refine (rfrac_any b _ hb').mono ?_); rintro e w' ⟨rfl, rfl⟩) | (go_at_call 42; (with_reducible refine (rexp_any b _ hb').mono ?_); rintro e w' ⟨rfl, rfl⟩))
    all_goals go_ret2
    all_goals exact ⟨ret_pair (by rw [HV.out]; rfl) (by rw [HV.out]; rfl), rfl⟩
end Go.Proofs.Ytmkobcheemgofaa
