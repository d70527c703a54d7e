/- What flo.Units computes: the walk. -/
import Derived.Test.YtmkobcheemgofaaFloLen
import Derived.Test.YtmkobcheemgofaaFloWalk
namespace Go.Proofs.Ytmkobcheemgofaa
set_option linter.unusedVariables false
set_option linter.unusedSimpArgs false
open Go.RowKit
theorem scaled_shift (m k : Nat) (f : Int) : scaled (m * 2 ^ k) f = scaled m (k + f) := by
  unfold scaled
  by_cases h : 0 ≤ f
  · rw [if_pos h, if_pos (by omega), Nat.mul_assoc, ← Nat.pow_add, show k + f.toNat = ((k : Int) + f).toNat by omega]
  · rw [if_neg h]
    by_cases h2 : 0 ≤ (k : Int) + f
    · rw [if_pos h2]
      have e : m * 2 ^ k = m * 2 ^ ((k : Int) + f).toNat * 2 ^ (-f).toNat := by rw [Nat.mul_assoc, ← Nat.pow_add]; congr 2; omega
      rw [e, Nat.mul_div_cancel _ (Nat.two_pow_pos _)]
    · rw [if_neg h2]
      have e : (2 : Nat) ^ (-f).toNat = 2 ^ k * 2 ^ (-((k : Int) + f)).toNat := by rw [← Nat.pow_add]; congr 1; omega
      rw [e, Nat.mul_comm m, Nat.mul_div_mul_left _ _ (Nat.two_pow_pos _)]
/-- what the program reckons with -/
theorem units_val (b m : Nat) (k : Int) (s c E : Int) (hb : b < 9218868437227405312) (h0 : b ≠ 0) (hc : min (max s (-2000)) 2000 = c)
    (hm : 0 ≤ k ∧ magN b = m * 2 ^ k.toNat) (hE : k + 1 + (c - 1075) = E) : unitsN b s = if 18446744073709551616 ≤ scaled m E then (18446744073709551615, 2) else (scaled m E, 0) := by
  have hn : nanB b = false := by rw [nan_false b (by omega)]; omega
  have e : scaled (magN b) (clampI s - 1074) = scaled m E := by
    rw [hm.2, scaled_shift]
    congr 1
    unfold clampI
    omega
  unfold unitsN
  rw [e, hn]
  simp only [Bool.false_eq_true, if_false]
  rw [if_neg (by omega), if_neg (by omega), if_neg (by omega)]
theorem units_low (m : Nat) (E : Int) (hm : m < 9007199254740992) (hE : E ≤ 0) : (if 18446744073709551616 ≤ scaled m E then (18446744073709551615, 2) else (scaled m E, 0)) = (m / 2 ^ (min (-E) 64).toNat, 0) := by
  have e : scaled m E = m / 2 ^ (min (-E) 64).toNat := by
    unfold scaled
    by_cases h0 : E = 0
    · subst h0; simp; rw [show (min (0 : Int) 64).toNat = 0 by decide]; simp
    · rw [if_neg (by omega)]
      by_cases h : -E ≤ 64
      · rw [show min (-E) 64 = -E by omega]
      · rw [show (min (-E) 64).toNat = 64 by omega, Nat.div_eq_of_lt (by omega : m < 2 ^ 64)]
        apply Nat.div_eq_of_lt
        have : 2 ^ 64 ≤ 2 ^ (-E).toNat := Nat.pow_le_pow_right (by decide) (by omega)
        omega
  rw [e, if_neg]
  have := Nat.div_le_self m (2 ^ (min (-E) 64).toNat)
  omega
theorem units_high (m : Nat) (E : Int) (hm : m < 9007199254740992) (h0 : m ≠ 0) (hE : 0 < E) (h : 64 < Lib.bitLen m + E.toNat) : (if 18446744073709551616 ≤ scaled m E then (18446744073709551615, 2) else (scaled m E, 0)) = (18446744073709551615, 2) := by
  rw [if_pos]
  unfold scaled
  rw [if_pos (by omega)]
  exact (len_fits m E.toNat (by omega) h0).1 h
theorem units_mid (m : Nat) (E : Int) (hm : m < 9007199254740992) (h0 : m ≠ 0) (hE : 0 < E) (h : ¬ 64 < Lib.bitLen m + E.toNat) : (if 18446744073709551616 ≤ scaled m E then (18446744073709551615, 2) else (scaled m E, 0)) = (m * 2 ^ E.toNat, 0) ∧ m * 2 ^ E.toNat < 18446744073709551616 := by
  have h2 : ¬ 18446744073709551616 ≤ m * 2 ^ E.toNat := fun h' => h ((len_fits m E.toNat (by omega) h0).2 h')
  have e : scaled m E = m * 2 ^ E.toNat := by unfold scaled; rw [if_pos (by omega)]
  rw [e, if_neg h2]
  exact ⟨rfl, by omega⟩
theorem or_unit (b : Nat) : bits .or .u64 (fracN b : Int) 4503599627370496 = ((4503599627370496 + fracN b : Nat) : Int) := by
  have hf := frac_lt b
  have e := u64_or_nat (fracN b) 4503599627370496 (by omega) (by decide)
  rw [Nat.or_comm, nat_join 52 _ _ (by decide) (by omega)] at e
  rw [show (4503599627370496 : Int) = ((4503599627370496 : Nat) : Int) from rfl, e]
theorem bitLen_le (x : Nat) (h : x < 18446744073709551616) : Lib.bitLen x ≤ 64 := by
  by_cases h0 : x = 0
  · subst h0; decide
  · rw [bitLen_log x h h0]
    have := log2_lt64 x h
    omega
theorem ret_pair {a b : Int} {x : Nat × Nat} (ha : a = (x.1 : Int)) (hb : b = (x.2 : Int)) : Ending.returned (.tuple #[.int .u64 a, .int .i64 b]) = .returned (.tuple #[.int .u64 (x.1 : Int), .int .i64 (x.2 : Int)]) := by rw [ha, hb]
set_option maxHeartbeats 400000 in
theorem units_norm (b : Nat) (s : Int) (w : World) (hb : b < 9218868437227405312) (h1 : 4503599627370496 ≤ b) (h2 : -9223372036854775808 ≤ s) (h3 : s ≤ 9223372036854775807) :
    Calls Try.prog 19 #[.int .u64 (b : Int), .int .i64 s] w fun e w' => e = .returned (.tuple #[.int .u64 ((unitsN b s).1 : Int), .int .i64 ((unitsN b s).2 : Int)]) ∧ w = w' := by
  have hb' : b < 18446744073709551616 := by omega
  have hk : kindN b = 1 := by
    unfold kindN expN fracN
    rw [if_neg (by omega), if_pos (by omega)]
  have hs := and_sign_lo (show b < 9223372036854775808 by omega)
  have he := exp_lt b
  have hf := frac_lt b
  have he1 : 1 ≤ expN b := by unfold expN; omega
  obtain ⟨c, hc⟩ : ∃ c, min (max s (-2000)) 2000 = c := ⟨_, rfl⟩
  have hc1 : -2000 ≤ c := by omega
  have hc2 : c ≤ 2000 := by omega
  obtain ⟨E, hE⟩ : ∃ E, (expN b : Int) + (c - 1075) = E := ⟨_, rfl⟩
  obtain ⟨m, hm⟩ : ∃ m, 4503599627370496 + fracN b = m := ⟨_, rfl⟩
  have hor := or_unit b
  rw [hm] at hor
  have hm1 : m < 9007199254740992 := by omega
  have hm2 : m ≠ 0 := by omega
  have hv := units_val b m ((expN b : Int) - 1) s c E (by omega) (by omega) hc ⟨by omega, by 
    unfold magN
    rw [if_neg (by omega), ← hm, show b / 4503599627370496 - 1 = ((expN b : Int) - 1).toNat by unfold expN; omega]
    rfl⟩ (by omega)
  have HV := Lib.hid hv
  have HM2 := Lib.hid hm2
  have hE1 : E ≤ 5000 := by omega
  have hE2 : -5000 ≤ E := by omega
  clear hv hm2 hm
  by_cases hle : E ≤ 0
  · have HL := Lib.hid (units_low m E hm1 hle)
    obtain ⟨q, hq⟩ : ∃ q : Nat, (min (-E) 64).toNat = q := ⟨_, rfl⟩
    go_enter Try.func19, Try.ntmps19
    go_wp2_with (first | (go_at_call 24; (with_reducible refine (kind_any b _ hb').mono ?_); rintro e w' ⟨rfl, rfl⟩) | (go_at_call 39; (with_reducible refine (parts_any b _ hb').mono ?_); rintro e w' ⟨rfl, rfl⟩))
    all_goals go_ret2
    all_goals exact ⟨ret_pair (by rw [HV.out, HL.out, hq]; simp) (by rw [HV.out, HL.out]; rfl), rfl⟩
  · have hle' : 0 < E := by omega
    have hbl := bitLen_le m (by omega)
    by_cases hbig : 64 < Lib.bitLen m + E.toNat
    · have HL := Lib.hid (units_high m E hm1 HM2.out (by omega) hbig)
      have hb1 : (64 : Int) < (Lib.bitLen m : Int) + E := by omega
      clear hbig hle
      go_enter Try.func19, Try.ntmps19
      go_wp2_with (first | (go_at_call 24; (with_reducible refine (kind_any b _ hb').mono ?_); rintro e w' ⟨rfl, rfl⟩) | (go_at_call 39; (with_reducible refine (parts_any b _ hb').mono ?_); rintro e w' ⟨rfl, rfl⟩) | (go_at_call 40; (with_reducible refine (len64_any m _ (by omega)).mono ?_); rintro e w' ⟨rfl, rfl⟩))
      all_goals go_ret2
      all_goals exact ⟨ret_pair (by rw [HV.out, HL.out]; rfl) (by rw [HV.out, HL.out]; rfl), rfl⟩
    · obtain ⟨hl, hlt⟩ := units_mid m E hm1 HM2.out (by omega) hbig
      have HL := Lib.hid hl
      have hb1 : (Lib.bitLen m : Int) + E ≤ 64 := by omega
      obtain ⟨q, hq⟩ : ∃ q : Nat, E.toNat = q := ⟨_, rfl⟩
      obtain rfl : E = (q : Int) := by omega
      obtain ⟨r, hr⟩ : ∃ r : Nat, m * 2 ^ q = r := ⟨_, rfl⟩
      have hsh : IntKind.u64.wrap ((m : Int) * 2 ^ q) = (r : Int) := by
        rw [← hr, IntKind.wrap_u64]
        have e : ((m * 2 ^ q : Nat) : Int) = (m : Int) * 2 ^ q := by simp
        rw [← e]
        rw [hq] at hlt
        omega
      have HR := Lib.hid hr
      clear hbig hle hl hlt hq hr
      go_enter Try.func19, Try.ntmps19
      go_wp2_with (first | (go_at_call 24; (with_reducible refine (kind_any b _ hb').mono ?_); rintro e w' ⟨rfl, rfl⟩) | (go_at_call 39; (with_reducible refine (parts_any b _ hb').mono ?_); rintro e w' ⟨rfl, rfl⟩) | (go_at_call 40; (with_reducible refine (len64_any m _ (by omega)).mono ?_); rintro e w' ⟨rfl, rfl⟩))
      all_goals go_ret2
      all_goals exact ⟨ret_pair (by rw [HV.out, HL.out, ← HR.out]; rfl) (by rw [HV.out, HL.out]; rfl), rfl⟩
set_option maxHeartbeats 400000 in
theorem units_tiny (b : Nat) (s : Int) (w : World) (hb : b < 4503599627370496) (h1 : b ≠ 0) (h2 : -9223372036854775808 ≤ s) (h3 : s ≤ 9223372036854775807) :
    Calls Try.prog 19 #[.int .u64 (b : Int), .int .i64 s] w fun e w' => e = .returned (.tuple #[.int .u64 ((unitsN b s).1 : Int), .int .i64 ((unitsN b s).2 : Int)]) ∧ w = w' := by
  have hb' : b < 18446744073709551616 := by omega
  have hk : kindN b = 2 := by
    unfold kindN expN fracN
    rw [if_neg (by omega), if_neg (by omega), if_pos (by omega)]
  have hs := and_sign_lo (show b < 9223372036854775808 by omega)
  have he := exp_lt b
  have hf := frac_lt b
  have he1 : expN b = 0 := by unfold expN; omega
  obtain ⟨c, hc⟩ : ∃ c, min (max s (-2000)) 2000 = c := ⟨_, rfl⟩
  have hc1 : -2000 ≤ c := by omega
  have hc2 : c ≤ 2000 := by omega
  obtain ⟨E, hE⟩ : ∃ E, (1 : Int) + (c - 1075) = E := ⟨_, rfl⟩
  obtain ⟨m, hm⟩ : ∃ m, fracN b = m := ⟨_, rfl⟩
  have hor := hm
  have hm1 : m < 9007199254740992 := by omega
  have hm2 : m ≠ 0 := by unfold fracN at hm; omega
  have hv := units_val b m ((1 : Int) - 1) s c E (by omega) (by omega) hc ⟨by omega, by 
    unfold magN
    rw [if_pos hb, ← hm]
    unfold fracN
    simp
    omega⟩ (by omega)
  have HV := Lib.hid hv
  have HM2 := Lib.hid hm2
  have hE1 : E ≤ 5000 := by omega
  have hE2 : -5000 ≤ E := by omega
  have HE1 := Lib.hid he1
  clear he1 h1 hv hm2 hor
  by_cases hle : E ≤ 0
  · have HL := Lib.hid (units_low m E hm1 hle)
    obtain ⟨q, hq⟩ : ∃ q : Nat, (min (-E) 64).toNat = q := ⟨_, rfl⟩
    go_enter Try.func19, Try.ntmps19
    go_wp2_with (first | (go_at_call 24; (with_reducible refine (kind_any b _ hb').mono ?_); rintro e w' ⟨rfl, rfl⟩) | (go_at_call 39; (with_reducible refine (parts_any b _ hb').mono ?_); rintro e w' ⟨rfl, rfl⟩))
    all_goals go_ret2
    all_goals exact ⟨ret_pair (by rw [HV.out, HL.out, hq]; simp) (by rw [HV.out, HL.out]; rfl), rfl⟩
  · have hle' : 0 < E := by omega
    have hbl := bitLen_le m (by omega)
    by_cases hbig : 64 < Lib.bitLen m + E.toNat
    · have HL := Lib.hid (units_high m E hm1 HM2.out (by omega) hbig)
      have hb1 : (64 : Int) < (Lib.bitLen m : Int) + E := by omega
      clear hbig hle
      go_enter Try.func19, Try.ntmps19
      go_wp2_with (first | (go_at_call 24; (with_reducible refine (kind_any b _ hb').mono ?_); rintro e w' ⟨rfl, rfl⟩) | (go_at_call 39; (with_reducible refine (parts_any b _ hb').mono ?_); rintro e w' ⟨rfl, rfl⟩) | (go_at_call 40; (with_reducible refine (len64_any m _ (by omega)).mono ?_); rintro e w' ⟨rfl, rfl⟩))
      all_goals go_ret2
      all_goals exact ⟨ret_pair (by rw [HV.out, HL.out]; rfl) (by rw [HV.out, HL.out]; rfl), rfl⟩
    · obtain ⟨hl, hlt⟩ := units_mid m E hm1 HM2.out (by omega) hbig
      have HL := Lib.hid hl
      have hb1 : (Lib.bitLen m : Int) + E ≤ 64 := by omega
      obtain ⟨q, hq⟩ : ∃ q : Nat, E.toNat = q := ⟨_, rfl⟩
      obtain rfl : E = (q : Int) := by omega
      obtain ⟨r, hr⟩ : ∃ r : Nat, m * 2 ^ q = r := ⟨_, rfl⟩
      have hsh : IntKind.u64.wrap ((m : Int) * 2 ^ q) = (r : Int) := by
        rw [← hr, IntKind.wrap_u64]
        have e : ((m * 2 ^ q : Nat) : Int) = (m : Int) * 2 ^ q := by simp
        rw [← e]
        rw [hq] at hlt
        omega
      have HR := Lib.hid hr
      clear hbig hle hl hlt hq hr
      go_enter Try.func19, Try.ntmps19
      go_wp2_with (first | (go_at_call 24; (with_reducible refine (kind_any b _ hb').mono ?_); rintro e w' ⟨rfl, rfl⟩) | (go_at_call 39; (with_reducible refine (parts_any b _ hb').mono ?_); rintro e w' ⟨rfl, rfl⟩) | (go_at_call 40; (with_reducible refine (len64_any m _ (by omega)).mono ?_); rintro e w' ⟨rfl, rfl⟩))
      all_goals go_ret2
      all_goals exact ⟨ret_pair (by rw [HV.out, HL.out, ← HR.out]; rfl) (by rw [HV.out, HL.out]; rfl), rfl⟩
theorem units_any (b : Nat) (s : Int) (w : World) (hb : b < 18446744073709551616) (h2 : -9223372036854775808 ≤ s) (h3 : s ≤ 9223372036854775807) :
    Calls Try.prog 19 #[.int .u64 (b : Int), .int .i64 s] w fun e w' => e = .returned (.tuple #[.int .u64 ((unitsN b s).1 : Int), .int .i64 ((unitsN b s).2 : Int)]) ∧ w = w' := by
  rcases hn : nanB b with _ | _
  · by_cases hz : b = 0 ∨ b = 9223372036854775808
    · have hk : kindN b = 0 := by rcases hz with rfl | rfl <;> decide
      have HV : Hid (unitsN b s = (0, 0)) := by
        show _ = _
        unfold unitsN
        rw [hn, if_neg (by simp), if_pos hz]
      clear hz
      go_enter Try.func19, Try.ntmps19
      go_wp2_with (first | (go_at_call 24; (with_reducible refine (kind_any b _ hb).mono ?_); rintro e w' ⟨rfl, rfl⟩) | (go_at_call 39; (with_reducible refine (parts_any b _ hb).mono ?_); rintro e w' ⟨rfl, rfl⟩))
      all_goals go_ret2
      all_goals exact ⟨ret_pair (by rw [HV.out]; rfl) (by rw [HV.out]; rfl), rfl⟩
    · rw [nan_false b hb] at hn
      by_cases hs : 9223372036854775808 ≤ b
      · have hss := and_sign_hi hb hs
        have hk4 : ((kindN b : Nat) : Int) = 4 → False := by
          intro h
          have := (kind_nan_iff b).1 (by omega)
          rw [nan_bound b hb] at this
          omega
        have hk0 : ((kindN b : Nat) : Int) = 0 → False := by
          intro h
          have : kindN b = 0 := by omega
          unfold kindN expN fracN at this
          split at this
          · split at this <;> omega
          · split at this
            · omega
            · split at this <;> omega
        have e4 : (((kindN b : Nat) : Int) == 4) = false := by rw [beq_eq_false_iff_ne]; exact hk4
        have e0 : (((kindN b : Nat) : Int) == 0) = false := by rw [beq_eq_false_iff_ne]; exact hk0
        have HV : Hid (unitsN b s = (0, 1)) := by
          show _ = _
          unfold unitsN
          rw [if_neg (by rw [nan_bound b hb]; omega), if_neg hz, if_pos hs]
        clear hk4 hk0 hz hn
        go_enter Try.func19, Try.ntmps19
        go_wp2_with (first | (go_at_call 24; (with_reducible refine (kind_any b _ hb).mono ?_); rintro e w' ⟨rfl, rfl⟩) | (go_at_call 39; (with_reducible refine (parts_any b _ hb).mono ?_); rintro e w' ⟨rfl, rfl⟩))
        all_goals go_ret2
        all_goals exact ⟨ret_pair (by rw [HV.out]; rfl) (by rw [HV.out]; rfl), rfl⟩
      · by_cases hi : b = 9218868437227405312
        · have hss := and_sign_lo (show b < 9223372036854775808 by omega)
          have hk : kindN b = 3 := by subst hi; decide
          have HV : Hid (unitsN b s = (18446744073709551615, 2)) := by
            show _ = _
            unfold unitsN
            rw [if_neg (by rw [nan_bound b hb]; omega), if_neg hz, if_neg hs, if_pos (by omega)]
          have HI := Lib.hid hi
          clear hi hz hn hs
          go_enter Try.func19, Try.ntmps19
          go_wp2_with (first | (go_at_call 24; (with_reducible refine (kind_any b _ hb).mono ?_); rintro e w' ⟨rfl, rfl⟩) | (go_at_call 39; (with_reducible refine (parts_any b _ hb).mono ?_); rintro e w' ⟨rfl, rfl⟩))
          all_goals go_ret2
          all_goals exact ⟨ret_pair (by rw [HV.out]; rfl) (by rw [HV.out]; rfl), rfl⟩
        · by_cases ht : b < 4503599627370496
          · exact units_tiny b s w ht (by omega) h2 h3
          · exact units_norm b s w (by omega) (by omega) h2 h3
  · have hk : kindN b = 4 := (kind_nan_iff b).2 hn
    have HV : Hid (unitsN b s = (0, 3)) := by
      show _ = _
      unfold unitsN
      rw [if_pos hn]
    go_enter Try.func19, Try.ntmps19
    go_wp2_with (first | (go_at_call 24; (with_reducible refine (kind_any b _ hb).mono ?_); rintro e w' ⟨rfl, rfl⟩) | (go_at_call 39; (with_reducible refine (parts_any b _ hb).mono ?_); rintro e w' ⟨rfl, rfl⟩))
    all_goals go_ret2
    all_goals exact ⟨ret_pair (by rw [HV.out]; rfl) (by rw [HV.out]; rfl), rfl⟩
end Go.Proofs.Ytmkobcheemgofaa
