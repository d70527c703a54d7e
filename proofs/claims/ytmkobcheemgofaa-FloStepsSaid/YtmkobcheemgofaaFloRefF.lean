/- What the reference's From computes: the walk. -/
import Derived.Test.YtmkobcheemgofaaFloWalk
namespace Go.Proofs.Ytmkobcheemgofaa
set_option linter.unusedVariables false
set_option linter.unusedSimpArgs false
open Go.RowKit
set_option maxRecDepth 100000 in
set_option maxHeartbeats 1600000 in
theorem rfrom_any (v : Nat) (w : World) (hv : v < 18446744073709551616) :
    Calls Try.prog 22 #[.int .u64 (v : Int)] w fun e w' => e = .returned (.int .u64 (fromN v : Int)) ∧ w = w' := by
  by_cases h0 : v = 0
  · have HZ := Lib.hid h0
    have hz : ((v : Int) == 0) = true := by rw [beq_iff_eq]; omega
    clear h0
    go_enter Try.func22, Try.ntmps22
    go_wp2
    go_ret
    exact ⟨ret_int' (by rw [HZ.out]; rfl), rfl⟩
  · have hz : ((v : Int) == 0) = false := by rw [beq_eq_false_iff_ne]; omega
    have H0 := Lib.hid h0
    have HL := Lib.hid (log2_lt64 v hv)
    have HV := Lib.hid hv
    obtain ⟨l, hl⟩ : ∃ l, v.log2 + 1 = l := ⟨_, rfl⟩
    have hl1 : 1 ≤ l := by omega
    have hl2 : l ≤ 64 := by have := HL.out; omega
    have HLL := Lib.hid hl
    clear h0 hl hv
    go_enter Try.func22, Try.ntmps22
    go_wp2
    go_loop [3] (fun i => ∃ (j : Nat), i = .int .i64 (j : Int) ∧ j ≤ l) (fun i => 64 - (intOf i).toNat)
    case atStart => exact ⟨0, rfl, by omega⟩
    case round =>
      obtain ⟨j, rfl, hj⟩ := hrel
      by_cases hjl : j < l
      · have hq : 0 < v / 2 ^ j := by
          have h1 := Nat.log2_self_le H0.out
          have h2 : 2 ^ j ≤ 2 ^ v.log2 := Nat.pow_le_pow_right (by decide) (by have := HLL.out; omega)
          exact Nat.div_pos (Nat.le_trans h2 h1) (Nat.two_pow_pos _)
        obtain ⟨q, hqq⟩ : ∃ q, v / 2 ^ j = q := ⟨_, rfl⟩
        have hq2 : (v : Int) / 2 ^ j = (q : Int) := by rw [← hqq]; simp
        rw [hqq] at hq
        have HQ := Lib.hid hqq
        have hj64 : j < 64 := by omega
        clear hqq
        go_wp2
        go_round
        case rel => exact ⟨j + 1, by go_num, by omega⟩
        case measure => simp [intOf]; omega
      · obtain rfl : j = l := by omega
        have hq : j < 64 → v / 2 ^ j = 0 := by
          intro _
          apply Nat.div_eq_of_lt
          have := @Nat.lt_log2_self v
          rwa [HLL.out] at this
        have hn : fromN v = (v.log2 + 1022) * 4503599627370496 + keptN v := by unfold fromN; rw [if_neg H0.out]
        obtain ⟨x, hx⟩ : ∃ x, keptN v = x := ⟨_, rfl⟩
        have hkb := kept_bd v H0.out
        rw [hx] at hn hkb
        have HFIN : Hid (fromN v = (j + 1021) * 4503599627370496 + x) := by
          show _ = _
          rw [hn]
          have := HLL.out
          congr 2
          omega
        have HKB : Hid (4503599627370496 ≤ x ∧ x ≤ 9007199254740992) := by
          show _ ∧ _
          omega
        clear hn hkb
        by_cases h53 : j ≤ 53
        · have hx2 : v * 2 ^ (53 - j) = x := by
            have := HLL.out
            rw [← hx]
            unfold keptN
            rw [if_pos (by omega)]
            congr 2
            omega
          have hx3 : IntKind.u64.wrap ((v : Int) * 2 ^ (53 - j)) = (x : Int) := by
            have := HKB.out
            rw [IntKind.wrap_u64, show (v : Int) * 2 ^ (53 - j) = ((v * 2 ^ (53 - j) : Nat) : Int) by simp, hx2]
            omega
          have hq2 : (v : Int) / 2 ^ j = 0 := by have := hq (by omega); rw [show (v : Int) / 2 ^ j = ((v / 2 ^ j : Nat) : Int) by simp, this]; rfl
          have hx0 : (4503599627370496 : Int) ≤ (x : Int) := by have := HKB.out; omega
          have hx1 : (x : Int) ≤ 9007199254740992 := by have := HKB.out; omega
          clear hx hx2 hq hjl hj
          go_wp2
          go_ret
          exact ⟨ret_int' (by rw [HFIN.out]; first | omega | (rw [IntKind.wrap_u64]; omega) | (rw [IntKind.wrap_u64, IntKind.wrap_u64]; omega)), rfl⟩
        · have hj1 := HLL.out
          have hx2 : rnd v (j - 53) = x := by
            rw [← hx]
            unfold keptN
            rw [if_neg (by omega)]
            congr 1
            omega
          obtain ⟨m, hm⟩ : ∃ m, v / 2 ^ (j - 53) = m := ⟨_, rfl⟩
          obtain ⟨r, hr⟩ : ∃ r, v % 2 ^ (j - 53) = r := ⟨_, rfl⟩
          obtain ⟨p, hp⟩ : ∃ p, m * 2 ^ (j - 53) = p := ⟨_, rfl⟩
          obtain ⟨h, hh⟩ : ∃ h, 2 ^ (j - 53 - 1) = h := ⟨_, rfl⟩
          have hv := HV.out
          have hdm := Nat.div_add_mod v (2 ^ (j - 53))
          rw [hm, hr, Nat.mul_comm, hp] at hdm
          have hpw : 2 ^ (j - 53) = 2 * h := by rw [← hh, show j - 53 = (j - 53 - 1) + 1 by omega, Nat.pow_succ]; simp; omega
          have hrl : r < 2 ^ (j - 53) := by rw [← hr]; exact Nat.mod_lt _ (Nat.two_pow_pos _)
          have hhl : h ≤ 1024 := by rw [← hh]; exact Nat.le_trans (Nat.pow_le_pow_right (by decide) (show j - 53 - 1 ≤ 10 by omega)) (by decide)
          have hx4 : x = m + (if 2 * h < 2 * r ∨ (2 * h = 2 * r ∧ m % 2 = 1) then 1 else 0) := by
            rw [← hx2]
            unfold rnd
            rw [hm, hr, hpw]
          have e1 : (v : Int) / 2 ^ (j - 53) = (m : Int) := by rw [← hm]; simp
          have e2 : IntKind.u64.wrap ((m : Int) * 2 ^ (j - 53)) = (p : Int) := by
            rw [IntKind.wrap_u64, show (m : Int) * 2 ^ (j - 53) = ((m * 2 ^ (j - 53) : Nat) : Int) by simp, hp]
            omega
          have e3 : IntKind.u64.wrap ((v : Int) - (p : Int)) = (r : Int) := by rw [IntKind.wrap_u64]; omega
          have e4 : IntKind.u64.wrap (2 ^ (j - 53 - 1)) = (h : Int) := by
            rw [IntKind.wrap_u64, show (2 : Int) ^ (j - 53 - 1) = ((2 ^ (j - 53 - 1) : Nat) : Int) by simp, hh]
            omega
          have hx0 : (4503599627370495 : Int) ≤ (m : Int) := by have := HKB.out; rw [hx4] at this; split at this <;> omega
          have hx1 : (m : Int) ≤ 9007199254740992 := by have := HKB.out; rw [hx4] at this; split at this <;> omega
          have HX := Lib.hid hx4
          have HQ : Hid (j < 64 → (v : Int) / 2 ^ j = 0) := by
            show _ → _
            intro h'
            rw [show (v : Int) / 2 ^ j = ((v / 2 ^ j : Nat) : Int) by simp, hq h']; rfl
          clear hx hx2 hm hr hp hh hv hdm hpw hrl hx4 hq hjl hj hj1
          have hcase : (j < 64 ∧ (v : Int) / 2 ^ j = 0) ∨ 64 ≤ j := by
            rcases Nat.lt_or_ge j 64 with h' | h'
            · exact .inl ⟨h', HQ.out h'⟩
            · exact .inr h'
          have hc2 : (h < r ∧ x = m + 1) ∨ (r < h ∧ ((r : Int) == (h : Int)) = false ∧ x = m) ∨ (r = h ∧ ((r : Int) == (h : Int)) = true ∧ ((m : Int) % 2 == 1) = true ∧ x = m + 1) ∨ (r = h ∧ ((r : Int) == (h : Int)) = true ∧ ((m : Int) % 2 == 1) = false ∧ x = m) := by
            have hX := HX.out
            rcases Nat.lt_trichotomy h r with g | g | g
            · exact .inl ⟨g, by rw [hX, if_pos (by omega)]⟩
            · subst g
              by_cases g2 : m % 2 = 1
              · exact .inr (.inr (.inl ⟨rfl, by simp, by rw [beq_iff_eq]; omega, by rw [hX, if_pos (by omega)]⟩))
              · exact .inr (.inr (.inr ⟨rfl, by simp, by rw [beq_eq_false_iff_ne]; omega, by rw [hX, if_neg (by omega)]; rfl⟩))
            · exact .inr (.inl ⟨g, by rw [beq_eq_false_iff_ne]; omega, by rw [hX, if_neg (by omega)]; rfl⟩)
          clear HX HQ
          rcases hcase with ⟨g1, g2⟩ | g1
          all_goals
            rcases hc2 with ⟨c1, c4⟩ | ⟨c1, c2, c4⟩ | ⟨c1, c2, c3, c4⟩ | ⟨c1, c2, c3, c4⟩
            all_goals
              have C1 := Lib.hid c1
              have C4 := Lib.hid c4
              have d1 : decide ((h : Int) < (r : Int)) = decide (h < r) := by simp
              clear c1 c4 d1
              go_wp2
              all_goals go_ret
              all_goals exact ⟨ret_int' (by have := HKB.out; have := C4.out; have := C1.out; rw [HFIN.out]; first | omega | (rw [IntKind.wrap_u64]; omega) | (rw [IntKind.wrap_u64, IntKind.wrap_u64]; omega)), rfl⟩
end Go.Proofs.Ytmkobcheemgofaa
