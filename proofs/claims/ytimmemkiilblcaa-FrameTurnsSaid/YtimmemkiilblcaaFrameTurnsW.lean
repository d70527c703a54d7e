/- FrameTurns: what it comes to. -/
import Derived.Test.YtimmemkiilblcaaFrameTurnsL
import Derived.Test.YtimmemkiilblcaaFrameCutsW
namespace Go.Proofs.Ytimmemkiilblcaa
set_option linter.unusedVariables false
set_option linter.unusedSimpArgs false
open Go.RowKit
theorem kept_short {ss : List ByteArray} {K : List (List UInt8)} (hK : kept ss 20 = K) : ∀ b ∈ K, b.length ≤ 2000 := by
  subst hK
  intro b hb
  simp only [kept, List.mem_map, List.mem_filter, decide_eq_true_eq] at hb
  obtain ⟨s, ⟨_, _, h2⟩, rfl⟩ := hb
  rw [Array.length_toList]
  exact h2
theorem u8s_setT (bs : List UInt8) (i : Nat) (x : UInt8) : (u8s bs).set i (.int .u8 (x.toNat : Int)) = u8s (bs.set i x) := by simp [u8s, List.map_set]
theorem byte_in (x : Int) (h : (Lit.int .u8 x).wf = true) : ∃ y : UInt8, x = (y.toNat : Int) := by
  simp [Lit.wf, IntKind.min, IntKind.max, IntKind.signed, IntKind.bits] at h
  refine ⟨UInt8.ofNat x.toNat, ?_⟩
  rw [UInt8.toNat_ofNat', Nat.mod_eq_of_lt (by omega)]
  omega
set_option maxRecDepth 100000 in
set_option maxHeartbeats 6400000 in
theorem frameTurns_walk (A : Option Addr) (ss : List ByteArray) (c : Nat) (x1 x2 : Int) (w : World) (hr : ReadsS w A ss) (hc : ss.length ≤ c) (hb16 : c * 16 ≤ 140737488351232) (wf1 : (Lit.int .i64 x1).wf = true) (wf2 : (Lit.int .u8 x2).wf = true) :
    Calls Try.prog 7 #[.slice A ss.length c, .int .i64 x1, .int .u8 x2] w fun e w' => e = .returned (.bool true) ∧ Below w.heap.size w w' := by
  obtain ⟨y, rfl⟩ := byte_in x2 wf2
  have hb : c ≤ 8796093022208 := by omega
  obtain ⟨K, hK⟩ : ∃ K, kept ss 20 = K := ⟨_, rfl⟩
  obtain ⟨x, hx⟩ : ∃ x, (catF K).length = x := ⟨_, rfl⟩
  obtain ⟨m, hm⟩ : ∃ m, K.length = m := ⟨_, rfl⟩
  obtain ⟨hx2, hm2, hfit⟩ := kept_room hK hx hm
  have wfb : -9223372036854775808 ≤ x1 ∧ x1 ≤ 9223372036854775807 := by
    simp [Lit.wf, IntKind.min, IntKind.max, IntKind.signed, IntKind.bits] at wf1
    omega
  have HR := Lib.hid hr
  have HS := Lib.hid (kept_short hK)
  have HK := Lib.hid hK
  have HX := Lib.hid hx
  have HM := Lib.hid hm
  have HF := Lib.hid hfit
  have HWF := Lib.hid wfb
  clear hr hb16 hK hx hm hfit wf1 wf2 wfb
  go_enter Try.func7, Try.ntmps7
  go_wp2_with fail
  refine (laid_n A ss c x m K _ hc hb HR.out HK.out HX.out HM.out).mono ?_
  rintro e w1 ⟨A1, c1, A2, c2, rfl, ho1, ho2, hb1⟩
  have hxc : x ≤ c1 := own_cap (ownB_of ho1 HX.out)
  have HO1 := Lib.hid ho1
  have HO2 := Lib.hid ho2
  clear ho1 ho2
  by_cases hx0 : x = 0
  · have v0 : ((x : Int) == 0) = true := by rw [beq_iff_eq]; omega
    clear hx0
    go_wp2_with fail
    refine (awake_any _).mono ?_
    rintro e w4 ⟨rfl, hb4⟩
    have hb4' := below_then hb1 hb4
    go_wp2
    go_ret
    exact ⟨rfl, hb4'⟩
  have v0 : ((x : Int) == 0) = false := by rw [beq_eq_false_iff_ne]; omega
  by_cases hy0 : y = 0
  · have v1 : ((y.toNat : Int) == 0) = true := by rw [beq_iff_eq, hy0]; rfl
    clear hx0 hy0
    go_wp2_with fail
    refine (awake_any _).mono ?_
    rintro e w4 ⟨rfl, hb4⟩
    have hb4' := below_then hb1 hb4
    go_wp2
    go_ret
    exact ⟨rfl, hb4'⟩
  have v1 : ((y.toNat : Int) == 0) = false := by
    rw [beq_eq_false_iff_ne]
    intro h
    exact hy0 (UInt8.toNat_inj.1 (by simpa using h))
  have HY := Lib.hid hy0
  obtain ⟨k, hk⟩ : ∃ k : Nat, x1 % (x : Int) = (k : Int) := ⟨(x1 % (x : Int)).toNat, by have := Int.emod_nonneg x1 (show (x : Int) ≠ 0 by omega); omega⟩
  have hkx : k < x := by
    have := Int.emod_lt_of_pos x1 (show (0 : Int) < (x : Int) by omega)
    omega
  have HKK := Lib.hid hk
  have x0 : (0 : Int) < (x : Int) := by omega
  clear hk hy0 hx0
  go_wp2_with fail
  refine (place_any x1 (x : Int) _ HWF.out.1 HWF.out.2 (by omega) (by omega)).mono ?_
  rintro e w1' ⟨rfl, rfl⟩
  rw [HKK.out]
  obtain ⟨g, cap, hA1, hg1, hg2⟩ := (ownB_of HO1.out HX.out).form (show 0 < x by omega)
  have hA1' : A1 = some ⟨g, 0, none⟩ := by injection hA1
  subst hA1'
  clear hA1
  go_wp2
  go_loopw [11] (fun i wr => ∃ j : Nat, i = .int .i64 (j : Int) ∧ j < m ∧ Hid (upF K j ≤ k) ∧ wr = w1) (fun i _ => m - (intOf i).toNat)
  case atStart =>
    refine ⟨0, rfl, ?_, ?_, rfl⟩
    · rcases Nat.eq_zero_or_pos m with h0 | h0
      · have h1 := HM.out
        rw [h0] at h1
        have h2 := HX.out
        rw [List.eq_nil_of_length_eq_zero h1] at h2
        have h3 : (catF []).length = 0 := rfl
        omega
      · exact h0
    · show _ ≤ _
      rw [upF_zero]
      omega
  case round =>
    obtain ⟨j, rfl, hjm, HJ, rfl⟩ := hrel
    obtain ⟨ad2, hA2, hc2⟩ := row_at HO2.out (ends_at (K := K) (j := j) (by rw [HM.out]; exact hjm))
    subst hA2
    have hkk := hc2
    obtain ⟨z1, hz1⟩ : ∃ z, upF K (j + 1) = z := ⟨_, rfl⟩
    rw [hz1] at hc2
    have HZ1 := Lib.hid hz1
    have q1 : (j : Int) < (m : Int) := by omega
    clear hkk hz1
    by_cases hin : z1 ≤ k
    · have q2 : (z1 : Int) ≤ (k : Int) := by omega
      have hj1 : j + 1 < m := by
        rcases Nat.lt_or_ge (j + 1) m with h | h
        · exact h
        · have e : j + 1 = m := by omega
          have h1 := HZ1.out
          rw [e, ← HM.out, upF_all, HX.out] at h1
          omega
      have HN : Hid (upF K (j + 1) ≤ k) := by show _ ≤ _; rw [HZ1.out]; exact hin
      clear hin
      go_wp2
      go_roundw
      case rel => exact ⟨j + 1, by go_num, by omega, HN.out, by trivial⟩
      case measure => simp [intOf]; omega
    · have q2 : (k : Int) < (z1 : Int) := by omega
      obtain ⟨z, hz⟩ : ∃ z, upF K j = z := ⟨_, rfl⟩
      have hzk : z ≤ k := by rw [← hz]; exact HJ.out
      have hzz : z < z1 := by have := upF_lt (K := K) (j := j) (by rw [HM.out]; exact hjm); rw [hz, HZ1.out] at this; exact this
      have HZ := Lib.hid hz
      have hz1x : z1 ≤ x := by have := upF_le (K := K) (j + 1); rw [HZ1.out, HX.out] at this; exact this
      have HT : Hid (z + (if 132 < z1 - z then 2 else 1) ≤ k → frames (turn (catF K) k y) = rowF 0 (K.take j)) := by
        intro h
        refine turn_frames HF.out HS.out HY.out (by rw [HM.out]; exact hjm) ?_ (by rw [HZ1.out]; omega)
        rw [hz, HZ1.out]
        exact h
      have HTL : Hid ((turn (catF K) k y).length = x) := by show _ = _; rw [turn_length]; exact HX.out
      obtain ⟨t, ht⟩ : ∃ t, (catF K).getD k 0 = t := ⟨_, rfl⟩
      have f0 := (ownB_of HO1.out HX.out).frozenAt k
      have f1 : wr.cell? ⟨g, k, none⟩ = some (.int .u8 (t.toNat : Int)) := by
        have hlt3 : k < (catF K).length := by rw [HX.out]; omega
        rw [(ownB_of HO1.out HX.out).cellAt _ (by omega), ← ht]
        simp [u8s, List.getElem?_eq_getElem hlt3]
      have HST : Hid ((wr.setCell ⟨g, k, none⟩ (.int .u8 (bits .xor .u8 (t.toNat : Int) (y.toNat : Int)))).ownsRow w.heap.size 5 1 (.slice (some ⟨g, 0, none⟩) x c1) x (u8s (turn (catF K) k y))) := by
        show World.ownsRow _ _ _ _ _ _ _
        have h1 := (ownB_of HO1.out HX.out).stored k (.int .u8 ((t ^^^ y).toNat : Int))
        rw [u8s_setT] at h1
        rw [xor_u8, turn, ht]
        exact h1.1
      have HSB : Hid (Below w.heap.size w (wr.setCell ⟨g, k, none⟩ (.int .u8 (bits .xor .u8 (t.toNat : Int) (y.toNat : Int))))) := hb1.setCell (p := ⟨g, k, none⟩) hg1 _
      clear hz ht hin
      rcases Nat.eq_zero_or_pos j with hj0 | hj0
      · have hz0 : z = 0 := by rw [← HZ.out, hj0, upF_zero]
        have q6 : (j : Int) ≤ 0 := by omega
        clear hj0
        by_cases hl : 132 < z1 - z
        · have q3 : (132 : Int) < (z1 : Int) := by omega
          by_cases hkl : k < z + 2
          · have q4 : (k : Int) < 2 := by omega
            clear hkl
            go_wp2_with fail
            refine (awake_any _).mono ?_
            rintro e w4 ⟨rfl, hb4⟩
            have hb4' := below_then hb1 hb4
            go_wp2
            go_ret
            exact ⟨rfl, hb4'⟩
          · have q4 : 2 ≤ (k : Int) := by omega
            have hfr := HT.out (by rw [if_pos hl]; omega)
            obtain ⟨t1, t2⟩ := told_row hfr (by rw [List.length_take, HM.out]; omega)
            rw [List.length_take, HM.out, Nat.min_eq_left (by omega)] at t1
            have HT1 := Lib.hid t1
            clear hkl hfr t1 t2
            go_wp2_with fail
            obtain ⟨w2, hw2⟩ : ∃ w2, wr.setCell ⟨g, k, none⟩ (.int .u8 (bits .xor .u8 (t.toNat : Int) (y.toNat : Int))) = w2 := ⟨_, rfl⟩
            have HS2 := HST
            have HB2 := HSB
            rw [hw2] at HS2 HB2 ⊢
            clear hw2
            refine (all_told 1000 (some ⟨g, 0, none⟩) (turn (catF K) k y) x c1 j _ HTL.out (by omega) (by omega) (reads_up HS2.out HTL.out) (by omega) HT1.out).mono ?_
            rintro e w3 ⟨A4, c4, A5, c5, rfl, ho4, ho5, hb3⟩
            have hb3' := below_then HB2.out hb3
            clear ho4 ho5
            go_wp2_with fail
            refine (awake_any _).mono ?_
            rintro e w4 ⟨rfl, hb4⟩
            have hb4' := below_then hb3' hb4
            go_wp2
            go_ret
            exact ⟨rfl, hb4'⟩
        · have q3 : (z1 : Int) ≤ 132 := by omega
          by_cases hkl : k < z + 1
          · have q4 : (k : Int) < 1 := by omega
            clear hkl
            go_wp2_with fail
            refine (awake_any _).mono ?_
            rintro e w4 ⟨rfl, hb4⟩
            have hb4' := below_then hb1 hb4
            go_wp2
            go_ret
            exact ⟨rfl, hb4'⟩
          · have q4 : 1 ≤ (k : Int) := by omega
            have hfr := HT.out (by rw [if_neg hl]; omega)
            obtain ⟨t1, t2⟩ := told_row hfr (by rw [List.length_take, HM.out]; omega)
            rw [List.length_take, HM.out, Nat.min_eq_left (by omega)] at t1
            have HT1 := Lib.hid t1
            clear hkl hfr t1 t2
            go_wp2_with fail
            obtain ⟨w2, hw2⟩ : ∃ w2, wr.setCell ⟨g, k, none⟩ (.int .u8 (bits .xor .u8 (t.toNat : Int) (y.toNat : Int))) = w2 := ⟨_, rfl⟩
            have HS2 := HST
            have HB2 := HSB
            rw [hw2] at HS2 HB2 ⊢
            clear hw2
            refine (all_told 1000 (some ⟨g, 0, none⟩) (turn (catF K) k y) x c1 j _ HTL.out (by omega) (by omega) (reads_up HS2.out HTL.out) (by omega) HT1.out).mono ?_
            rintro e w3 ⟨A4, c4, A5, c5, rfl, ho4, ho5, hb3⟩
            have hb3' := below_then HB2.out hb3
            clear ho4 ho5
            go_wp2_with fail
            refine (awake_any _).mono ?_
            rintro e w4 ⟨rfl, hb4⟩
            have hb4' := below_then hb3' hb4
            go_wp2
            go_ret
            exact ⟨rfl, hb4'⟩
      · obtain ⟨j', hjj⟩ : ∃ j', j = j' + 1 := ⟨j - 1, by omega⟩
        have HEP : Hid ((endsV K)[j']? = some (.int .i64 (z : Int))) := by
          have h := ends_at (K := K) (j := j') (by rw [HM.out]; omega)
          rw [← hjj, HZ.out] at h
          exact h
        obtain ⟨adp, hAp, hcp⟩ := row_at HO2.out HEP.out
        injection hAp with hAp
        subst hAp
        have q6 : (0 : Int) < (j : Int) := by omega
        have q7 : (j : Int) - 1 = (j' : Int) := by omega
        have q8 : (j' : Int) < (m : Int) := by omega
        clear hjj
        by_cases hl : 132 < z1 - z
        · have q3 : (132 : Int) < (z1 : Int) - (z : Int) := by omega
          by_cases hkl : k < z + 2
          · have q4 : (k : Int) < (z : Int) + 2 := by omega
            clear hkl
            go_wp2_with fail
            refine (awake_any _).mono ?_
            rintro e w4 ⟨rfl, hb4⟩
            have hb4' := below_then hb1 hb4
            go_wp2
            go_ret
            exact ⟨rfl, hb4'⟩
          · have q4 : (z : Int) + 2 ≤ (k : Int) := by omega
            have hfr := HT.out (by rw [if_pos hl]; omega)
            obtain ⟨t1, t2⟩ := told_row hfr (by rw [List.length_take, HM.out]; omega)
            rw [List.length_take, HM.out, Nat.min_eq_left (by omega)] at t1
            have HT1 := Lib.hid t1
            clear hkl hfr t1 t2
            go_wp2_with fail
            obtain ⟨w2, hw2⟩ : ∃ w2, wr.setCell ⟨g, k, none⟩ (.int .u8 (bits .xor .u8 (t.toNat : Int) (y.toNat : Int))) = w2 := ⟨_, rfl⟩
            have HS2 := HST
            have HB2 := HSB
            rw [hw2] at HS2 HB2 ⊢
            clear hw2
            refine (all_told 1000 (some ⟨g, 0, none⟩) (turn (catF K) k y) x c1 j _ HTL.out (by omega) (by omega) (reads_up HS2.out HTL.out) (by omega) HT1.out).mono ?_
            rintro e w3 ⟨A4, c4, A5, c5, rfl, ho4, ho5, hb3⟩
            have hb3' := below_then HB2.out hb3
            clear ho4 ho5
            go_wp2_with fail
            refine (awake_any _).mono ?_
            rintro e w4 ⟨rfl, hb4⟩
            have hb4' := below_then hb3' hb4
            go_wp2
            go_ret
            exact ⟨rfl, hb4'⟩
        · have q3 : (z1 : Int) - (z : Int) ≤ 132 := by omega
          by_cases hkl : k < z + 1
          · have q4 : (k : Int) < (z : Int) + 1 := by omega
            clear hkl
            go_wp2_with fail
            refine (awake_any _).mono ?_
            rintro e w4 ⟨rfl, hb4⟩
            have hb4' := below_then hb1 hb4
            go_wp2
            go_ret
            exact ⟨rfl, hb4'⟩
          · have q4 : (z : Int) + 1 ≤ (k : Int) := by omega
            have hfr := HT.out (by rw [if_neg hl]; omega)
            obtain ⟨t1, t2⟩ := told_row hfr (by rw [List.length_take, HM.out]; omega)
            rw [List.length_take, HM.out, Nat.min_eq_left (by omega)] at t1
            have HT1 := Lib.hid t1
            clear hkl hfr t1 t2
            go_wp2_with fail
            obtain ⟨w2, hw2⟩ : ∃ w2, wr.setCell ⟨g, k, none⟩ (.int .u8 (bits .xor .u8 (t.toNat : Int) (y.toNat : Int))) = w2 := ⟨_, rfl⟩
            have HS2 := HST
            have HB2 := HSB
            rw [hw2] at HS2 HB2 ⊢
            clear hw2
            refine (all_told 1000 (some ⟨g, 0, none⟩) (turn (catF K) k y) x c1 j _ HTL.out (by omega) (by omega) (reads_up HS2.out HTL.out) (by omega) HT1.out).mono ?_
            rintro e w3 ⟨A4, c4, A5, c5, rfl, ho4, ho5, hb3⟩
            have hb3' := below_then HB2.out hb3
            clear ho4 ho5
            go_wp2_with fail
            refine (awake_any _).mono ?_
            rintro e w4 ⟨rfl, hb4⟩
            have hb4' := below_then hb3' hb4
            go_wp2
            go_ret
            exact ⟨rfl, hb4'⟩
end Go.Proofs.Ytimmemkiilblcaa
