/- FrameCuts: what it comes to. -/
import Derived.Test.YtimmemkiilblcaaFrameCutsL
import Derived.Test.YtimmemkiilblcaaFrameManyW
import Derived.Test.YtimmemkiilblcaaPlace
namespace Go.Proofs.Ytimmemkiilblcaa
set_option linter.unusedVariables false
set_option linter.unusedSimpArgs false
open Go.RowKit
/-- a cut from the start on -/
theorem cut_toK (A : Option Addr) (n c h : Nat) (hn : h ≤ n) (hc : n ≤ c) :
    ∃ A' : Option Addr, (∀ W : World, (Instr.slice 22 (.slice A n c) none (some (.int .i64 (h : Int))) none).run Try.prog W = .ok (.slice A' h c) W) ∧
      Hid (∀ (w : World) (bs : List UInt8), bs.length = n → ReadsB w A bs → ReadsB w A' (bs.take h)) := by
  obtain ⟨ti, hti, hsz⟩ := info_size (P := Try.prog) binfo
  refine ⟨if c = 0 then A else A.map (·.add 0), fun W => ?_, fun w bs hl hr => ?_⟩
  · have hel : Try.prog.elem 22 = 5 := by simp [Program.elem, Try.underlying22]
    have hu : Try.prog.underlying 22 = some (.slice (Try.prog.elem 22)) := by rw [hel]; exact Try.underlying22
    rw [run_slice_h W 22 A n c hu .i64 (h : Int) (Int.natCast_nonneg _) (by omega), hel]
    simp [sizeOf, typeInfo, hti, hsz, sliced, Result.andThen]
  · intro hh
    have h1 := Reads.take (Reads.drop hr 0 c (by omega) (by rw [u8s_length]; omega)) h
    rw [List.drop_zero, ← u8s_take] at h1
    exact h1 hh
theorem ends_n (A : Option Addr) (bs : List UInt8) (n c : Nat) (z : Int) (b : Bool) (w : World) (hn : bs.length = n) (hl : n ≤ 140737488355328) (hc : n ≤ c) (hr : ReadsB w A bs) (hz : (endOf (frames bs) : Int) = z) (hb : (z == (n : Int)) = b) :
    Calls Try.prog 17 #[.slice A n c] w fun e w' => e = .returned (.tuple #[.int .i64 z, .bool b]) ∧ Below w.heap.size w w' := by
  subst hz hb
  exact ends_any A bs n c w hn hl hc hr
theorem cut_len (bs : List UInt8) (x k : Nat) (hx : bs.length = x) (h : k ≤ x) : (bs.take k).length = k := by rw [List.length_take]; omega
set_option maxRecDepth 100000 in
set_option maxHeartbeats 3200000 in
theorem frameCuts_walk (A : Option Addr) (ss : List ByteArray) (c : Nat) (x1 : Int) (w : World) (hr : ReadsS w A ss) (hc : ss.length ≤ c) (hb16 : c * 16 ≤ 140737488351232) (wf1 : (Lit.int .i64 x1).wf = true) :
    Calls Try.prog 6 #[.slice A ss.length c, .int .i64 x1] w fun e w' => e = .returned (.bool true) ∧ Below w.heap.size w w' := by
  have hb : c ≤ 8796093022208 := by omega
  obtain ⟨K, hK⟩ : ∃ K, kept ss 20 = K := ⟨_, rfl⟩
  obtain ⟨x, hx⟩ : ∃ x, (catF K).length = x := ⟨_, rfl⟩
  obtain ⟨m, hm⟩ : ∃ m, K.length = m := ⟨_, rfl⟩
  obtain ⟨hx2, hm2, hfit⟩ := kept_room hK hx hm
  have wfb : -9223372036854775808 ≤ x1 ∧ x1 ≤ 9223372036854775807 := by
    simp [Lit.wf, IntKind.min, IntKind.max, IntKind.signed, IntKind.bits] at wf1
    omega
  obtain ⟨k, hk⟩ : ∃ k : Nat, x1 % ((x : Int) + 1) = (k : Int) := ⟨(x1 % ((x : Int) + 1)).toNat, by have := Int.emod_nonneg x1 (show (x : Int) + 1 ≠ 0 by omega); omega⟩
  have hkx : k ≤ x := by
    have := Int.emod_lt_of_pos x1 (show (0 : Int) < (x : Int) + 1 by omega)
    omega
  have HR := Lib.hid hr
  have HK := Lib.hid hK
  have HX := Lib.hid hx
  have HM := Lib.hid hm
  have HF := Lib.hid hfit
  have HKK := Lib.hid hk
  have HWF := Lib.hid wfb
  clear hr hb16 hK hx hm hfit hk wf1 wfb
  go_enter Try.func6, Try.ntmps6
  go_wp2_with fail
  refine (laid_n A ss c x m K _ hc hb HR.out HK.out HX.out HM.out).mono ?_
  rintro e w1 ⟨A1, c1, A2, c2, rfl, ho1, ho2, hb1⟩
  have hxc : x ≤ c1 := own_cap (ownB_of ho1 HX.out)
  have HO1 := Lib.hid ho1
  have HO2 := Lib.hid ho2
  clear ho1 ho2
  go_wp2_with fail
  refine (place_any x1 ((x : Int) + 1) _ HWF.out.1 HWF.out.2 (by omega) (by omega)).mono ?_
  rintro e w1' ⟨rfl, rfl⟩
  rw [HKK.out]
  obtain ⟨A3, hcut, hcutR⟩ := cut_toK A1 x c1 k hkx hxc
  go_wp2
  go_loopw [9] (fun i wr => ∃ j : Nat, i = .int .i64 (j : Int) ∧ j ≤ m ∧ Hid (upF K j ≤ k) ∧ wr = w1) (fun i _ => m - (intOf i).toNat)
  case atStart => exact ⟨0, rfl, by omega, by show _ ≤ _; rw [upF_zero]; omega, rfl⟩
  case round =>
    obtain ⟨j, rfl, hjm, HJ, rfl⟩ := hrel
    by_cases hin : j < m ∧ upF K (j + 1) ≤ k
    · obtain ⟨i1, i2⟩ := hin
      obtain ⟨ad2, hA2, hc2⟩ := row_at HO2.out (ends_at (K := K) (j := j) (by rw [HM.out]; exact i1))
      subst hA2
      have HI2 := Lib.hid i2
      obtain ⟨z1, hz1⟩ : ∃ z, upF K (j + 1) = z := ⟨_, rfl⟩
      rw [hz1] at hc2 i2
      have q1 : (j : Int) < (m : Int) := by omega
      have q2 : (z1 : Int) ≤ (k : Int) := by omega
      clear hz1
      go_wp2
      go_roundw
      case rel => exact ⟨j + 1, by go_num, by omega, HI2.out, by trivial⟩
      case measure => simp [intOf]; omega
    · obtain ⟨z, hz⟩ : ∃ z, upF K j = z := ⟨_, rfl⟩
      have hfr := cut_frames (K := K) (k := k) (j := j) HF.out (by rw [HX.out]; exact hkx) (by rw [HM.out]; exact hjm) HJ.out (by rw [HM.out]; omega)
      obtain ⟨t1, t2⟩ := told_row hfr (by rw [List.length_take, HM.out]; omega)
      rw [List.length_take, HM.out, Nat.min_eq_left hjm] at t1
      rw [← upF, hz] at t2
      have HT1 := Lib.hid t1
      have HT2 := Lib.hid t2
      have hzk : z ≤ k := by rw [← hz]; exact HJ.out
      have HL := Lib.hid (cut_len (catF K) x k HX.out hkx)
      have HZ := Lib.hid hz
      have HRB := Lib.hid (hcutR.out _ _ HX.out HO1.out.reads)
      clear hfr t1 t2 hz
      have hcase : (m : Int) ≤ (j : Int) ∨ ((j : Int) < (m : Int) ∧ Hid (j < m ∧ k < upF K (j + 1))) := by
        by_cases h : j < m
        · exact .inr ⟨by omega, ⟨h, by omega⟩⟩
        · exact .inl (by omega)
      clear hin
      rcases hcase with h1 | ⟨h1, HC⟩
      · go_wp2_with fail
        refine (all_told 1000 A3 ((catF K).take k) k c1 j _ HL.out (by omega) (by omega) HRB.out (by omega) HT1.out).mono ?_
        rintro e w2 ⟨A4, c4, A5, c5, rfl, ho4, ho5, hb2⟩
        have hb2' := below_then hb1 hb2
        clear ho4 ho5
        go_wp2_with fail
        rcases Nat.eq_zero_or_pos j with hj0 | hj0
        · have v0 : ((j : Int) == 0) = true := by rw [beq_iff_eq]; omega
          have HE : Hid ((endOf (frames ((catF K).take k)) : Int) = 0) := by
            show _ = _
            rw [HT2.out, ← HZ.out, hj0, upF_zero]
            rfl
          obtain ⟨b, hbv⟩ : ∃ b, ((k : Int) == 0) = b := ⟨_, rfl⟩
          have hbw : ((0 : Int) == (k : Int)) = b := by rw [← hbv]; exact BEq.comm
          refine (ends_n A3 ((catF K).take k) k c1 0 b _ HL.out (by omega) (by omega) (HRB.out.below hb2) HE.out hbw).mono ?_
          rintro e w3 ⟨rfl, hb3⟩
          have hb3' := below_then hb2' hb3
          have v1 : (b == b) = true := by simp
          clear hbw hj0
          go_wp2_with fail
          refine (awake_any _).mono ?_
          rintro e w4 ⟨rfl, hb4⟩
          have hb4' := below_then hb3' hb4
          go_wp2
          go_ret
          exact ⟨rfl, hb4'⟩
        · obtain ⟨j', hjj⟩ : ∃ j', j = j' + 1 := ⟨j - 1, by omega⟩
          have v0 : ((j : Int) == 0) = false := by rw [beq_eq_false_iff_ne]; omega
          have HEP : Hid ((endsV K)[j']? = some (.int .i64 (z : Int))) := by
            have h := ends_at (K := K) (j := j') (by rw [HM.out]; omega)
            rw [← hjj, HZ.out] at h
            exact h
          have q7 : (j : Int) - 1 = (j' : Int) := by omega
          have q8 : (j' : Int) < (m : Int) := by omega
          obtain ⟨b, hbv⟩ : ∃ b, ((k : Int) == (z : Int)) = b := ⟨_, rfl⟩
          have hbw : ((z : Int) == (k : Int)) = b := by rw [← hbv]; exact BEq.comm
          refine (ends_n A3 ((catF K).take k) k c1 z b _ HL.out (by omega) (by omega) (HRB.out.below hb2) (by rw [HT2.out]) hbw).mono ?_
          rintro e w3 ⟨rfl, hb3⟩
          have hb3' := below_then hb2' hb3
          obtain ⟨ad6, hA6, hc6⟩ := row_at (own_below (own_below HO2.out hb2) hb3) HEP.out
          subst hA6
          have v1 : (b == b) = true := by simp
          clear hbw hjj hj0
          go_wp2_with fail
          refine (awake_any _).mono ?_
          rintro e w4 ⟨rfl, hb4⟩
          have hb4' := below_then hb3' hb4
          go_wp2
          go_ret
          exact ⟨rfl, hb4'⟩
      · obtain ⟨ad2, hA2, hc2⟩ := row_at HO2.out (ends_at (K := K) (j := j) (by rw [HM.out]; exact HC.out.1))
        subst hA2
        obtain ⟨z1, hz1⟩ : ∃ z, upF K (j + 1) = z := ⟨_, rfl⟩
        have q2 : (k : Int) < (z1 : Int) := by have := HC.out.2; omega
        rw [hz1] at hc2
        clear hz1
        go_wp2_with fail
        refine (all_told 1000 A3 ((catF K).take k) k c1 j _ HL.out (by omega) (by omega) HRB.out (by omega) HT1.out).mono ?_
        rintro e w2 ⟨A4, c4, A5, c5, rfl, ho4, ho5, hb2⟩
        have hb2' := below_then hb1 hb2
        clear ho4 ho5
        go_wp2_with fail
        rcases Nat.eq_zero_or_pos j with hj0 | hj0
        · have v0 : ((j : Int) == 0) = true := by rw [beq_iff_eq]; omega
          have HE : Hid ((endOf (frames ((catF K).take k)) : Int) = 0) := by
            show _ = _
            rw [HT2.out, ← HZ.out, hj0, upF_zero]
            rfl
          obtain ⟨b, hbv⟩ : ∃ b, ((k : Int) == 0) = b := ⟨_, rfl⟩
          have hbw : ((0 : Int) == (k : Int)) = b := by rw [← hbv]; exact BEq.comm
          refine (ends_n A3 ((catF K).take k) k c1 0 b _ HL.out (by omega) (by omega) (HRB.out.below hb2) HE.out hbw).mono ?_
          rintro e w3 ⟨rfl, hb3⟩
          have hb3' := below_then hb2' hb3
          have v1 : (b == b) = true := by simp
          clear hbw hj0
          go_wp2_with fail
          refine (awake_any _).mono ?_
          rintro e w4 ⟨rfl, hb4⟩
          have hb4' := below_then hb3' hb4
          go_wp2
          go_ret
          exact ⟨rfl, hb4'⟩
        · obtain ⟨j', hjj⟩ : ∃ j', j = j' + 1 := ⟨j - 1, by omega⟩
          have v0 : ((j : Int) == 0) = false := by rw [beq_eq_false_iff_ne]; omega
          have HEP : Hid ((endsV K)[j']? = some (.int .i64 (z : Int))) := by
            have h := ends_at (K := K) (j := j') (by rw [HM.out]; omega)
            rw [← hjj, HZ.out] at h
            exact h
          have q7 : (j : Int) - 1 = (j' : Int) := by omega
          have q8 : (j' : Int) < (m : Int) := by omega
          obtain ⟨b, hbv⟩ : ∃ b, ((k : Int) == (z : Int)) = b := ⟨_, rfl⟩
          have hbw : ((z : Int) == (k : Int)) = b := by rw [← hbv]; exact BEq.comm
          refine (ends_n A3 ((catF K).take k) k c1 z b _ HL.out (by omega) (by omega) (HRB.out.below hb2) (by rw [HT2.out]) hbw).mono ?_
          rintro e w3 ⟨rfl, hb3⟩
          have hb3' := below_then hb2' hb3
          obtain ⟨ad6, hA6, hc6⟩ := row_at (own_below (own_below HO2.out hb2) hb3) HEP.out
          (injection hA6 with hA6; subst hA6)
          have v1 : (b == b) = true := by simp
          clear hbw hjj hj0
          go_wp2_with fail
          refine (awake_any _).mono ?_
          rintro e w4 ⟨rfl, hb4⟩
          have hb4' := below_then hb3' hb4
          go_wp2
          go_ret
          exact ⟨rfl, hb4'⟩
end Go.Proofs.Ytimmemkiilblcaa
