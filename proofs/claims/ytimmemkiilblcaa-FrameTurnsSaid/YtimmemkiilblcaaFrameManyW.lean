/- FrameMany: what it comes to. -/
import Derived.Test.YtimmemkiilblcaaFrameManyL
namespace Go.Proofs.Ytimmemkiilblcaa
set_option linter.unusedVariables false
set_option linter.unusedSimpArgs false
open Go.RowKit
theorem laid_n (A : Option Addr) (ss : List ByteArray) (c x m : Nat) (K : List (List UInt8)) (w : World) (hc : ss.length ≤ c) (hb : c ≤ 8796093022208) (hr : ReadsS w A ss) (hK : kept ss 20 = K) (hx : (catF K).length = x) (hm : K.length = m) :
    Calls Try.prog 20 #[.slice A ss.length c] w fun e w' => ∃ A1 c1 A2 c2, e = .returned (.tuple #[.slice A1 x c1, .slice A2 m c2, .bool true]) ∧ OwnB w' w.heap.size (.slice A1 x c1) (catF K) ∧ w'.ownsRow w.heap.size 3 1 (.slice A2 m c2) m (endsV K) ∧ Below w.heap.size w w' := by
  subst hK hx hm
  exact laid_any A ss c w hc hb hr
/-- the strings' bound is not needed: each body has 2000 bytes at most -/
theorem kept_room {ss : List ByteArray} {K : List (List UInt8)} {x m : Nat} (hK : kept ss 20 = K) (hx : (catF K).length = x) (hm : K.length = m) : x ≤ 40280 ∧ m ≤ 20 ∧ Fits K := by
  subst hK hx hm
  have h1 := kept_bound ss 20
  have h2 := kept_le ss 20
  exact ⟨by omega, h2, kept_fits ss 20⟩
/-- an element of a row -/
theorem row_at {w : World} {base : Nat} {e : TypeId} {A : Option Addr} {n c : Nat} {xs : List Value} {q : Nat} {u : Value} (h : w.ownsRow base e 1 (.slice A n c) n xs) (hu : xs[q]? = some u) : ∃ ad, A = some ad ∧ w.cell? (ad.add q) = some u := by
  have hlt := (List.getElem?_eq_some_iff.1 hu).1
  obtain ⟨ad, e, hc⟩ := Reads.of_own h (by omega)
  exact ⟨ad, e, hc q u hu⟩
theorem endsV_at {K : List (List UInt8)} {q z : Nat} (h : (rowF 0 K)[q]?.map (fun p => p.2.2) = some z) : (endsV K)[q]? = some (.int .i64 (z : Int)) := by
  obtain ⟨p, hp, rfl⟩ := Option.map_eq_some_iff.1 h
  simp [endsV, hp]
set_option maxRecDepth 100000 in
set_option maxHeartbeats 3200000 in
theorem frameMany_walk (A : Option Addr) (ss : List ByteArray) (c : Nat) (w : World) (hr : ReadsS w A ss) (hc : ss.length ≤ c) (hb16 : c * 16 ≤ 140737488351232) :
    Calls Try.prog 9 #[.slice A ss.length c] w fun e w' => e = .returned (.bool true) ∧ Below w.heap.size w w' := by
  have hb : c ≤ 8796093022208 := by omega
  obtain ⟨K, hK⟩ : ∃ K, kept ss 20 = K := ⟨_, rfl⟩
  obtain ⟨x, hx⟩ : ∃ x, (catF K).length = x := ⟨_, rfl⟩
  obtain ⟨m, hm⟩ : ∃ m, K.length = m := ⟨_, rfl⟩
  obtain ⟨hx2, hm2, hfit⟩ := kept_room hK hx hm
  have HR := Lib.hid hr
  have HK := Lib.hid hK
  have HX := Lib.hid hx
  have HM := Lib.hid hm
  have HF := Lib.hid hfit
  have HTO : Hid (toldOf (catF K) 1000 = rowF 0 K) := told_cat K hfit (by omega)
  have HTL : Hid ((toldOf (catF K) 1000).length = m) := by show _ = _; rw [HTO.out, rowF_length, hm]
  clear hr hb16 hK hx hm hfit
  go_enter Try.func9, Try.ntmps9
  go_wp2_with fail
  refine (laid_n A ss c x m K _ hc hb HR.out HK.out HX.out HM.out).mono ?_
  rintro e w1 ⟨A1, c1, A2, c2, rfl, ho1, ho2, hb1⟩
  have hxc : x ≤ c1 := own_cap (ownB_of ho1 HX.out)
  have HO1 := Lib.hid ho1
  have HO2 := Lib.hid ho2
  clear ho1 ho2
  go_wp2_with fail
  refine (all_told 1000 A1 (catF K) x c1 m _ HX.out (by omega) hxc HO1.out.reads (by omega) HTL.out).mono ?_
  rintro e w2 ⟨A4, c4, A5, c5, rfl, ho4, ho5, hb2⟩
  rw [HTO.out] at ho4 ho5
  have hb2' := below_then hb1 hb2
  have HO4 := Lib.hid ho4
  have HO5 := Lib.hid ho5
  have HB1 := Lib.hid (HO1.out.below hb2)
  have HB2 := Lib.hid (own_below HO2.out hb2)
  clear ho4 ho5
  go_wp2
  go_loopw [8, 9] (fun kq i wr => ∃ k q : Nat, kq = .int .i64 (q : Int) ∧ i = .int .i64 (k : Int) ∧ k ≤ 20 ∧ k ≤ ss.length ∧ q ≤ m ∧ Hid ((kept ss k).length = q) ∧ Hid (Below w2.heap.size w2 wr)) (fun _ i _ => 20 - (intOf i).toNat)
  case atStart => exact ⟨0, 0, rfl, rfl, by omega, by omega, by omega, by show _ = _; rw [kept_zero]; rfl, Below.refl _ _⟩
  case round =>
    obtain ⟨k, q, rfl, rfl, hk, hkl, hqm, HQ, HW⟩ := hrel
    by_cases hin : k < 20 ∧ k < ss.length
    · obtain ⟨i1, i2⟩ := hin
      obtain ⟨ad, hA, hcell⟩ := (HR.out.below (below_then hb2' HW.out)).at i2
      subst hA
      obtain ⟨s, hs⟩ : ∃ s, ss.getD k ByteArray.empty = s := ⟨_, rfl⟩
      rw [hs] at hcell
      have HS := Lib.hid hs
      have q1 : (k : Int) < 20 := by omega
      have q2 : (k : Int) < (ss.length : Int) := by omega
      clear hs
      by_cases hsz : 1 ≤ s.size ∧ s.size ≤ 2000
      · obtain ⟨t1, t2, t3, t4⟩ := kept_here HK.out i1 i2 HS.out hsz HQ.out
        obtain ⟨z0, hz0⟩ : ∃ z, (catF (kept ss k)).length = z := ⟨_, rfl⟩
        obtain ⟨z1, hz1⟩ : ∃ z, (catF (kept ss (k + 1))).length = z := ⟨_, rfl⟩
        rw [hz0, hz1] at t3 t4
        rw [HM.out] at t2
        have HT1 := Lib.hid t1
        have HT4 := Lib.hid t4
        have HSZ := Lib.hid hsz
        have e1 : (textsF (rowF 0 K))[q]? = some (.string s) := by
          simp only [textsF, List.getElem?_map, t3, Option.map_some]
          rw [strOf_toList]
        have e2 : (intsF (rowF 0 K))[q]? = some (.int .i64 (z0 : Int)) := by simp [intsF, t3]
        have e3 : (endsV K)[q]? = some (.int .i64 (z1 : Int)) := endsV_at (by rw [t3]; rfl)
        have hz1x : z1 ≤ x := by
          have := (frameAt_in t4).2.2.1
          rw [HX.out] at this
          exact this
        have hz01 : z0 < z1 := by have := (frameAt_in t4).2.1; omega
        have q3 : (1 : Int) ≤ (s.size : Int) := by omega
        have q4 : (s.size : Int) ≤ 2000 := by omega
        have q5 : (q : Int) < (m : Int) := by omega
        have hsl : Hid (s.data.toList.length = s.size) := by show _ = _; rw [Array.length_toList]; rfl
        have HE1 := Lib.hid e1
        have HE2 := Lib.hid e2
        have HE3 := Lib.hid e3
        have HB1r := Lib.hid (HB1.out.below HW.out)
        have HZ0 := Lib.hid hz0
        clear t1 t3 t4 hsz e1 e2 e3 hz1 hz0
        have HGF : Hid (getF (catF K) (z0 : Int) = (s.data.toList, z1, 0)) := by
          show _ = _
          rw [getF_of (by rw [HX.out]; omega)]; rw [HT4.out]
        rcases Nat.eq_zero_or_pos q with hq0 | hq0
        · have hz00 : z0 = 0 := by rw [← HZ0.out]; exact catF_nil_of (by rw [HQ.out]; exact hq0)
          have HE9 : Hid ((intsF (rowF 0 K))[q]? = some (.int .i64 0)) := by
            have h := HE2.out
            rw [hz00] at h
            exact h
          have HGG : Hid (getF (catF K) 0 = (s.data.toList, z1, 0)) := by
            have h := HGF.out
            rw [hz00] at h
            exact h
          have q6 : (q : Int) ≤ 0 := by omega
          clear hz00 hq0
          go_wp2_with fail
          refine (fget_all A1 (catF K) x c1 0 _ HX.out (by omega) hxc HB1r.out.reads s.data.toList s.size z1 0 hsl.out HGG.out).mono ?_
          rintro e w3 ⟨A6, c6, rfl, ho6, hb3⟩
          have hs : ∀ nn : Nat, (convert 22 9 (.slice A6 s.size c6)).run Try.prog (w3.drewN nn) = .ok (.string s) (w3.drewN nn) := fun nn => by
            have h := string_rule ho6.reads s.size c6 hsl.out (w3.drewN nn) (below_drewN (Below.refl _ _) nn)
            rwa [strOf_toList] at h
          have hW3 := below_then HW.out hb3
          have hc3 := cell_later hb3 hcell
          obtain ⟨ad4, hA4, hc4⟩ := row_at (own_below HO4.out hW3) HE9.out
          obtain ⟨ad5, hA5, hc5⟩ := row_at (own_below HO5.out hW3) HE1.out
          obtain ⟨ad2, hA2, hc2⟩ := row_at (own_below HB2.out hW3) HE3.out
          subst hA4 hA5
          subst hA2
          clear ho6
          go_wp2_with fail
          go_quiet (fail)
          go_wp2
          go_roundw
          case rel => exact ⟨k + 1, q + 1, by go_num, by go_num, by omega, by omega, by omega, HT1.out, below_drewN hW3 _⟩
          case measure => simp [intOf]; omega
        · obtain ⟨q', hqq⟩ : ∃ q', q = q' + 1 := ⟨q - 1, by omega⟩
          have HEP : Hid ((endsV K)[q']? = some (.int .i64 (z0 : Int))) := endsV_at (by rw [← HZ0.out]; exact ends_before HK.out hk (by rw [HQ.out, hqq]))
          obtain ⟨adp, hAp, hcp⟩ := row_at (own_below HB2.out HW.out) HEP.out
          subst hAp
          have q6 : (0 : Int) < (q : Int) := by omega
          have q7 : (q : Int) - 1 = (q' : Int) := by omega
          have q8 : (q' : Int) < (m : Int) := by omega
          clear hqq
          go_wp2_with fail
          refine (fget_all A1 (catF K) x c1 (z0 : Int) _ HX.out (by omega) hxc HB1r.out.reads s.data.toList s.size z1 0 hsl.out HGF.out).mono ?_
          rintro e w3 ⟨A6, c6, rfl, ho6, hb3⟩
          have hs : ∀ nn : Nat, (convert 22 9 (.slice A6 s.size c6)).run Try.prog (w3.drewN nn) = .ok (.string s) (w3.drewN nn) := fun nn => by
            have h := string_rule ho6.reads s.size c6 hsl.out (w3.drewN nn) (below_drewN (Below.refl _ _) nn)
            rwa [strOf_toList] at h
          have hW3 := below_then HW.out hb3
          have hc3 := cell_later hb3 hcell
          obtain ⟨ad4, hA4, hc4⟩ := row_at (own_below HO4.out hW3) HE2.out
          obtain ⟨ad5, hA5, hc5⟩ := row_at (own_below HO5.out hW3) HE1.out
          obtain ⟨ad2, hA2, hc2⟩ := row_at (own_below HB2.out hW3) HE3.out
          subst hA4 hA5
          (injection hA2 with hA2; subst hA2)
          clear ho6
          go_wp2_with fail
          go_quiet (fail)
          go_wp2
          go_roundw
          case rel => exact ⟨k + 1, q + 1, by go_num, by go_num, by omega, by omega, by omega, HT1.out, below_drewN hW3 _⟩
          case measure => simp [intOf]; omega
      · have hcase : (s.size : Int) < 1 ∨ ((1 : Int) ≤ (s.size : Int) ∧ (2000 : Int) < (s.size : Int)) := by omega
        have HO : Hid (kept ss (k + 1) = kept ss k) := kept_out i2 (by rw [HS.out]; exact hsz)
        clear hsz
        rcases hcase with h1 | ⟨h1, h2⟩
        all_goals
          go_wp2
          go_roundw
          case rel => exact ⟨k + 1, q, rfl, by go_num, by omega, by omega, hqm, by show _ = _; rw [HO.out]; exact HQ.out, HW.out⟩
          case measure => simp [intOf]; omega
    · have HO : q = m := by
        rw [← HQ.out, ← HM.out, ← HK.out]
        unfold kept
        by_cases h : k = 20
        · rw [h]
        · rw [List.take_of_length_le (show ss.length ≤ k by omega), List.take_of_length_le (show ss.length ≤ 20 by omega)]
      subst HO
      have hcase : (ss.length : Int) ≤ (k : Int) ∨ ((k : Int) < (ss.length : Int) ∧ (20 : Int) ≤ (k : Int)) := by omega
      have HG : Hid (getF (catF K) (x : Int) = ([], 0, 3)) := by
        show _ = _
        unfold getF
        rw [HX.out, if_neg (by omega), if_pos rfl]
      clear hin
      rcases hcase with h1 | ⟨h1, h2⟩
      all_goals
        go_wp2_with fail
        refine (fget_all A1 (catF K) x c1 (x : Int) _ HX.out (by omega) hxc (HB1.out.below HW.out).reads [] 0 0 3 rfl HG.out).mono ?_
        rintro e w5 ⟨A6, c6, rfl, _, hb5⟩
        have hb5' := below_then (below_then hb2' HW.out) hb5
        go_wp2_with fail
        refine (awake_any _).mono ?_
        rintro e w6 ⟨rfl, hb6⟩
        have hb6' := below_then hb5' hb6
        go_wp2
        go_ret
        exact ⟨rfl, hb6'⟩
end Go.Proofs.Ytimmemkiilblcaa
