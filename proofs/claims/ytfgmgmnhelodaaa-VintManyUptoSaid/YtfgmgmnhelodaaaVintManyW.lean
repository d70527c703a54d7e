/- VintMany: what it comes to. -/
import Derived.Test.YtfgmgmnhelodaaaManyLaw
namespace Go.Proofs.Ytfgmgmnhelodaaa
set_option linter.unusedVariables false
set_option linter.unusedSimpArgs false
open Go.RowKit
set_option maxRecDepth 100000 in
set_option maxHeartbeats 6400000 in
theorem vintMany_walk (A0 : Option Addr) (l : List Nat) (c0 : Nat) (A1 : Option Addr) (ss : List ByteArray) (c1 : Nat) (w : World) (hr0 : ReadsN w A0 l) (hlt : ∀ n ∈ l, n < 18446744073709551616) (hc0 : l.length ≤ c0) (hb0 : c0 ≤ 1048576) (hr1 : ReadsS w A1 ss) (hsz : sizes ss ≤ 1048576) (hc1 : ss.length ≤ c1) (hb1 : c1 ≤ 1048576) :
    Calls Try.prog 7 #[.slice A0 l.length c0, .slice A1 ss.length c1] w fun e w' => e = .returned (.bool true) ∧ Below w.heap.size w w' := by
  have HR0 := Lib.hid hr0
  have HR1 := Lib.hid hr1
  have HL := Lib.hid hlt
  have HS := Lib.hid hsz
  clear hr0 hr1 hlt hsz
  by_cases hbig : 100 < l.length ∨ 100 < ss.length
  · have hcase : (100 : Int) < (l.length : Int) ∨ ((l.length : Int) ≤ 100 ∧ (100 : Int) < (ss.length : Int)) := by omega
    clear hbig
    rcases hcase with h1 | ⟨h1, h2⟩
    all_goals
      go_enter Try.func7, Try.ntmps7
      go_wp2_with fail
      refine (vawake_any _).mono ?_
      rintro e w1 ⟨rfl, hb1'⟩
      go_wp2
      go_ret
      exact ⟨rfl, hb1'⟩
  · have q0 : (l.length : Int) ≤ 100 := by omega
    have q1 : (ss.length : Int) ≤ 100 := by omega
    obtain ⟨N, hN0, hN1, hN2, hN3⟩ : ∃ N, N ≤ 100 ∧ l.length ≤ N ∧ ss.length ≤ N ∧ (∀ k, k < N → k < l.length ∨ k < ss.length) := by
      refine ⟨max l.length ss.length, by omega, by omega, by omega, fun k hk => by omega⟩
    have HN3 := Lib.hid hN3
    clear hbig hN3
    go_enter Try.func7, Try.ntmps7
    go_wp2
    go_loopw [5, 6] (fun b i wr => ∃ (k : Nat) (A : Option Addr) (n c : Nat), i = .int .i64 (k : Int) ∧ k ≤ N ∧ b = .slice A n c ∧ n ≤ c ∧ Hid (ReadsB wr A (cat l ss k)) ∧ Hid ((cat l ss k).length = n) ∧ Hid (Below w.heap.size w wr)) (fun _ i _ => 101 - (intOf i).toNat)
    case atStart => exact ⟨0, none, 0, 0, rfl, Nat.zero_le _, rfl, Nat.le_refl _, Reads.nil _ _, rfl, Below.refl _ _⟩
    case round =>
      obtain ⟨k, A, n, c, rfl, hk, rfl, hnc, HB, HLN, HW⟩ := hrel
      have hn : n ≤ 1050600 := by rw [← HLN.out]; exact cat_bound HL.out HS.out k (by omega)
      by_cases hkN : k < N
      · by_cases hkl : k < l.length
        · obtain ⟨ad, hA, hcell⟩ := (HR0.out.below HW.out).at hkl
          have HV := Lib.hid (getD_lt HL.out hkl)
          have HP := Lib.hid (numPart_in hkl)
          have HC := Lib.hid (cat_succ l ss k)
          obtain ⟨v, hv⟩ : ∃ v, l.getD k 0 = v := ⟨_, rfl⟩
          rw [hv] at hcell HV HP
          obtain ⟨x, hx⟩ : ∃ x, n + (enc v).length = x := ⟨_, rfl⟩
          have HX := Lib.hid hx
          have hxb : x ≤ n + 10 := by have := enc_le10 HV.out; omega
          subst hA
          have i1 : (k : Int) < (l.length : Int) := by omega
          clear hv hx
          by_cases hks : k < ss.length
          · have i2 : (k : Int) < (ss.length : Int) := by omega
            have HQ := Lib.hid (strPart_in hks)
            have HZ := Lib.hid (sizes_getD ss k hks)
            go_wp2_with fail
            refine (vput_n A (cat l ss k) n c v x _ HLN.out HV.out HX.out (by omega) hnc HB.out).mono ?_
            rintro e w1 ⟨A2, c2, rfl, hown2, hb2'⟩
            have hb2 := below_then HW.out hb2'
            have k2 := ownB_cap hown2
            have HR2 := Lib.hid hown2.reads
            obtain ⟨ad2, hA2, hcell2⟩ := (HR1.out.below hb2).at hks
            obtain ⟨s, hs⟩ : ∃ s, ss.getD k ByteArray.empty = s := ⟨_, rfl⟩
            rw [hs] at hcell2 HQ HZ
            subst hA2
            have hsb : s.size ≤ 1048576 := Nat.le_trans HZ.out HS.out
            obtain ⟨y, hy⟩ : ∃ y, x + (encText s.data.toList).length = y := ⟨_, rfl⟩
            have HY := Lib.hid hy
            have HLX : Hid ((cat l ss k ++ enc v).length = x) := by show _ = _; rw [List.length_append, HLN.out, HX.out]
            clear hs hy hown2
            go_wp2_with fail
            refine (vputText_n A2 (cat l ss k ++ enc v) x c2 s y _ HLX.out HY.out (by omega) k2 HR2.out).mono ?_
            rintro e w3 ⟨A3, c3, rfl, hown3, hb3'⟩
            have hb3 := below_then hb2 hb3'
            have k3 := ownB_cap hown3
            have HE : Hid (cat l ss (k + 1) = (cat l ss k ++ enc v) ++ encText s.data.toList) := by show _ = _; rw [HC.out, HP.out, HQ.out]
            have HR3 := Lib.hid hown3.reads
            clear hown3
            go_wp2
            go_roundw
            case rel =>
              refine ⟨k + 1, A3, y, c3, by go_num, by omega, rfl, k3, ?_, ?_, hb3⟩
              · show ReadsB _ _ _
                rw [HE.out]; exact HR3.out
              · show _ = _
                rw [HE.out, List.length_append, HLX.out, HY.out]
            case measure => simp [intOf]; omega
          · have i2 : (ss.length : Int) ≤ (k : Int) := by omega
            have HQ := Lib.hid (strPart_out hks)
            go_wp2_with fail
            refine (vput_n A (cat l ss k) n c v x _ HLN.out HV.out HX.out (by omega) hnc HB.out).mono ?_
            rintro e w1 ⟨A2, c2, rfl, hown2, hb2'⟩
            have hb2 := below_then HW.out hb2'
            have k2 := ownB_cap hown2
            have HR2 := Lib.hid hown2.reads
            have HE : Hid (cat l ss (k + 1) = cat l ss k ++ enc v) := by show _ = _; rw [HC.out, HP.out, HQ.out, List.append_nil]
            clear hown2
            go_wp2
            go_roundw
            case rel =>
              refine ⟨k + 1, A2, x, c2, by go_num, by omega, rfl, k2, ?_, ?_, hb2⟩
              · show ReadsB _ _ _
                rw [HE.out]; exact HR2.out
              · show _ = _
                rw [HE.out, List.length_append, HLN.out, HX.out]
            case measure => simp [intOf]; omega
        · have hks : k < ss.length := by rcases HN3.out k hkN with h | h <;> omega
          have i1 : (l.length : Int) ≤ (k : Int) := by omega
          have i2 : (k : Int) < (ss.length : Int) := by omega
          have HP := Lib.hid (numPart_out hkl)
          have HC := Lib.hid (cat_succ l ss k)
          have HQ := Lib.hid (strPart_in hks)
          have HZ := Lib.hid (sizes_getD ss k hks)
          obtain ⟨ad2, hA2, hcell2⟩ := (HR1.out.below HW.out).at hks
          obtain ⟨s, hs⟩ : ∃ s, ss.getD k ByteArray.empty = s := ⟨_, rfl⟩
          rw [hs] at hcell2 HQ HZ
          subst hA2
          have hsb : s.size ≤ 1048576 := Nat.le_trans HZ.out HS.out
          obtain ⟨y, hy⟩ : ∃ y, n + (encText s.data.toList).length = y := ⟨_, rfl⟩
          have HY := Lib.hid hy
          clear hs hy
          go_wp2_with fail
          refine (vputText_n A (cat l ss k) n c s y _ HLN.out HY.out (by omega) hnc HB.out).mono ?_
          rintro e w3 ⟨A3, c3, rfl, hown3, hb3'⟩
          have hb3 := below_then HW.out hb3'
          have k3 := ownB_cap hown3
          have HE : Hid (cat l ss (k + 1) = cat l ss k ++ encText s.data.toList) := by show _ = _; rw [HC.out, HP.out, HQ.out, List.append_nil]
          have HR3 := Lib.hid hown3.reads
          clear hown3
          go_wp2
          go_roundw
          case rel =>
            refine ⟨k + 1, A3, y, c3, by go_num, by omega, rfl, k3, ?_, ?_, hb3⟩
            · show ReadsB _ _ _
              rw [HE.out]; exact HR3.out
            · show _ = _
              rw [HE.out, List.length_append, HLN.out, HY.out]
          case measure => simp [intOf]; omega
      · obtain rfl : k = N := by omega
        have i1 : (l.length : Int) ≤ (k : Int) := by omega
        have i2 : (ss.length : Int) ≤ (k : Int) := by omega
        have e1 : decide (k < l.length) = false := by rw [decide_eq_false_iff_not]; omega
        have e2 : decide (k < ss.length) = false := by rw [decide_eq_false_iff_not]; omega
        go_wp2
        go_loopw [7, 8] (fun p i wx => ∃ (j m : Nat), i = .int .i64 (j : Int) ∧ j ≤ k ∧ p = .int .i64 (m : Int) ∧ Hid ((cat l ss j).length = m) ∧ Hid (wx = wr)) (fun _ i _ => 101 - (intOf i).toNat)
        case atStart => exact ⟨0, 0, rfl, Nat.zero_le _, rfl, rfl, rfl⟩
        case round =>
          obtain ⟨j, m, rfl, hj, rfl, HM, HWX⟩ := hrel
          obtain rfl := HWX.out
          have hmn : m ≤ n := by
            obtain ⟨r, hr⟩ := cat_pre l ss k j hj
            rw [← HLN.out, hr, List.length_append, HM.out]
            omega
          by_cases hjk : j < k
          · by_cases hjl : j < l.length
            · obtain ⟨ad, hA, hcell⟩ := (HR0.out.below HW.out).at hjl
              have hG := cat_num HL.out hjk hjl (ss := ss)
              obtain ⟨v, hv⟩ : ∃ v, l.getD j 0 = v := ⟨_, rfl⟩
              obtain ⟨x, hx⟩ : ∃ x, (cat l ss j ++ numPart l j).length = x := ⟨_, rfl⟩
              rw [HM.out, hv, hx] at hG
              rw [hv] at hcell
              have hxn : x ≤ n := by
                have := (getAt_bounds hG).2.2.1
                rwa [HLN.out] at this
              have HG := Lib.hid hG
              have HX := Lib.hid hx
              subst hA
              have j1 : (j : Int) < (l.length : Int) := by omega
              clear hv hx hG
              by_cases hjs : j < ss.length
              · obtain ⟨ad2, hA2, hcell2⟩ := (HR1.out.below HW.out).at hjs
                have hG2 := cat_text HS.out hjk hjs (l := l)
                have hz := sizes_getD ss j hjs
                obtain ⟨s, hs⟩ : ∃ s, ss.getD j ByteArray.empty = s := ⟨_, rfl⟩
                obtain ⟨y, hy⟩ : ∃ y, (cat l ss (j + 1)).length = y := ⟨_, rfl⟩
                rw [HX.out, hs, hy] at hG2
                rw [hs] at hcell2 hz
                have hsb : s.size ≤ 1048576 := Nat.le_trans hz HS.out
                have HG2 := Lib.hid hG2
                have HY := Lib.hid hy
                subst hA2
                have j2 : (j : Int) < (ss.length : Int) := by omega
                clear hs hy hG2 hz
                go_wp2_with fail
                refine (vget_some A (cat l ss k) n c (m : Int) v x _ HLN.out (by omega) (by omega) (by omega) HB.out HG.out).mono ?_
                rintro e w4 ⟨rfl, rfl⟩
                go_wp2_with fail
                refine (vgetText_some A (cat l ss k) n c (x : Int) (s.size : Int) s.data.toList y _ HLN.out (by omega) hnc (by omega) (by omega) (by omega) (by omega) HB.out HG2.out).mono ?_
                rintro e w5 ⟨rfl, rfl⟩
                rw [strOf_toList]
                go_wp2
                go_roundw
                case rel => exact ⟨j + 1, y, by go_num, by omega, rfl, HY.out, trivial⟩
                case measure => simp [intOf]; omega
              · have j2 : (ss.length : Int) ≤ (j : Int) := by omega
                have HE : Hid ((cat l ss (j + 1)).length = x) := by show _ = _; rw [cat_succ, strPart_out hjs, List.append_nil]; exact HX.out
                go_wp2_with fail
                refine (vget_some A (cat l ss k) n c (m : Int) v x _ HLN.out (by omega) (by omega) (by omega) HB.out HG.out).mono ?_
                rintro e w4 ⟨rfl, rfl⟩
                go_wp2
                go_roundw
                case rel => exact ⟨j + 1, x, by go_num, by omega, rfl, HE.out, trivial⟩
                case measure => simp [intOf]; omega
            · have hjs : j < ss.length := by rcases HN3.out j hjk with h | h <;> omega
              have j1 : (l.length : Int) ≤ (j : Int) := by omega
              have HX : Hid ((cat l ss j ++ numPart l j).length = m) := by show _ = _; rw [numPart_out hjl, List.append_nil]; exact HM.out
              obtain ⟨ad2, hA2, hcell2⟩ := (HR1.out.below HW.out).at hjs
              have hG2 := cat_text HS.out hjk hjs (l := l)
              have hz := sizes_getD ss j hjs
              obtain ⟨s, hs⟩ : ∃ s, ss.getD j ByteArray.empty = s := ⟨_, rfl⟩
              obtain ⟨y, hy⟩ : ∃ y, (cat l ss (j + 1)).length = y := ⟨_, rfl⟩
              rw [HX.out, hs, hy] at hG2
              rw [hs] at hcell2 hz
              have hsb : s.size ≤ 1048576 := Nat.le_trans hz HS.out
              have HG2 := Lib.hid hG2
              have HY := Lib.hid hy
              subst hA2
              have j2 : (j : Int) < (ss.length : Int) := by omega
              clear hs hy hG2 hz
              go_wp2_with fail
              refine (vgetText_some A (cat l ss k) n c (m : Int) (s.size : Int) s.data.toList y _ HLN.out (by omega) hnc (by omega) (by omega) (by omega) (by omega) HB.out HG2.out).mono ?_
              rintro e w5 ⟨rfl, rfl⟩
              rw [strOf_toList]
              go_wp2
              go_roundw
              case rel => exact ⟨j + 1, y, by go_num, by omega, rfl, HY.out, trivial⟩
              case measure => simp [intOf]; omega
          · obtain rfl : j = k := by omega
            clear hmn
            have hmn : m = n := HM.out.symm.trans HLN.out
            subst hmn
            have HG := Lib.hid (getAt_end (cat l ss j))
            rw [HLN.out] at HG
            go_wp2_with fail
            refine (vget_none A (cat l ss j) m c (m : Int) _ HLN.out (by omega) (by omega) (by omega) HB.out HG.out).mono ?_
            rintro e w4 ⟨rfl, rfl⟩
            go_wp2_with fail
            refine (vawake_any _).mono ?_
            rintro e w5 ⟨rfl, hb5'⟩
            have hb5 := below_then HW.out hb5'
            go_wp2
            go_ret
            exact ⟨rfl, hb5⟩
end Go.Proofs.Ytfgmgmnhelodaaa
