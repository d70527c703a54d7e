/- VintLists: what it comes to. -/
import Derived.Test.YtfgmgmnhelodaaaVintRisesW
import Derived.Test.YtfgmgmnhelodaaaRiseLaw
namespace Go.Proofs.Ytfgmgmnhelodaaa
set_option linter.unusedVariables false
set_option linter.unusedSimpArgs false
open Go.RowKit
set_option maxRecDepth 100000 in
set_option maxHeartbeats 3200000 in
theorem vintLists_walk (A0 : Option Addr) (l : List Nat) (c0 : Nat) (A : Option Addr) (bs : List UInt8) (c : Nat) (Am : Option Addr) (more : List UInt8) (cm : Nat) (w : World) (hr0 : ReadsN w A0 l) (hlt : ∀ n ∈ l, n < 18446744073709551616) (hc0 : l.length ≤ c0) (hb0 : c0 ≤ 1048576) (hr : ReadsB w A bs) (hc : bs.length ≤ c) (hb : c ≤ 1048576) (hrm : ReadsB w Am more) (hcm : more.length ≤ cm) (hbm : cm ≤ 1048576) :
    Calls Try.prog 9 #[.slice A0 l.length c0, .slice A bs.length c, .slice Am more.length cm] w fun e w' => e = .returned (.bool true) ∧ Below w.heap.size w w' := by
  have HR := Lib.hid hr
  have HR0 := Lib.hid hr0
  have HRM := Lib.hid hrm
  have HL := Lib.hid hlt
  have HE := Lib.hid (getRise_enc bs more l hlt (by omega))
  clear hr hr0 hlt hrm
  have q1 : (bs.length : Int) ≤ 1048576 := by omega
  have q2 : (l.length : Int) ≤ 1048576 := by omega
  have q3 : (more.length : Int) ≤ 1048576 := by omega
  have hen := encRise_le l (by omega)
  obtain ⟨m, hm⟩ : ∃ m, (encRise l).length = m := ⟨_, rfl⟩
  obtain ⟨x, hx⟩ : ∃ x, bs.length + m = x := ⟨_, rfl⟩
  obtain ⟨y, hy⟩ : ∃ y, x + more.length = y := ⟨_, rfl⟩
  rw [hm] at hen
  have HM := Lib.hid hm
  have HXX := Lib.hid hx
  have HYY := Lib.hid hy
  have hyi : (y : Int) = (x : Int) + (more.length : Int) := by omega
  have hx3 : (x : Int) ≤ 13000000 := by omega
  clear hm hx hy
  go_enter Try.func9, Try.ntmps9
  go_wp2_with fail
  refine (bytesOwn_any A bs c _ (by omega) HR.out).mono ?_
  rintro e w1 ⟨A1, c1, rfl, hown1, hb1⟩
  have hcap := ownB_cap hown1
  have HR1 := Lib.hid hown1.reads
  clear hown1
  go_wp2_with fail
  refine (nums_any A0 l c0 _ (by omega) (HR0.out.below hb1)).mono ?_
  rintro e w2 ⟨A2, c2, rfl, hown2, hb2'⟩
  have hb2 := below_then hb1 hb2'
  have HR2 := Lib.hid hown2.reads
  have HR1b := Lib.hid (HR1.out.below hb2')
  clear hown2 hb2'
  go_wp2_with fail
  refine (vputRise_n A1 bs bs.length c1 A2 l l.length c2 x _ rfl rfl (by rw [HM.out, HXX.out]) (by omega) hcap HR1b.out HR2.out HL.out).mono ?_
  rintro e w3 ⟨A3, c3, rfl, hown3, hb3'⟩
  have hb3 := below_then hb2 hb3'
  have hown3b : w3.ownsRow w.heap.size 5 1 (.slice A3 x c3) x (u8s (bs ++ encRise l)) := by
    have h1 := hown3.mono (hb2.size)
    unfold OwnB at h1
    rwa [List.length_append, HM.out, HXX.out] at h1
  have HO3 := Lib.hid hown3b
  have HRM3 := Lib.hid (HRM.out.below hb3)
  have hbs3 : w.heap.size ≤ w3.heap.size := hb3.size
  have hzl : (u8s (bs ++ encRise l)).length = x := by rw [u8s_length, List.length_append, HM.out, HXX.out]
  have HZL := Lib.hid hzl
  clear hown3 hown3b hb3' HR1 HR1b HR2 hcap hzl
  go_wp2_with (at_builtin; go_loud (refine wpList_append_any _ rfl _ _ 23 rfl w.heap.size 5 _ 1 Try.underlying23 binfo rfl (by omega) (.slice A3 x c3) x (u8s (bs ++ encRise l)) rfl HO3.out Am more.length cm (u8s more) rfl (u8s_length more) HRM3.out (u8s_one _) (by omega) hbs3 ?_); intro v4 w4 hown4 hg4 hat4)
  have hb4 : Below w.heap.size w w4 := hb3.grown hg4 hbs3 (fun k hk => own_base HO3.out k hk)
  obtain ⟨A4, c4, hv4⟩ := own_slice hown4
  rw [HYY.out] at hv4 hown4
  subst hv4
  have HR4 : Hid (ReadsB w4 A4 (bs ++ (encRise l ++ more))) := by
    show ReadsB w4 A4 (bs ++ (encRise l ++ more))
    have h1 := Reads.of_own hown4
    rw [← u8s_append, List.append_assoc] at h1
    exact h1
  have HL4 : Hid ((bs ++ (encRise l ++ more)).length = y) := by
    show (bs ++ (encRise l ++ more)).length = y
    have h1 := HYY.out
    have h2 := HXX.out
    simp only [List.length_append, HM.out]
    omega
  clear hown4 hg4 hat4 HO3 HRM3 hb3
  rcases hT : getRise (bs ++ (encRise l ++ more)) (bs.length : Int) (l.length : Int) with _ | ⟨l', e'⟩
  · have HT := Lib.hid hT
    clear hT
    go_wp2_with fail
    refine (vgetRise_none A4 _ y c4 (bs.length : Int) (l.length : Int) _ HL4.out (by omega) (.inl (by omega)) (by omega) (by omega) (by omega) (by omega) HR4.out HT.out).mono ?_
    rintro e w5 ⟨rfl, hb5'⟩
    have hb5 := below_then hb4 hb5'
    go_wp2
    go_loopw [11, 12] (fun r i wr => ∃ k : Nat, 1 ≤ k ∧ i = .int .i64 (k : Int) ∧ (k = 1 ∨ k ≤ l.length) ∧ r = .bool (risesFrom none (l.take k)) ∧ Hid (Below w5.heap.size w5 wr)) (fun _ i _ => l.length - (intOf i).toNat)
    case atStart =>
      refine ⟨1, Nat.le_refl _, rfl, .inl rfl, ?_, Below.refl _ _⟩
      rcases l with _ | ⟨x, l⟩ <;> rfl
    case round =>
      obtain ⟨k, hk1, rfl, hk2, rfl, HW⟩ := hrel
      by_cases hkl : k < l.length
      · obtain ⟨j, hj⟩ : ∃ j, k = j + 1 := ⟨k - 1, by omega⟩
        have HW0 := Lib.hid (below_then hb5 HW.out)
        obtain ⟨ad, hA, hcell⟩ := (HR0.out.below HW0.out).at hkl
        obtain ⟨_, hA2, hcell2⟩ := (HR0.out.below HW0.out).at (k := j) (by omega)
        subst hA
        injection hA2 with hA2
        subst hA2
        have HK := Lib.hid (rises_take l k j hkl hj)
        have i1 : (k : Int) < (l.length : Int) := by omega
        have hj1 : (j : Int) < (l.length : Int) := by omega
        have hw1 : IntKind.i64.wrap ((k : Int) - 1) = (j : Int) := by rw [IntWalk.i64_in] <;> omega
        have hk2' : k + 1 ≤ l.length := by omega
        clear hj hk2
        obtain ⟨x, hx⟩ : ∃ x, l.getD k 0 = x := ⟨_, rfl⟩
        obtain ⟨t, ht⟩ : ∃ t, l.getD j 0 = t := ⟨_, rfl⟩
        rw [hx] at hcell HK
        rw [ht] at hcell2 HK
        clear hx ht
        have HK2 : Hid (Value.bool (risesFrom none (l.take k) && decide ((t : Int) < (x : Int))) = Value.bool (risesFrom none (l.take (k + 1)))) := by
          show _ = _
          rw [HK.out, show decide ((t : Int) < (x : Int)) = decide (t < x) from decide_eq_decide.2 (by omega)]
        clear HK
        obtain ⟨ρ, hρ⟩ : ∃ ρ, risesFrom none (l.take k) = ρ := ⟨_, rfl⟩
        rw [hρ] at HK2 ⊢
        clear hρ
        rcases ρ with _ | _
        · go_wp2
          go_quiet (fail)
          go_wp2
          go_roundw
          case rel => exact ⟨k + 1, by omega, by go_num, .inr hk2', by rw [← HK2.out]; simp, below_drewN HW.out _⟩
          case measure => simp [intOf]; omega
        · obtain ⟨b, hbt⟩ : ∃ b, decide ((t : Int) < (x : Int)) = b := ⟨_, rfl⟩
          rw [hbt] at HK2
          go_wp2
          go_quiet (fail)
          go_wp2
          go_roundw
          case rel => exact ⟨k + 1, by omega, by go_num, .inr hk2', by rw [← HK2.out, ← hbt]; simp, below_drewN HW.out _⟩
          case measure => simp [intOf]; omega
      · have hfin : l.take k = l := List.take_of_length_le (by omega)
        rw [hfin]
        have HW0 := Lib.hid (below_then hb5 HW.out)
        clear hfin hk1 hk2
        have hrf : risesFrom none l = false := by
          rcases hq : risesFrom none l with _ | _
          · rfl
          · have := HE.out hq
            rw [HT.out] at this
            cases this
        rw [hrf]
        go_wp2_with fail
        refine (vawake_any _).mono ?_
        rintro e w9 ⟨rfl, hb9'⟩
        have hb9 := below_then HW0.out hb9'
        go_wp2
        go_ret
        exact ⟨rfl, hb9⟩
  · have HRI := Lib.hid (getRise_rises hT)
    have hll := getRise_len hT
    rw [HL4.out] at hll
    have HT := Lib.hid hT
    clear hT
    go_wp2_with fail
    refine (vgetRise_some A4 _ y c4 (bs.length : Int) (l.length : Int) l' l'.length e' _ HL4.out rfl (by omega) (.inl (by omega)) (by omega) (by omega) (by omega) (by omega) HR4.out HT.out).mono ?_
    rintro e w5 ⟨A5, c5, rfl, hown5, hb5'⟩
    have hb5 := below_then hb4 hb5'
    have HR5 := Lib.hid hown5.reads
    clear hown5
    go_wp2
    go_loopw [11, 12] (fun r i wr => ∃ k : Nat, 1 ≤ k ∧ i = .int .i64 (k : Int) ∧ (k = 1 ∨ k ≤ l.length) ∧ r = .bool (risesFrom none (l.take k)) ∧ Hid (Below w5.heap.size w5 wr)) (fun _ i _ => l.length - (intOf i).toNat)
    case atStart =>
      refine ⟨1, Nat.le_refl _, rfl, .inl rfl, ?_, Below.refl _ _⟩
      rcases l with _ | ⟨x, l⟩ <;> rfl
    case round =>
      obtain ⟨k, hk1, rfl, hk2, rfl, HW⟩ := hrel
      by_cases hkl : k < l.length
      · obtain ⟨j, hj⟩ : ∃ j, k = j + 1 := ⟨k - 1, by omega⟩
        have HW0 := Lib.hid (below_then hb5 HW.out)
        obtain ⟨ad, hA, hcell⟩ := (HR0.out.below HW0.out).at hkl
        obtain ⟨_, hA2, hcell2⟩ := (HR0.out.below HW0.out).at (k := j) (by omega)
        subst hA
        injection hA2 with hA2
        subst hA2
        have HK := Lib.hid (rises_take l k j hkl hj)
        have i1 : (k : Int) < (l.length : Int) := by omega
        have hj1 : (j : Int) < (l.length : Int) := by omega
        have hw1 : IntKind.i64.wrap ((k : Int) - 1) = (j : Int) := by rw [IntWalk.i64_in] <;> omega
        have hk2' : k + 1 ≤ l.length := by omega
        clear hj hk2
        obtain ⟨x, hx⟩ : ∃ x, l.getD k 0 = x := ⟨_, rfl⟩
        obtain ⟨t, ht⟩ : ∃ t, l.getD j 0 = t := ⟨_, rfl⟩
        rw [hx] at hcell HK
        rw [ht] at hcell2 HK
        clear hx ht
        have HK2 : Hid (Value.bool (risesFrom none (l.take k) && decide ((t : Int) < (x : Int))) = Value.bool (risesFrom none (l.take (k + 1)))) := by
          show _ = _
          rw [HK.out, show decide ((t : Int) < (x : Int)) = decide (t < x) from decide_eq_decide.2 (by omega)]
        clear HK
        obtain ⟨ρ, hρ⟩ : ∃ ρ, risesFrom none (l.take k) = ρ := ⟨_, rfl⟩
        rw [hρ] at HK2 ⊢
        clear hρ
        rcases ρ with _ | _
        · go_wp2
          go_quiet (fail)
          go_wp2
          go_roundw
          case rel => exact ⟨k + 1, by omega, by go_num, .inr hk2', by rw [← HK2.out]; simp, below_drewN HW.out _⟩
          case measure => simp [intOf]; omega
        · obtain ⟨b, hbt⟩ : ∃ b, decide ((t : Int) < (x : Int)) = b := ⟨_, rfl⟩
          rw [hbt] at HK2
          go_wp2
          go_quiet (fail)
          go_wp2
          go_roundw
          case rel => exact ⟨k + 1, by omega, by go_num, .inr hk2', by rw [← HK2.out, ← hbt]; simp, below_drewN HW.out _⟩
          case measure => simp [intOf]; omega
      · have hfin : l.take k = l := List.take_of_length_le (by omega)
        rw [hfin]
        have HW0 := Lib.hid (below_then hb5 HW.out)
        clear hfin hk1 hk2
        rcases hq : risesFrom none l with _ | _
        · have hne : decide (l' = l) = false := by
            rw [decide_eq_false_iff_not]
            rintro rfl
            rw [HRI.out] at hq
            cases hq
          have HNE := Lib.hid hne
          clear hne
          go_wp2_with fail
          refine (sameNums_any A5 A0 l' l c5 c0 _ (by omega) (HR5.out.below HW.out) (HR0.out.below HW0.out)).mono ?_
          rintro e w9 ⟨rfl, hb9'⟩
          have hb9 := below_then HW0.out hb9'
          rw [HNE.out]
          go_wp2_with fail
          refine (vawake_any _).mono ?_
          rintro e w10 ⟨rfl, hb10'⟩
          have hb10 := below_then hb9 hb10'
          go_wp2
          go_ret
          exact ⟨rfl, hb10⟩
        · have he := HE.out hq
          rw [HT.out] at he
          injection he with he
          injection he with he1 he2
          subst he1
          have hee : (e' : Int) = (x : Int) := by rw [he2, HM.out, HXX.out]
          have hw2 : IntKind.i64.wrap ((y : Int) - (more.length : Int)) = (x : Int) := by rw [IntWalk.i64_in] <;> omega
          clear he2
          go_wp2_with fail
          refine (sameNums_refl A5 A0 l' c5 c0 _ (by omega) (HR5.out.below HW.out) (HR0.out.below HW0.out)).mono ?_
          rintro e w9 ⟨rfl, hb9'⟩
          have hb9 := below_then HW0.out hb9'
          go_wp2_with fail
          refine (vawake_any _).mono ?_
          rintro e w10 ⟨rfl, hb10'⟩
          have hb10 := below_then hb9 hb10'
          go_wp2
          go_ret
          exact ⟨rfl, hb10⟩
end Go.Proofs.Ytfgmgmnhelodaaa
