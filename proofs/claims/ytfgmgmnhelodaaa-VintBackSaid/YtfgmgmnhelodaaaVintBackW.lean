/- VintBack: what it comes to. -/
import Derived.Test.YtfgmgmnhelodaaaBackLaw
namespace Go.Proofs.Ytfgmgmnhelodaaa
set_option linter.unusedVariables false
set_option linter.unusedSimpArgs false
open Go.RowKit
set_option maxRecDepth 100000 in
set_option maxHeartbeats 6400000 in
theorem vintBack_walk (A : Option Addr) (bs : List UInt8) (c : Nat) (x1 : Int) (w : World) (hr : ReadsB w A bs) (hc : bs.length ≤ c) (hb : c ≤ 140737488351232) (wf1 : (Lit.int .i64 x1).wf = true) :
    Calls Try.prog 11 #[.slice A bs.length c, .int .i64 x1] w fun e w' => e = .returned (.bool true) ∧ Below w.heap.size w w' := by
  obtain ⟨hx0, hx1⟩ := wf_i64 wf1
  have HR := Lib.hid hr
  clear wf1 hr
  have q1 : (bs.length : Int) ≤ 140737488351232 := by omega
  have hw0 : IntKind.i64.wrap ((bs.length : Int) + 1) = (bs.length : Int) + 1 := IntWalk.i64_in _ (by omega)
  have hk0 := Int.emod_nonneg x1 (show (bs.length : Int) + 1 ≠ 0 by omega)
  have hk1 := Int.emod_lt_of_pos x1 (show 0 < (bs.length : Int) + 1 by omega)
  obtain ⟨k, hk⟩ : ∃ k : Nat, x1 % ((bs.length : Int) + 1) = (k : Int) := ⟨_, (Int.toNat_of_nonneg hk0).symm⟩
  rw [hk] at hk1
  have HK := Lib.hid hk
  have hkl : k ≤ bs.length := by omega
  have hki : (k : Int) ≤ (bs.length : Int) := by omega
  clear hk hk0 hk1
  go_enter Try.func11, Try.ntmps11
  go_wp2_with fail
  refine (place_n x1 ((bs.length : Int) + 1) k _ hx0 hx1 (by omega) (by omega) HK.out).mono ?_
  rintro e w0 ⟨rfl, rfl⟩
  go_wp2_with fail
  refine (bytesOwn_any A bs c _ (by omega) HR.out).mono ?_
  rintro e w1 ⟨Ac, cc, rfl, hownc, hb1⟩
  have hcc := ownB_cap hownc
  have HRC1 := Lib.hid hownc.reads
  clear hownc
  rcases hG : getAt bs (k : Int) with _ | ⟨v, e'⟩
  · have G := Lib.hid hG
    have GT : Hid (getText bs (k : Int) 1073741824 = none) := by show getText _ _ _ = none; unfold getText; rw [hG]
    have GR : Hid (getRise bs (k : Int) 1073741824 = none) := by show getRise _ _ _ = none; unfold getRise; rw [hG]
    clear hG
    go_wp2_with fail
    refine (vget_none Ac bs bs.length cc (k : Int) _ rfl (by omega) (by omega) (by omega) HRC1.out G.out).mono ?_
    rintro e w2 ⟨rfl, rfl⟩
    go_wp2
    go_quiet (fail)
    go_wp2_with fail
    refine (vgetInt_none Ac bs bs.length cc (k : Int) _ rfl (by omega) (by omega) (by omega) (by first | exact HRC1.out | exact HRC1.out.drew | exact HRC1.out.drewN _) G.out).mono ?_
    rintro e w2 ⟨rfl, rfl⟩
    go_wp2
    go_quiet (fail)
    go_wp2_with fail
    refine (vgetText_none Ac bs bs.length cc (k : Int) 1073741824 _ rfl (by omega) (by omega) (by omega) (by omega) (by omega) (by first | exact HRC1.out | exact HRC1.out.drew | exact HRC1.out.drewN _) GT.out).mono ?_
    rintro e w2 ⟨rfl, rfl⟩
    go_wp2
    go_quiet (fail)
    go_wp2_with fail
    refine (vgetRise_none Ac bs bs.length cc (k : Int) 1073741824 _ rfl (by omega) (.inr (by omega)) (by omega) (by omega) (by omega) (by omega) (by first | exact HRC1.out | exact HRC1.out.drew | exact HRC1.out.drewN _) GR.out).mono ?_
    rintro e w5 ⟨rfl, hb5'⟩
    have hb5 : Below w.heap.size w w5 := below_then (by first | exact hb1 | exact Below.drew hb1 | exact below_drewN hb1 _) hb5'
    have HRC5 : Hid (ReadsB w5 Ac bs) := Reads.below (show ReadsB _ Ac bs from (by first | exact HRC1.out | exact HRC1.out.drew | exact HRC1.out.drewN _)) hb5'
    have hsA : ∀ n : Nat, (convert 23 9 (.slice Ac bs.length cc)).run Try.prog (w5.drewN n) = .ok (.string (strOf bs)) (w5.drewN n) := fun n => string_rule (HRC5.out.drewN n) bs.length cc rfl _ (Below.refl _ _)
    have hsB : ∀ n : Nat, (convert 23 9 (.slice A bs.length c)).run Try.prog (w5.drewN n) = .ok (.string (strOf bs)) (w5.drewN n) := fun n => string_rule ((HR.out.below hb5).drewN n) bs.length c rfl _ (Below.refl _ _)
    go_wp2
    go_quiet (fail)
    go_wp2_with fail
    refine (vawake_any _).mono ?_
    rintro e wz ⟨rfl, hbz'⟩
    have hbz := below_then (below_drewN hb5 _) hbz'
    go_wp2
    go_ret
    exact ⟨rfl, hbz⟩
  · have G := Lib.hid hG
    obtain ⟨g1, g2, hv, hcutlaw1⟩ := getAt_back hG
    have HV := Lib.hid hv
    clear hG hv
    obtain ⟨m1, hm1⟩ : ∃ m, e' - k = m := ⟨_, rfl⟩
    obtain ⟨A2_1, hcut1, HA2_1⟩ := cut_midB (P := Try.prog) 23 5 Try.underlying23 binfo A bs.length c k e' (k : Int) (e' : Int) rfl rfl (by omega) (by omega) hc
    rw [hm1] at hcut1 HA2_1 hcutlaw1
    have CUT1 := Lib.hid hcutlaw1
    have MM1 : Hid ((enc v).length = m1) := by
      show _ = _
      rw [← hcutlaw1, List.length_take, List.length_drop]
      omega
    have d1_1 : decide (e' ≤ k) = false := by rw [decide_eq_false_iff_not]; omega
    have d2_1 : decide (bs.length < e') = false := by rw [decide_eq_false_iff_not]; omega
    clear hcutlaw1 hm1
    go_wp2_with fail
    refine (vget_some Ac bs bs.length cc (k : Int) v e' _ rfl (by omega) (by omega) (by omega) HRC1.out G.out).mono ?_
    rintro e w2 ⟨rfl, rfl⟩
    have hs2_1 := string_rule (HA2_1.out _ bs rfl (HR.out.below hb1)) m1 (c - k) (by rw [CUT1.out]; exact MM1.out)
    rw [CUT1.out] at hs2_1
    go_wp2
    have hS1 : Below w1.heap.size w1 w1.drew := (Below.refl _ _).drew
    refine wp_region_held_drew (S := fun w' => Below w1.heap.size w1 w') (by kernel_rfl) hS1 (fun _ => ?_)
    -- 0: slot 27 := Op.move t9
    refine wpAnyH_take (i := 0) (v := ?_) rfl (by kernel_rfl) (by kernel_rfl) (by kernel_rfl) (fun _ _ _ h => h) (Or.inl ⟨by rfl, ?_⟩) (by assumption) ?_
    rotate_left
    · intro w hSw; go_simp; try with_reducible rfl
    try simp only [Act.put, List.setIfInBounds_toArray, List.set_cons_zero, List.set_cons_succ, List.getElem_toArray, List.getElem_cons_zero, List.getElem_cons_succ]
    -- 1: slot 28 := Op.move t27
    refine wpAnyH_take (i := 1) (v := ?_) rfl (by kernel_rfl) (by kernel_rfl) (by kernel_rfl) (fun _ _ _ h => h) (Or.inl ⟨by rfl, ?_⟩) (by assumption) ?_
    rotate_left
    · intro w hSw; go_simp; try with_reducible rfl
    try simp only [Act.put, List.setIfInBounds_toArray, List.set_cons_zero, List.set_cons_succ, List.getElem_toArray, List.getElem_cons_zero, List.getElem_cons_succ]
    -- 2: slot 29 := Op.move t8 [guarded: some (1, true)]
    refine wpAnyH_take (i := 2) (v := ?_) rfl (by kernel_rfl) (by kernel_rfl) (by kernel_rfl) (fun _ _ _ h => h) (Or.inl ⟨by rfl, ?_⟩) (by assumption) ?_
    rotate_left
    · intro w hSw; go_simp; try with_reducible rfl
    try simp only [Act.put, List.setIfInBounds_toArray, List.set_cons_zero, List.set_cons_succ, List.getElem_toArray, List.getElem_cons_zero, List.getElem_cons_succ]
    -- 3: slot 30 := Op.move t5 [guarded: some (1, true)]
    refine wpAnyH_take (i := 3) (v := ?_) rfl (by kernel_rfl) (by kernel_rfl) (by kernel_rfl) (fun _ _ _ h => h) (Or.inl ⟨by rfl, ?_⟩) (by assumption) ?_
    rotate_left
    · intro w hSw; go_simp; try with_reducible rfl
    try simp only [Act.put, List.setIfInBounds_toArray, List.set_cons_zero, List.set_cons_succ, List.getElem_toArray, List.getElem_cons_zero, List.getElem_cons_succ]
    -- 4: slot 31 := Op.binOp BinOp.leq 3 t29 t30 3 [guarded: some (1, true)]
    refine wpAnyH_take (i := 4) (v := ?_) rfl (by kernel_rfl) (by kernel_rfl) (by kernel_rfl) (fun _ _ _ h => h) (Or.inl ⟨by rfl, ?_⟩) (by assumption) ?_
    rotate_left
    · intro w hSw; go_simp; try with_reducible rfl
    try simp only [Act.put, List.setIfInBounds_toArray, List.set_cons_zero, List.set_cons_succ, List.getElem_toArray, List.getElem_cons_zero, List.getElem_cons_succ]
    -- 5: slot 32 := Op.move t31 [guarded: some (1, true)]
    refine wpAnyH_take (i := 5) (v := ?_) rfl (by kernel_rfl) (by kernel_rfl) (by kernel_rfl) (fun _ _ _ h => h) (Or.inl ⟨by rfl, ?_⟩) (by assumption) ?_
    rotate_left
    · intro w hSw; go_simp; try with_reducible rfl
    try simp only [Act.put, List.setIfInBounds_toArray, List.set_cons_zero, List.set_cons_succ, List.getElem_toArray, List.getElem_cons_zero, List.getElem_cons_succ]
    -- 6: slot 33 := Op.move t8 [guarded: some (5, false)]
    refine wpAnyH_take (i := 6) (v := ?_) rfl (by kernel_rfl) (by kernel_rfl) (by kernel_rfl) (fun _ _ _ h => h) (Or.inl ⟨by rfl, ?_⟩) (by assumption) ?_
    rotate_left
    · intro w hSw; go_simp; try with_reducible rfl
    try simp only [Act.put, List.setIfInBounds_toArray, List.set_cons_zero, List.set_cons_succ, List.getElem_toArray, List.getElem_cons_zero, List.getElem_cons_succ]
    -- 7: slot 34 := Op.move t0 [guarded: some (5, false)]
    refine wpAnyH_take (i := 7) (v := ?_) rfl (by kernel_rfl) (by kernel_rfl) (by kernel_rfl) (fun _ _ _ h => h) (Or.inl ⟨by rfl, ?_⟩) (by assumption) ?_
    rotate_left
    · intro w hSw; go_simp; try with_reducible rfl
    try simp only [Act.put, List.setIfInBounds_toArray, List.set_cons_zero, List.set_cons_succ, List.getElem_toArray, List.getElem_cons_zero, List.getElem_cons_succ]
    -- 8: slot 35 := Op.call { builtin len, args := #[t34], argTypes := #[23] } [guarded: some (
    refine wpAnyH_take (i := 8) (v := ?_) rfl (by kernel_rfl) (by kernel_rfl) (by kernel_rfl) (fun _ _ _ h => h) (Or.inl ⟨by rfl, ?_⟩) (by assumption) ?_
    rotate_left
    · intro w hSw; go_simp; try with_reducible rfl
    try simp only [Act.put, List.setIfInBounds_toArray, List.set_cons_zero, List.set_cons_succ, List.getElem_toArray, List.getElem_cons_zero, List.getElem_cons_succ]
    -- 9: slot 36 := Op.binOp BinOp.gtr 3 t33 t35 3 [guarded: some (5, false)]
    refine wpAnyH_take (i := 9) (v := ?_) rfl (by kernel_rfl) (by kernel_rfl) (by kernel_rfl) (fun _ _ _ h => h) (Or.inl ⟨by rfl, ?_⟩) (by assumption) ?_
    rotate_left
    · intro w hSw; go_simp; try with_reducible rfl
    try simp only [Act.put, List.setIfInBounds_toArray, List.set_cons_zero, List.set_cons_succ, List.getElem_toArray, List.getElem_cons_zero, List.getElem_cons_succ]
    -- 10: slot 37 := Op.pick t32 (const (Value.bool true)) t36 [guarded: some (1, true)]
    refine wpAnyH_take (i := 10) (v := ?_) rfl (by kernel_rfl) (by kernel_rfl) (by kernel_rfl) (fun _ _ _ h => h) (Or.inl ⟨by rfl, ?_⟩) (by assumption) ?_
    rotate_left
    · intro w hSw; go_simp; try with_reducible rfl
    try simp only [Act.put, List.setIfInBounds_toArray, List.set_cons_zero, List.set_cons_succ, List.getElem_toArray, List.getElem_cons_zero, List.getElem_cons_succ]
    -- 11: slot 38 := Op.move t37 [guarded: some (1, true)]
    refine wpAnyH_take (i := 11) (v := ?_) rfl (by kernel_rfl) (by kernel_rfl) (by kernel_rfl) (fun _ _ _ h => h) (Or.inl ⟨by rfl, ?_⟩) (by assumption) ?_
    rotate_left
    · intro w hSw; go_simp; try with_reducible rfl
    try simp only [Act.put, List.setIfInBounds_toArray, List.set_cons_zero, List.set_cons_succ, List.getElem_toArray, List.getElem_cons_zero, List.getElem_cons_succ]
    -- 12: slot 39 := Op.move t7 [guarded: some (11, false)]
    refine wpAnyH_take (i := 12) (v := ?_) rfl (by kernel_rfl) (by kernel_rfl) (by kernel_rfl) (fun _ _ _ h => h) (Or.inl ⟨by rfl, ?_⟩) (by assumption) ?_
    rotate_left
    · intro w hSw; go_simp; try with_reducible rfl
    try simp only [Act.put, List.setIfInBounds_toArray, List.set_cons_zero, List.set_cons_succ, List.getElem_toArray, List.getElem_cons_zero, List.getElem_cons_succ]
    -- 15: slot 42 := Op.move t0 [guarded: some (11, false)]
    refine wpAnyH_take (i := 15) (v := ?_) rfl (by kernel_rfl) (by kernel_rfl) (by kernel_rfl) (fun _ _ _ h => h) (Or.inl ⟨by rfl, ?_⟩) (by assumption) ?_
    rotate_left
    · intro w hSw; go_simp; try with_reducible rfl
    try simp only [Act.put, List.setIfInBounds_toArray, List.set_cons_zero, List.set_cons_succ, List.getElem_toArray, List.getElem_cons_zero, List.getElem_cons_succ]
    -- 16: slot 43 := Op.move t5 [guarded: some (11, false)]
    refine wpAnyH_take (i := 16) (v := ?_) rfl (by kernel_rfl) (by kernel_rfl) (by kernel_rfl) (fun _ _ _ h => h) (Or.inl ⟨by rfl, ?_⟩) (by assumption) ?_
    rotate_left
    · intro w hSw; go_simp; try with_reducible rfl
    try simp only [Act.put, List.setIfInBounds_toArray, List.set_cons_zero, List.set_cons_succ, List.getElem_toArray, List.getElem_cons_zero, List.getElem_cons_succ]
    -- 17: slot 44 := Op.move t8 [guarded: some (11, false)]
    refine wpAnyH_take (i := 17) (v := ?_) rfl (by kernel_rfl) (by kernel_rfl) (by kernel_rfl) (fun _ _ _ h => h) (Or.inl ⟨by rfl, ?_⟩) (by assumption) ?_
    rotate_left
    · intro w hSw; go_simp; try with_reducible rfl
    try simp only [Act.put, List.setIfInBounds_toArray, List.set_cons_zero, List.set_cons_succ, List.getElem_toArray, List.getElem_cons_zero, List.getElem_cons_succ]
    -- 18: slot 45 := Op.slice 23 t42 (some t43) (some t44) none [guarded: some (11, false)]
    refine wpAnyH_take (i := 18) (v := ?_) rfl (by kernel_rfl) (by kernel_rfl) (by kernel_rfl) (fun _ _ _ h => h) (Or.inl ⟨by rfl, ?_⟩) (by assumption) ?_
    rotate_left
    · intro w hSw; go_simp; try with_reducible rfl
    try simp only [Act.put, List.setIfInBounds_toArray, List.set_cons_zero, List.set_cons_succ, List.getElem_toArray, List.getElem_cons_zero, List.getElem_cons_succ]
    -- 19: slot 46 := Op.convert 23 9 t45 [guarded: some (11, false)]
    refine wpAnyH_take (i := 19) (v := ?_) rfl (by kernel_rfl) (by kernel_rfl) (by kernel_rfl) (fun _ _ _ h => h) (Or.inl ⟨by rfl, ?_⟩) (by assumption) ?_
    rotate_left
    · intro w hSw; go_simp; try with_reducible rfl
    try simp only [Act.put, List.setIfInBounds_toArray, List.set_cons_zero, List.set_cons_succ, List.getElem_toArray, List.getElem_cons_zero, List.getElem_cons_succ]
    -- 13: slot 40 := Op.call { value (Operand.func 12), args := #[const (Value.slice none 0 0), t3
    refine wpAnyH_ready (rs := [13]) (by kernel_rfl) (by simp) ?_
    refine AllReadyH.cons rfl (fun K hK => ?_) AllReadyH.nil
    go_simp
    refine (vput_nil v m1 _ HV.out MM1.out).mono ?_
    rintro e w1' ⟨A1, c1, rfl, hown1, hbc1⟩
    have hs3_1 := string_rule hown1.reads m1 c1 MM1.out
    have hbd1 := below_then hS1 hbc1
    replace hs2_1 : ∀ W : World, Below w1'.heap.size w1' W → _ := fun W hW => hs2_1 W (below_then hbd1 hW)
    refine hK.out _ _ hbd1 (fun hHeld => ?_)
    clear hK K
    refine wpAnyH_mono (S' := fun w' => Below w1'.heap.size w1' w') (fun W h => below_then hbd1 h) _ ?_
    have hT1 : Below w1'.heap.size w1' w1' := Below.refl _ _
    try simp only [Act.put, List.setIfInBounds_toArray, List.set_cons_zero, List.set_cons_succ, List.getElem_toArray, List.getElem_cons_zero, List.getElem_cons_succ]
    -- 14: slot 41 := Op.convert 23 9 t40 [guarded: some (11, false)]
    refine wpAnyH_take (i := 14) (v := ?_) rfl (by kernel_rfl) (by kernel_rfl) (by kernel_rfl) (fun _ _ _ h => h) (Or.inl ⟨by rfl, ?_⟩) (by assumption) ?_
    rotate_left
    · intro w hSw; go_simp; try with_reducible rfl
    try simp only [Act.put, List.setIfInBounds_toArray, List.set_cons_zero, List.set_cons_succ, List.getElem_toArray, List.getElem_cons_zero, List.getElem_cons_succ]
    -- 20: slot 47 := Op.binOp BinOp.neq 9 t41 t46 9 [guarded: some (11, false)]
    refine wpAnyH_take (i := 20) (v := ?_) rfl (by kernel_rfl) (by kernel_rfl) (by kernel_rfl) (fun _ _ _ h => h) (Or.inl ⟨by rfl, ?_⟩) (by assumption) ?_
    rotate_left
    · intro w hSw; go_simp; try with_reducible rfl
    try simp only [Act.put, List.setIfInBounds_toArray, List.set_cons_zero, List.set_cons_succ, List.getElem_toArray, List.getElem_cons_zero, List.getElem_cons_succ]
    -- 21: slot 48 := Op.pick t38 (const (Value.bool true)) t47 [guarded: some (1, true)]
    refine wpAnyH_take (i := 21) (v := ?_) rfl (by kernel_rfl) (by kernel_rfl) (by kernel_rfl) (fun _ _ _ h => h) (Or.inl ⟨by rfl, ?_⟩) (by assumption) ?_
    rotate_left
    · intro w hSw; go_simp; try with_reducible rfl
    try simp only [Act.put, List.setIfInBounds_toArray, List.set_cons_zero, List.set_cons_succ, List.getElem_toArray, List.getElem_cons_zero, List.getElem_cons_succ]
    -- 22: slot 49 := Op.pick t28 t48 (const (Value.bool false))
    refine wpAnyH_take (i := 22) (v := ?_) rfl (by kernel_rfl) (by kernel_rfl) (by kernel_rfl) (fun _ _ _ h => h) (Or.inl ⟨by rfl, ?_⟩) (by assumption) ?_
    rotate_left
    · intro w hSw; go_simp; try with_reducible rfl
    try simp only [Act.put, List.setIfInBounds_toArray, List.set_cons_zero, List.set_cons_succ, List.getElem_toArray, List.getElem_cons_zero, List.getElem_cons_succ]
    refine wpAnyH_done (by kernel_rfl) ?_ _
    have hb1' : Below w.heap.size w w1' := below_then hb1 hbd1
    have HRC1' := Lib.hid (HRC1.out.below hbd1)
    clear hs2_1 hs3_1 hown1 hbc1 hS1 hT1 hbd1
    go_wp2_with fail
    refine (vgetInt_some Ac bs bs.length cc (k : Int) v e' _ rfl (by omega) (by omega) (by omega) HRC1'.out G.out).mono ?_
    rintro e w2 ⟨rfl, rfl⟩
    have hb2 := hb1'
    have HRC2 := HRC1'
    have CUT2 := CUT1
    have MM2 := MM1
    have HA2_2 := HA2_1
    have hcut2 := hcut1
    have hs2_2 := string_rule (HA2_2.out _ bs rfl (HR.out.below hb2)) m1 (c - k) (by rw [CUT2.out]; exact MM2.out)
    rw [CUT2.out] at hs2_2
    go_wp2
    have hS2 : Below w1'.heap.size w1' w1'.drew := (Below.refl _ _).drew
    refine wp_region_held_drew (S := fun w' => Below w1'.heap.size w1' w') (by kernel_rfl) hS2 (fun _ => ?_)
    -- 0: slot 57 := Op.move t9
    refine wpAnyH_take (i := 0) (v := ?_) rfl (by kernel_rfl) (by kernel_rfl) (by kernel_rfl) (fun _ _ _ h => h) (Or.inl ⟨by rfl, ?_⟩) (by assumption) ?_
    rotate_left
    · intro w hSw; go_simp; try with_reducible rfl
    try simp only [Act.put, List.setIfInBounds_toArray, List.set_cons_zero, List.set_cons_succ, List.getElem_toArray, List.getElem_cons_zero, List.getElem_cons_succ]
    -- 1: slot 58 := Op.move t57
    refine wpAnyH_take (i := 1) (v := ?_) rfl (by kernel_rfl) (by kernel_rfl) (by kernel_rfl) (fun _ _ _ h => h) (Or.inl ⟨by rfl, ?_⟩) (by assumption) ?_
    rotate_left
    · intro w hSw; go_simp; try with_reducible rfl
    try simp only [Act.put, List.setIfInBounds_toArray, List.set_cons_zero, List.set_cons_succ, List.getElem_toArray, List.getElem_cons_zero, List.getElem_cons_succ]
    -- 2: slot 59 := Op.move t8 [guarded: some (1, true)]
    refine wpAnyH_take (i := 2) (v := ?_) rfl (by kernel_rfl) (by kernel_rfl) (by kernel_rfl) (fun _ _ _ h => h) (Or.inl ⟨by rfl, ?_⟩) (by assumption) ?_
    rotate_left
    · intro w hSw; go_simp; try with_reducible rfl
    try simp only [Act.put, List.setIfInBounds_toArray, List.set_cons_zero, List.set_cons_succ, List.getElem_toArray, List.getElem_cons_zero, List.getElem_cons_succ]
    -- 3: slot 60 := Op.move t5 [guarded: some (1, true)]
    refine wpAnyH_take (i := 3) (v := ?_) rfl (by kernel_rfl) (by kernel_rfl) (by kernel_rfl) (fun _ _ _ h => h) (Or.inl ⟨by rfl, ?_⟩) (by assumption) ?_
    rotate_left
    · intro w hSw; go_simp; try with_reducible rfl
    try simp only [Act.put, List.setIfInBounds_toArray, List.set_cons_zero, List.set_cons_succ, List.getElem_toArray, List.getElem_cons_zero, List.getElem_cons_succ]
    -- 4: slot 61 := Op.binOp BinOp.leq 3 t59 t60 3 [guarded: some (1, true)]
    refine wpAnyH_take (i := 4) (v := ?_) rfl (by kernel_rfl) (by kernel_rfl) (by kernel_rfl) (fun _ _ _ h => h) (Or.inl ⟨by rfl, ?_⟩) (by assumption) ?_
    rotate_left
    · intro w hSw; go_simp; try with_reducible rfl
    try simp only [Act.put, List.setIfInBounds_toArray, List.set_cons_zero, List.set_cons_succ, List.getElem_toArray, List.getElem_cons_zero, List.getElem_cons_succ]
    -- 5: slot 62 := Op.move t61 [guarded: some (1, true)]
    refine wpAnyH_take (i := 5) (v := ?_) rfl (by kernel_rfl) (by kernel_rfl) (by kernel_rfl) (fun _ _ _ h => h) (Or.inl ⟨by rfl, ?_⟩) (by assumption) ?_
    rotate_left
    · intro w hSw; go_simp; try with_reducible rfl
    try simp only [Act.put, List.setIfInBounds_toArray, List.set_cons_zero, List.set_cons_succ, List.getElem_toArray, List.getElem_cons_zero, List.getElem_cons_succ]
    -- 6: slot 63 := Op.move t8 [guarded: some (5, false)]
    refine wpAnyH_take (i := 6) (v := ?_) rfl (by kernel_rfl) (by kernel_rfl) (by kernel_rfl) (fun _ _ _ h => h) (Or.inl ⟨by rfl, ?_⟩) (by assumption) ?_
    rotate_left
    · intro w hSw; go_simp; try with_reducible rfl
    try simp only [Act.put, List.setIfInBounds_toArray, List.set_cons_zero, List.set_cons_succ, List.getElem_toArray, List.getElem_cons_zero, List.getElem_cons_succ]
    -- 7: slot 64 := Op.move t0 [guarded: some (5, false)]
    refine wpAnyH_take (i := 7) (v := ?_) rfl (by kernel_rfl) (by kernel_rfl) (by kernel_rfl) (fun _ _ _ h => h) (Or.inl ⟨by rfl, ?_⟩) (by assumption) ?_
    rotate_left
    · intro w hSw; go_simp; try with_reducible rfl
    try simp only [Act.put, List.setIfInBounds_toArray, List.set_cons_zero, List.set_cons_succ, List.getElem_toArray, List.getElem_cons_zero, List.getElem_cons_succ]
    -- 8: slot 65 := Op.call { builtin len, args := #[t64], argTypes := #[23] } [guarded: some (
    refine wpAnyH_take (i := 8) (v := ?_) rfl (by kernel_rfl) (by kernel_rfl) (by kernel_rfl) (fun _ _ _ h => h) (Or.inl ⟨by rfl, ?_⟩) (by assumption) ?_
    rotate_left
    · intro w hSw; go_simp; try with_reducible rfl
    try simp only [Act.put, List.setIfInBounds_toArray, List.set_cons_zero, List.set_cons_succ, List.getElem_toArray, List.getElem_cons_zero, List.getElem_cons_succ]
    -- 9: slot 66 := Op.binOp BinOp.gtr 3 t63 t65 3 [guarded: some (5, false)]
    refine wpAnyH_take (i := 9) (v := ?_) rfl (by kernel_rfl) (by kernel_rfl) (by kernel_rfl) (fun _ _ _ h => h) (Or.inl ⟨by rfl, ?_⟩) (by assumption) ?_
    rotate_left
    · intro w hSw; go_simp; try with_reducible rfl
    try simp only [Act.put, List.setIfInBounds_toArray, List.set_cons_zero, List.set_cons_succ, List.getElem_toArray, List.getElem_cons_zero, List.getElem_cons_succ]
    -- 10: slot 67 := Op.pick t62 (const (Value.bool true)) t66 [guarded: some (1, true)]
    refine wpAnyH_take (i := 10) (v := ?_) rfl (by kernel_rfl) (by kernel_rfl) (by kernel_rfl) (fun _ _ _ h => h) (Or.inl ⟨by rfl, ?_⟩) (by assumption) ?_
    rotate_left
    · intro w hSw; go_simp; try with_reducible rfl
    try simp only [Act.put, List.setIfInBounds_toArray, List.set_cons_zero, List.set_cons_succ, List.getElem_toArray, List.getElem_cons_zero, List.getElem_cons_succ]
    -- 11: slot 68 := Op.move t67 [guarded: some (1, true)]
    refine wpAnyH_take (i := 11) (v := ?_) rfl (by kernel_rfl) (by kernel_rfl) (by kernel_rfl) (fun _ _ _ h => h) (Or.inl ⟨by rfl, ?_⟩) (by assumption) ?_
    rotate_left
    · intro w hSw; go_simp; try with_reducible rfl
    try simp only [Act.put, List.setIfInBounds_toArray, List.set_cons_zero, List.set_cons_succ, List.getElem_toArray, List.getElem_cons_zero, List.getElem_cons_succ]
    -- 12: slot 69 := Op.move t10 [guarded: some (11, false)]
    refine wpAnyH_take (i := 12) (v := ?_) rfl (by kernel_rfl) (by kernel_rfl) (by kernel_rfl) (fun _ _ _ h => h) (Or.inl ⟨by rfl, ?_⟩) (by assumption) ?_
    rotate_left
    · intro w hSw; go_simp; try with_reducible rfl
    try simp only [Act.put, List.setIfInBounds_toArray, List.set_cons_zero, List.set_cons_succ, List.getElem_toArray, List.getElem_cons_zero, List.getElem_cons_succ]
    -- 15: slot 72 := Op.move t0 [guarded: some (11, false)]
    refine wpAnyH_take (i := 15) (v := ?_) rfl (by kernel_rfl) (by kernel_rfl) (by kernel_rfl) (fun _ _ _ h => h) (Or.inl ⟨by rfl, ?_⟩) (by assumption) ?_
    rotate_left
    · intro w hSw; go_simp; try with_reducible rfl
    try simp only [Act.put, List.setIfInBounds_toArray, List.set_cons_zero, List.set_cons_succ, List.getElem_toArray, List.getElem_cons_zero, List.getElem_cons_succ]
    -- 16: slot 73 := Op.move t5 [guarded: some (11, false)]
    refine wpAnyH_take (i := 16) (v := ?_) rfl (by kernel_rfl) (by kernel_rfl) (by kernel_rfl) (fun _ _ _ h => h) (Or.inl ⟨by rfl, ?_⟩) (by assumption) ?_
    rotate_left
    · intro w hSw; go_simp; try with_reducible rfl
    try simp only [Act.put, List.setIfInBounds_toArray, List.set_cons_zero, List.set_cons_succ, List.getElem_toArray, List.getElem_cons_zero, List.getElem_cons_succ]
    -- 17: slot 74 := Op.move t8 [guarded: some (11, false)]
    refine wpAnyH_take (i := 17) (v := ?_) rfl (by kernel_rfl) (by kernel_rfl) (by kernel_rfl) (fun _ _ _ h => h) (Or.inl ⟨by rfl, ?_⟩) (by assumption) ?_
    rotate_left
    · intro w hSw; go_simp; try with_reducible rfl
    try simp only [Act.put, List.setIfInBounds_toArray, List.set_cons_zero, List.set_cons_succ, List.getElem_toArray, List.getElem_cons_zero, List.getElem_cons_succ]
    -- 18: slot 75 := Op.slice 23 t72 (some t73) (some t74) none [guarded: some (11, false)]
    refine wpAnyH_take (i := 18) (v := ?_) rfl (by kernel_rfl) (by kernel_rfl) (by kernel_rfl) (fun _ _ _ h => h) (Or.inl ⟨by rfl, ?_⟩) (by assumption) ?_
    rotate_left
    · intro w hSw; go_simp; try with_reducible rfl
    try simp only [Act.put, List.setIfInBounds_toArray, List.set_cons_zero, List.set_cons_succ, List.getElem_toArray, List.getElem_cons_zero, List.getElem_cons_succ]
    -- 19: slot 76 := Op.convert 23 9 t75 [guarded: some (11, false)]
    refine wpAnyH_take (i := 19) (v := ?_) rfl (by kernel_rfl) (by kernel_rfl) (by kernel_rfl) (fun _ _ _ h => h) (Or.inl ⟨by rfl, ?_⟩) (by assumption) ?_
    rotate_left
    · intro w hSw; go_simp; try with_reducible rfl
    try simp only [Act.put, List.setIfInBounds_toArray, List.set_cons_zero, List.set_cons_succ, List.getElem_toArray, List.getElem_cons_zero, List.getElem_cons_succ]
    -- 13: slot 70 := Op.call { value (Operand.func 18), args := #[const (Value.slice none 0 0), t6
    refine wpAnyH_ready (rs := [13]) (by kernel_rfl) (by simp) ?_
    refine AllReadyH.cons rfl (fun K hK => ?_) AllReadyH.nil
    go_simp
    refine (vputInt_nil v m1 _ HV.out MM1.out).mono ?_
    rintro e w2' ⟨A2, c2, rfl, hown2, hbc2⟩
    have hs3_2 := string_rule hown2.reads m1 c2 MM2.out
    have hbd2 := below_then hS2 hbc2
    replace hs2_2 : ∀ W : World, Below w2'.heap.size w2' W → _ := fun W hW => hs2_2 W (below_then hbd2 hW)
    refine hK.out _ _ hbd2 (fun hHeld => ?_)
    clear hK K
    refine wpAnyH_mono (S' := fun w' => Below w2'.heap.size w2' w') (fun W h => below_then hbd2 h) _ ?_
    have hT2 : Below w2'.heap.size w2' w2' := Below.refl _ _
    try simp only [Act.put, List.setIfInBounds_toArray, List.set_cons_zero, List.set_cons_succ, List.getElem_toArray, List.getElem_cons_zero, List.getElem_cons_succ]
    -- 14: slot 71 := Op.convert 23 9 t70 [guarded: some (11, false)]
    refine wpAnyH_take (i := 14) (v := ?_) rfl (by kernel_rfl) (by kernel_rfl) (by kernel_rfl) (fun _ _ _ h => h) (Or.inl ⟨by rfl, ?_⟩) (by assumption) ?_
    rotate_left
    · intro w hSw; go_simp; try with_reducible rfl
    try simp only [Act.put, List.setIfInBounds_toArray, List.set_cons_zero, List.set_cons_succ, List.getElem_toArray, List.getElem_cons_zero, List.getElem_cons_succ]
    -- 20: slot 77 := Op.binOp BinOp.neq 9 t71 t76 9 [guarded: some (11, false)]
    refine wpAnyH_take (i := 20) (v := ?_) rfl (by kernel_rfl) (by kernel_rfl) (by kernel_rfl) (fun _ _ _ h => h) (Or.inl ⟨by rfl, ?_⟩) (by assumption) ?_
    rotate_left
    · intro w hSw; go_simp; try with_reducible rfl
    try simp only [Act.put, List.setIfInBounds_toArray, List.set_cons_zero, List.set_cons_succ, List.getElem_toArray, List.getElem_cons_zero, List.getElem_cons_succ]
    -- 21: slot 78 := Op.pick t68 (const (Value.bool true)) t77 [guarded: some (1, true)]
    refine wpAnyH_take (i := 21) (v := ?_) rfl (by kernel_rfl) (by kernel_rfl) (by kernel_rfl) (fun _ _ _ h => h) (Or.inl ⟨by rfl, ?_⟩) (by assumption) ?_
    rotate_left
    · intro w hSw; go_simp; try with_reducible rfl
    try simp only [Act.put, List.setIfInBounds_toArray, List.set_cons_zero, List.set_cons_succ, List.getElem_toArray, List.getElem_cons_zero, List.getElem_cons_succ]
    -- 22: slot 79 := Op.pick t58 t78 (const (Value.bool false))
    refine wpAnyH_take (i := 22) (v := ?_) rfl (by kernel_rfl) (by kernel_rfl) (by kernel_rfl) (fun _ _ _ h => h) (Or.inl ⟨by rfl, ?_⟩) (by assumption) ?_
    rotate_left
    · intro w hSw; go_simp; try with_reducible rfl
    try simp only [Act.put, List.setIfInBounds_toArray, List.set_cons_zero, List.set_cons_succ, List.getElem_toArray, List.getElem_cons_zero, List.getElem_cons_succ]
    refine wpAnyH_done (by kernel_rfl) ?_ _
    have hb2' : Below w.heap.size w w2' := below_then hb2 hbd2
    have HRC2' := Lib.hid (HRC2.out.below hbd2)
    clear hs2_2 hs3_2 hown2 hbc2 hS2 hT2 hbd2
    rcases hX : getText bs (k : Int) 1073741824 with _ | ⟨s, e3⟩
    · have GT := Lib.hid hX
      clear hX
      go_wp2_with fail
      refine (vgetText_none Ac bs bs.length cc (k : Int) 1073741824 _ rfl (by omega) (by omega) (by omega) (by omega) (by omega) HRC2'.out GT.out).mono ?_
      rintro e w2 ⟨rfl, rfl⟩
      go_wp2
      go_quiet (fail)
      rcases hR : getRise bs (k : Int) 1073741824 with _ | ⟨l, e4⟩
      · have GR := Lib.hid hR
        clear hR
        go_wp2_with fail
        refine (vgetRise_none Ac bs bs.length cc (k : Int) 1073741824 _ rfl (by omega) (.inr (by omega)) (by omega) (by omega) (by omega) (by omega) (by first | exact HRC2'.out | exact HRC2'.out.drew | exact HRC2'.out.drewN _) GR.out).mono ?_
        rintro e w5 ⟨rfl, hb5'⟩
        have hb5 : Below w.heap.size w w5 := below_then (by first | exact hb2' | exact Below.drew hb2' | exact below_drewN hb2' _) hb5'
        have HRC5 : Hid (ReadsB w5 Ac bs) := Reads.below (show ReadsB _ Ac bs from (by first | exact HRC2'.out | exact HRC2'.out.drew | exact HRC2'.out.drewN _)) hb5'
        have hsA : ∀ n : Nat, (convert 23 9 (.slice Ac bs.length cc)).run Try.prog (w5.drewN n) = .ok (.string (strOf bs)) (w5.drewN n) := fun n => string_rule (HRC5.out.drewN n) bs.length cc rfl _ (Below.refl _ _)
        have hsB : ∀ n : Nat, (convert 23 9 (.slice A bs.length c)).run Try.prog (w5.drewN n) = .ok (.string (strOf bs)) (w5.drewN n) := fun n => string_rule ((HR.out.below hb5).drewN n) bs.length c rfl _ (Below.refl _ _)
        go_wp2
        go_quiet (fail)
        go_wp2_with fail
        refine (vawake_any _).mono ?_
        rintro e wz ⟨rfl, hbz'⟩
        have hbz := below_then (below_drewN hb5 _) hbz'
        go_wp2
        go_ret
        exact ⟨rfl, hbz⟩
      · have GR := Lib.hid hR
        obtain ⟨r1, r2, r3, r4, hcutlaw4⟩ := getRise_back hR
        have HLT := Lib.hid r4
        have r5 : (l.length : Int) ≤ 1073741824 := by omega
        clear hR r4
        obtain ⟨m4, hm4⟩ : ∃ m, e4 - k = m := ⟨_, rfl⟩
        obtain ⟨A2_4, hcut4, HA2_4⟩ := cut_midB (P := Try.prog) 23 5 Try.underlying23 binfo A bs.length c k e4 (k : Int) (e4 : Int) rfl rfl (by omega) (by omega) hc
        rw [hm4] at hcut4 HA2_4 hcutlaw4
        have CUT4 := Lib.hid hcutlaw4
        have MM4 : Hid ((encRise l).length = m4) := by
          show _ = _
          rw [← hcutlaw4, List.length_take, List.length_drop]
          omega
        have d1_4 : decide (e4 ≤ k) = false := by rw [decide_eq_false_iff_not]; omega
        have d2_4 : decide (bs.length < e4) = false := by rw [decide_eq_false_iff_not]; omega
        clear hcutlaw4 hm4
        go_wp2_with fail
        refine (vgetRise_some Ac bs bs.length cc (k : Int) 1073741824 l l.length e4 _ rfl rfl (by omega) (.inr (by omega)) (by omega) (by omega) (by omega) (by omega) (by first | exact HRC2'.out | exact HRC2'.out.drew | exact HRC2'.out.drewN _) GR.out).mono ?_
        rintro e w5 ⟨A7, c7, rfl, hown7, hb5'⟩
        have hb5 : Below w.heap.size w w5 := below_then (by first | exact hb2' | exact Below.drew hb2' | exact below_drewN hb2' _) hb5'
        have HRC5 : Hid (ReadsB w5 Ac bs) := Reads.below (show ReadsB _ Ac bs from (by first | exact HRC2'.out | exact HRC2'.out.drew | exact HRC2'.out.drewN _)) hb5'
        have HR7 := Lib.hid hown7.reads
        clear hown7
        have hb4 := hb5
        have HRC4 := HRC5
        have hs2_4 := string_rule (HA2_4.out _ bs rfl (HR.out.below hb4)) m4 (c - k) (by rw [CUT4.out]; exact MM4.out)
        rw [CUT4.out] at hs2_4
        go_wp2
        have hS4 : Below w5.heap.size w5 w5.drew := (Below.refl _ _).drew
        refine wp_region_held_drew (S := fun w' => Below w5.heap.size w5 w') (by kernel_rfl) hS4 (fun _ => ?_)
        -- 0: slot 117 := Op.move t9
        refine wpAnyH_take (i := 0) (v := ?_) rfl (by kernel_rfl) (by kernel_rfl) (by kernel_rfl) (fun _ _ _ h => h) (Or.inl ⟨by rfl, ?_⟩) (by assumption) ?_
        rotate_left
        · intro w hSw; go_simp; try with_reducible rfl
        try simp only [Act.put, List.setIfInBounds_toArray, List.set_cons_zero, List.set_cons_succ, List.getElem_toArray, List.getElem_cons_zero, List.getElem_cons_succ]
        -- 1: slot 118 := Op.move t117
        refine wpAnyH_take (i := 1) (v := ?_) rfl (by kernel_rfl) (by kernel_rfl) (by kernel_rfl) (fun _ _ _ h => h) (Or.inl ⟨by rfl, ?_⟩) (by assumption) ?_
        rotate_left
        · intro w hSw; go_simp; try with_reducible rfl
        try simp only [Act.put, List.setIfInBounds_toArray, List.set_cons_zero, List.set_cons_succ, List.getElem_toArray, List.getElem_cons_zero, List.getElem_cons_succ]
        -- 2: slot 119 := Op.move t8 [guarded: some (1, true)]
        refine wpAnyH_take (i := 2) (v := ?_) rfl (by kernel_rfl) (by kernel_rfl) (by kernel_rfl) (fun _ _ _ h => h) (Or.inl ⟨by rfl, ?_⟩) (by assumption) ?_
        rotate_left
        · intro w hSw; go_simp; try with_reducible rfl
        try simp only [Act.put, List.setIfInBounds_toArray, List.set_cons_zero, List.set_cons_succ, List.getElem_toArray, List.getElem_cons_zero, List.getElem_cons_succ]
        -- 3: slot 120 := Op.move t5 [guarded: some (1, true)]
        refine wpAnyH_take (i := 3) (v := ?_) rfl (by kernel_rfl) (by kernel_rfl) (by kernel_rfl) (fun _ _ _ h => h) (Or.inl ⟨by rfl, ?_⟩) (by assumption) ?_
        rotate_left
        · intro w hSw; go_simp; try with_reducible rfl
        try simp only [Act.put, List.setIfInBounds_toArray, List.set_cons_zero, List.set_cons_succ, List.getElem_toArray, List.getElem_cons_zero, List.getElem_cons_succ]
        -- 4: slot 121 := Op.binOp BinOp.leq 3 t119 t120 3 [guarded: some (1, true)]
        refine wpAnyH_take (i := 4) (v := ?_) rfl (by kernel_rfl) (by kernel_rfl) (by kernel_rfl) (fun _ _ _ h => h) (Or.inl ⟨by rfl, ?_⟩) (by assumption) ?_
        rotate_left
        · intro w hSw; go_simp; try with_reducible rfl
        try simp only [Act.put, List.setIfInBounds_toArray, List.set_cons_zero, List.set_cons_succ, List.getElem_toArray, List.getElem_cons_zero, List.getElem_cons_succ]
        -- 5: slot 122 := Op.move t121 [guarded: some (1, true)]
        refine wpAnyH_take (i := 5) (v := ?_) rfl (by kernel_rfl) (by kernel_rfl) (by kernel_rfl) (fun _ _ _ h => h) (Or.inl ⟨by rfl, ?_⟩) (by assumption) ?_
        rotate_left
        · intro w hSw; go_simp; try with_reducible rfl
        try simp only [Act.put, List.setIfInBounds_toArray, List.set_cons_zero, List.set_cons_succ, List.getElem_toArray, List.getElem_cons_zero, List.getElem_cons_succ]
        -- 6: slot 123 := Op.move t8 [guarded: some (5, false)]
        refine wpAnyH_take (i := 6) (v := ?_) rfl (by kernel_rfl) (by kernel_rfl) (by kernel_rfl) (fun _ _ _ h => h) (Or.inl ⟨by rfl, ?_⟩) (by assumption) ?_
        rotate_left
        · intro w hSw; go_simp; try with_reducible rfl
        try simp only [Act.put, List.setIfInBounds_toArray, List.set_cons_zero, List.set_cons_succ, List.getElem_toArray, List.getElem_cons_zero, List.getElem_cons_succ]
        -- 7: slot 124 := Op.move t0 [guarded: some (5, false)]
        refine wpAnyH_take (i := 7) (v := ?_) rfl (by kernel_rfl) (by kernel_rfl) (by kernel_rfl) (fun _ _ _ h => h) (Or.inl ⟨by rfl, ?_⟩) (by assumption) ?_
        rotate_left
        · intro w hSw; go_simp; try with_reducible rfl
        try simp only [Act.put, List.setIfInBounds_toArray, List.set_cons_zero, List.set_cons_succ, List.getElem_toArray, List.getElem_cons_zero, List.getElem_cons_succ]
        -- 8: slot 125 := Op.call { builtin len, args := #[t124], argTypes := #[23] } [guarded: some 
        refine wpAnyH_take (i := 8) (v := ?_) rfl (by kernel_rfl) (by kernel_rfl) (by kernel_rfl) (fun _ _ _ h => h) (Or.inl ⟨by rfl, ?_⟩) (by assumption) ?_
        rotate_left
        · intro w hSw; go_simp; try with_reducible rfl
        try simp only [Act.put, List.setIfInBounds_toArray, List.set_cons_zero, List.set_cons_succ, List.getElem_toArray, List.getElem_cons_zero, List.getElem_cons_succ]
        -- 9: slot 126 := Op.binOp BinOp.gtr 3 t123 t125 3 [guarded: some (5, false)]
        refine wpAnyH_take (i := 9) (v := ?_) rfl (by kernel_rfl) (by kernel_rfl) (by kernel_rfl) (fun _ _ _ h => h) (Or.inl ⟨by rfl, ?_⟩) (by assumption) ?_
        rotate_left
        · intro w hSw; go_simp; try with_reducible rfl
        try simp only [Act.put, List.setIfInBounds_toArray, List.set_cons_zero, List.set_cons_succ, List.getElem_toArray, List.getElem_cons_zero, List.getElem_cons_succ]
        -- 10: slot 127 := Op.pick t122 (const (Value.bool true)) t126 [guarded: some (1, true)]
        refine wpAnyH_take (i := 10) (v := ?_) rfl (by kernel_rfl) (by kernel_rfl) (by kernel_rfl) (fun _ _ _ h => h) (Or.inl ⟨by rfl, ?_⟩) (by assumption) ?_
        rotate_left
        · intro w hSw; go_simp; try with_reducible rfl
        try simp only [Act.put, List.setIfInBounds_toArray, List.set_cons_zero, List.set_cons_succ, List.getElem_toArray, List.getElem_cons_zero, List.getElem_cons_succ]
        -- 11: slot 128 := Op.move t127 [guarded: some (1, true)]
        refine wpAnyH_take (i := 11) (v := ?_) rfl (by kernel_rfl) (by kernel_rfl) (by kernel_rfl) (fun _ _ _ h => h) (Or.inl ⟨by rfl, ?_⟩) (by assumption) ?_
        rotate_left
        · intro w hSw; go_simp; try with_reducible rfl
        try simp only [Act.put, List.setIfInBounds_toArray, List.set_cons_zero, List.set_cons_succ, List.getElem_toArray, List.getElem_cons_zero, List.getElem_cons_succ]
        -- 12: slot 129 := Op.move t12 [guarded: some (11, false)]
        refine wpAnyH_take (i := 12) (v := ?_) rfl (by kernel_rfl) (by kernel_rfl) (by kernel_rfl) (fun _ _ _ h => h) (Or.inl ⟨by rfl, ?_⟩) (by assumption) ?_
        rotate_left
        · intro w hSw; go_simp; try with_reducible rfl
        try simp only [Act.put, List.setIfInBounds_toArray, List.set_cons_zero, List.set_cons_succ, List.getElem_toArray, List.getElem_cons_zero, List.getElem_cons_succ]
        -- 15: slot 132 := Op.move t0 [guarded: some (11, false)]
        refine wpAnyH_take (i := 15) (v := ?_) rfl (by kernel_rfl) (by kernel_rfl) (by kernel_rfl) (fun _ _ _ h => h) (Or.inl ⟨by rfl, ?_⟩) (by assumption) ?_
        rotate_left
        · intro w hSw; go_simp; try with_reducible rfl
        try simp only [Act.put, List.setIfInBounds_toArray, List.set_cons_zero, List.set_cons_succ, List.getElem_toArray, List.getElem_cons_zero, List.getElem_cons_succ]
        -- 16: slot 133 := Op.move t5 [guarded: some (11, false)]
        refine wpAnyH_take (i := 16) (v := ?_) rfl (by kernel_rfl) (by kernel_rfl) (by kernel_rfl) (fun _ _ _ h => h) (Or.inl ⟨by rfl, ?_⟩) (by assumption) ?_
        rotate_left
        · intro w hSw; go_simp; try with_reducible rfl
        try simp only [Act.put, List.setIfInBounds_toArray, List.set_cons_zero, List.set_cons_succ, List.getElem_toArray, List.getElem_cons_zero, List.getElem_cons_succ]
        -- 17: slot 134 := Op.move t8 [guarded: some (11, false)]
        refine wpAnyH_take (i := 17) (v := ?_) rfl (by kernel_rfl) (by kernel_rfl) (by kernel_rfl) (fun _ _ _ h => h) (Or.inl ⟨by rfl, ?_⟩) (by assumption) ?_
        rotate_left
        · intro w hSw; go_simp; try with_reducible rfl
        try simp only [Act.put, List.setIfInBounds_toArray, List.set_cons_zero, List.set_cons_succ, List.getElem_toArray, List.getElem_cons_zero, List.getElem_cons_succ]
        -- 18: slot 135 := Op.slice 23 t132 (some t133) (some t134) none [guarded: some (11, false)]
        refine wpAnyH_take (i := 18) (v := ?_) rfl (by kernel_rfl) (by kernel_rfl) (by kernel_rfl) (fun _ _ _ h => h) (Or.inl ⟨by rfl, ?_⟩) (by assumption) ?_
        rotate_left
        · intro w hSw; go_simp; try with_reducible rfl
        try simp only [Act.put, List.setIfInBounds_toArray, List.set_cons_zero, List.set_cons_succ, List.getElem_toArray, List.getElem_cons_zero, List.getElem_cons_succ]
        -- 19: slot 136 := Op.convert 23 9 t135 [guarded: some (11, false)]
        refine wpAnyH_take (i := 19) (v := ?_) rfl (by kernel_rfl) (by kernel_rfl) (by kernel_rfl) (fun _ _ _ h => h) (Or.inl ⟨by rfl, ?_⟩) (by assumption) ?_
        rotate_left
        · intro w hSw; go_simp; try with_reducible rfl
        try simp only [Act.put, List.setIfInBounds_toArray, List.set_cons_zero, List.set_cons_succ, List.getElem_toArray, List.getElem_cons_zero, List.getElem_cons_succ]
        -- 13: slot 130 := Op.call { value (Operand.func 26), args := #[const (Value.slice none 0 0), t1
        refine wpAnyH_ready (rs := [13]) (by kernel_rfl) (by simp) ?_
        refine AllReadyH.cons rfl (fun K hK => ?_) AllReadyH.nil
        go_simp
        refine (vputRise_nil A7 l l.length c7 m4 _ rfl MM4.out (by omega) HR7.out.drew HLT.out).mono ?_
        rintro e w4' ⟨A4, c4, rfl, hown4, hbc4⟩
        have hs3_4 := string_rule hown4.reads m4 c4 MM4.out
        have hbd4 := below_then hS4 hbc4
        replace hs2_4 : ∀ W : World, Below w4'.heap.size w4' W → _ := fun W hW => hs2_4 W (below_then hbd4 hW)
        refine hK.out _ _ hbd4 (fun hHeld => ?_)
        clear hK K
        refine wpAnyH_mono (S' := fun w' => Below w4'.heap.size w4' w') (fun W h => below_then hbd4 h) _ ?_
        have hT4 : Below w4'.heap.size w4' w4' := Below.refl _ _
        try simp only [Act.put, List.setIfInBounds_toArray, List.set_cons_zero, List.set_cons_succ, List.getElem_toArray, List.getElem_cons_zero, List.getElem_cons_succ]
        -- 14: slot 131 := Op.convert 23 9 t130 [guarded: some (11, false)]
        refine wpAnyH_take (i := 14) (v := ?_) rfl (by kernel_rfl) (by kernel_rfl) (by kernel_rfl) (fun _ _ _ h => h) (Or.inl ⟨by rfl, ?_⟩) (by assumption) ?_
        rotate_left
        · intro w hSw; go_simp; try with_reducible rfl
        try simp only [Act.put, List.setIfInBounds_toArray, List.set_cons_zero, List.set_cons_succ, List.getElem_toArray, List.getElem_cons_zero, List.getElem_cons_succ]
        -- 20: slot 137 := Op.binOp BinOp.neq 9 t131 t136 9 [guarded: some (11, false)]
        refine wpAnyH_take (i := 20) (v := ?_) rfl (by kernel_rfl) (by kernel_rfl) (by kernel_rfl) (fun _ _ _ h => h) (Or.inl ⟨by rfl, ?_⟩) (by assumption) ?_
        rotate_left
        · intro w hSw; go_simp; try with_reducible rfl
        try simp only [Act.put, List.setIfInBounds_toArray, List.set_cons_zero, List.set_cons_succ, List.getElem_toArray, List.getElem_cons_zero, List.getElem_cons_succ]
        -- 21: slot 138 := Op.pick t128 (const (Value.bool true)) t137 [guarded: some (1, true)]
        refine wpAnyH_take (i := 21) (v := ?_) rfl (by kernel_rfl) (by kernel_rfl) (by kernel_rfl) (fun _ _ _ h => h) (Or.inl ⟨by rfl, ?_⟩) (by assumption) ?_
        rotate_left
        · intro w hSw; go_simp; try with_reducible rfl
        try simp only [Act.put, List.setIfInBounds_toArray, List.set_cons_zero, List.set_cons_succ, List.getElem_toArray, List.getElem_cons_zero, List.getElem_cons_succ]
        -- 22: slot 139 := Op.pick t118 t138 (const (Value.bool false))
        refine wpAnyH_take (i := 22) (v := ?_) rfl (by kernel_rfl) (by kernel_rfl) (by kernel_rfl) (fun _ _ _ h => h) (Or.inl ⟨by rfl, ?_⟩) (by assumption) ?_
        rotate_left
        · intro w hSw; go_simp; try with_reducible rfl
        try simp only [Act.put, List.setIfInBounds_toArray, List.set_cons_zero, List.set_cons_succ, List.getElem_toArray, List.getElem_cons_zero, List.getElem_cons_succ]
        refine wpAnyH_done (by kernel_rfl) ?_ _
        have hb4' : Below w.heap.size w w4' := below_then hb4 hbd4
        have HRC4' := Lib.hid (HRC4.out.below hbd4)
        clear hs2_4 hs3_4 hown4 hbc4 hS4 hT4 hbd4
        have hsA : ∀ n : Nat, (convert 23 9 (.slice Ac bs.length cc)).run Try.prog (w4'.drewN n) = .ok (.string (strOf bs)) (w4'.drewN n) := fun n => string_rule (HRC4'.out.drewN n) bs.length cc rfl _ (Below.refl _ _)
        have hsB : ∀ n : Nat, (convert 23 9 (.slice A bs.length c)).run Try.prog (w4'.drewN n) = .ok (.string (strOf bs)) (w4'.drewN n) := fun n => string_rule ((HR.out.below hb4').drewN n) bs.length c rfl _ (Below.refl _ _)
        replace hsA := hsA 0
        replace hsB := hsB 0
        simp only [World.drewN_zero] at hsA hsB
        go_wp2_with fail
        refine (vawake_any _).mono ?_
        rintro e wz ⟨rfl, hbz'⟩
        have hbz := below_then hb4' hbz'
        go_wp2
        go_ret
        exact ⟨rfl, hbz⟩
    · have GT := Lib.hid hX
      obtain ⟨t1, t2, t3, t4, hcutlaw3⟩ := getText_back hX
      have hts : (strOf s).data.toList = s := rfl
      have hss : (strOf s).size = s.length := strOf_size s
      clear hX
      obtain ⟨m3, hm3⟩ : ∃ m, e3 - k = m := ⟨_, rfl⟩
      obtain ⟨A2_3, hcut3, HA2_3⟩ := cut_midB (P := Try.prog) 23 5 Try.underlying23 binfo A bs.length c k e3 (k : Int) (e3 : Int) rfl rfl (by omega) (by omega) hc
      rw [hm3] at hcut3 HA2_3 hcutlaw3
      have CUT3 := Lib.hid hcutlaw3
      have MM3 : Hid ((encText s).length = m3) := by
        show _ = _
        rw [← hcutlaw3, List.length_take, List.length_drop]
        omega
      have d1_3 : decide (e3 ≤ k) = false := by rw [decide_eq_false_iff_not]; omega
      have d2_3 : decide (bs.length < e3) = false := by rw [decide_eq_false_iff_not]; omega
      clear hcutlaw3 hm3
      go_wp2_with fail
      refine (vgetText_some Ac bs bs.length cc (k : Int) 1073741824 s e3 _ rfl (by omega) hcc (by omega) (by omega) (by omega) (by omega) HRC2'.out GT.out).mono ?_
      rintro e w2 ⟨rfl, rfl⟩
      have hb3 := hb2'
      have HRC3 := HRC2'
      have hs2_3 := string_rule (HA2_3.out _ bs rfl (HR.out.below hb3)) m3 (c - k) (by rw [CUT3.out]; exact MM3.out)
      rw [CUT3.out] at hs2_3
      go_wp2
      have hS3 : Below w2'.heap.size w2' w2'.drew := (Below.refl _ _).drew
      refine wp_region_held_drew (S := fun w' => Below w2'.heap.size w2' w') (by kernel_rfl) hS3 (fun _ => ?_)
      -- 0: slot 87 := Op.move t9
      refine wpAnyH_take (i := 0) (v := ?_) rfl (by kernel_rfl) (by kernel_rfl) (by kernel_rfl) (fun _ _ _ h => h) (Or.inl ⟨by rfl, ?_⟩) (by assumption) ?_
      rotate_left
      · intro w hSw; go_simp; try with_reducible rfl
      try simp only [Act.put, List.setIfInBounds_toArray, List.set_cons_zero, List.set_cons_succ, List.getElem_toArray, List.getElem_cons_zero, List.getElem_cons_succ]
      -- 1: slot 88 := Op.move t87
      refine wpAnyH_take (i := 1) (v := ?_) rfl (by kernel_rfl) (by kernel_rfl) (by kernel_rfl) (fun _ _ _ h => h) (Or.inl ⟨by rfl, ?_⟩) (by assumption) ?_
      rotate_left
      · intro w hSw; go_simp; try with_reducible rfl
      try simp only [Act.put, List.setIfInBounds_toArray, List.set_cons_zero, List.set_cons_succ, List.getElem_toArray, List.getElem_cons_zero, List.getElem_cons_succ]
      -- 2: slot 89 := Op.move t8 [guarded: some (1, true)]
      refine wpAnyH_take (i := 2) (v := ?_) rfl (by kernel_rfl) (by kernel_rfl) (by kernel_rfl) (fun _ _ _ h => h) (Or.inl ⟨by rfl, ?_⟩) (by assumption) ?_
      rotate_left
      · intro w hSw; go_simp; try with_reducible rfl
      try simp only [Act.put, List.setIfInBounds_toArray, List.set_cons_zero, List.set_cons_succ, List.getElem_toArray, List.getElem_cons_zero, List.getElem_cons_succ]
      -- 3: slot 90 := Op.move t5 [guarded: some (1, true)]
      refine wpAnyH_take (i := 3) (v := ?_) rfl (by kernel_rfl) (by kernel_rfl) (by kernel_rfl) (fun _ _ _ h => h) (Or.inl ⟨by rfl, ?_⟩) (by assumption) ?_
      rotate_left
      · intro w hSw; go_simp; try with_reducible rfl
      try simp only [Act.put, List.setIfInBounds_toArray, List.set_cons_zero, List.set_cons_succ, List.getElem_toArray, List.getElem_cons_zero, List.getElem_cons_succ]
      -- 4: slot 91 := Op.binOp BinOp.leq 3 t89 t90 3 [guarded: some (1, true)]
      refine wpAnyH_take (i := 4) (v := ?_) rfl (by kernel_rfl) (by kernel_rfl) (by kernel_rfl) (fun _ _ _ h => h) (Or.inl ⟨by rfl, ?_⟩) (by assumption) ?_
      rotate_left
      · intro w hSw; go_simp; try with_reducible rfl
      try simp only [Act.put, List.setIfInBounds_toArray, List.set_cons_zero, List.set_cons_succ, List.getElem_toArray, List.getElem_cons_zero, List.getElem_cons_succ]
      -- 5: slot 92 := Op.move t91 [guarded: some (1, true)]
      refine wpAnyH_take (i := 5) (v := ?_) rfl (by kernel_rfl) (by kernel_rfl) (by kernel_rfl) (fun _ _ _ h => h) (Or.inl ⟨by rfl, ?_⟩) (by assumption) ?_
      rotate_left
      · intro w hSw; go_simp; try with_reducible rfl
      try simp only [Act.put, List.setIfInBounds_toArray, List.set_cons_zero, List.set_cons_succ, List.getElem_toArray, List.getElem_cons_zero, List.getElem_cons_succ]
      -- 6: slot 93 := Op.move t8 [guarded: some (5, false)]
      refine wpAnyH_take (i := 6) (v := ?_) rfl (by kernel_rfl) (by kernel_rfl) (by kernel_rfl) (fun _ _ _ h => h) (Or.inl ⟨by rfl, ?_⟩) (by assumption) ?_
      rotate_left
      · intro w hSw; go_simp; try with_reducible rfl
      try simp only [Act.put, List.setIfInBounds_toArray, List.set_cons_zero, List.set_cons_succ, List.getElem_toArray, List.getElem_cons_zero, List.getElem_cons_succ]
      -- 7: slot 94 := Op.move t0 [guarded: some (5, false)]
      refine wpAnyH_take (i := 7) (v := ?_) rfl (by kernel_rfl) (by kernel_rfl) (by kernel_rfl) (fun _ _ _ h => h) (Or.inl ⟨by rfl, ?_⟩) (by assumption) ?_
      rotate_left
      · intro w hSw; go_simp; try with_reducible rfl
      try simp only [Act.put, List.setIfInBounds_toArray, List.set_cons_zero, List.set_cons_succ, List.getElem_toArray, List.getElem_cons_zero, List.getElem_cons_succ]
      -- 8: slot 95 := Op.call { builtin len, args := #[t94], argTypes := #[23] } [guarded: some (
      refine wpAnyH_take (i := 8) (v := ?_) rfl (by kernel_rfl) (by kernel_rfl) (by kernel_rfl) (fun _ _ _ h => h) (Or.inl ⟨by rfl, ?_⟩) (by assumption) ?_
      rotate_left
      · intro w hSw; go_simp; try with_reducible rfl
      try simp only [Act.put, List.setIfInBounds_toArray, List.set_cons_zero, List.set_cons_succ, List.getElem_toArray, List.getElem_cons_zero, List.getElem_cons_succ]
      -- 9: slot 96 := Op.binOp BinOp.gtr 3 t93 t95 3 [guarded: some (5, false)]
      refine wpAnyH_take (i := 9) (v := ?_) rfl (by kernel_rfl) (by kernel_rfl) (by kernel_rfl) (fun _ _ _ h => h) (Or.inl ⟨by rfl, ?_⟩) (by assumption) ?_
      rotate_left
      · intro w hSw; go_simp; try with_reducible rfl
      try simp only [Act.put, List.setIfInBounds_toArray, List.set_cons_zero, List.set_cons_succ, List.getElem_toArray, List.getElem_cons_zero, List.getElem_cons_succ]
      -- 10: slot 97 := Op.pick t92 (const (Value.bool true)) t96 [guarded: some (1, true)]
      refine wpAnyH_take (i := 10) (v := ?_) rfl (by kernel_rfl) (by kernel_rfl) (by kernel_rfl) (fun _ _ _ h => h) (Or.inl ⟨by rfl, ?_⟩) (by assumption) ?_
      rotate_left
      · intro w hSw; go_simp; try with_reducible rfl
      try simp only [Act.put, List.setIfInBounds_toArray, List.set_cons_zero, List.set_cons_succ, List.getElem_toArray, List.getElem_cons_zero, List.getElem_cons_succ]
      -- 11: slot 98 := Op.move t97 [guarded: some (1, true)]
      refine wpAnyH_take (i := 11) (v := ?_) rfl (by kernel_rfl) (by kernel_rfl) (by kernel_rfl) (fun _ _ _ h => h) (Or.inl ⟨by rfl, ?_⟩) (by assumption) ?_
      rotate_left
      · intro w hSw; go_simp; try with_reducible rfl
      try simp only [Act.put, List.setIfInBounds_toArray, List.set_cons_zero, List.set_cons_succ, List.getElem_toArray, List.getElem_cons_zero, List.getElem_cons_succ]
      -- 12: slot 99 := Op.move t11 [guarded: some (11, false)]
      refine wpAnyH_take (i := 12) (v := ?_) rfl (by kernel_rfl) (by kernel_rfl) (by kernel_rfl) (fun _ _ _ h => h) (Or.inl ⟨by rfl, ?_⟩) (by assumption) ?_
      rotate_left
      · intro w hSw; go_simp; try with_reducible rfl
      try simp only [Act.put, List.setIfInBounds_toArray, List.set_cons_zero, List.set_cons_succ, List.getElem_toArray, List.getElem_cons_zero, List.getElem_cons_succ]
      -- 15: slot 102 := Op.move t0 [guarded: some (11, false)]
      refine wpAnyH_take (i := 15) (v := ?_) rfl (by kernel_rfl) (by kernel_rfl) (by kernel_rfl) (fun _ _ _ h => h) (Or.inl ⟨by rfl, ?_⟩) (by assumption) ?_
      rotate_left
      · intro w hSw; go_simp; try with_reducible rfl
      try simp only [Act.put, List.setIfInBounds_toArray, List.set_cons_zero, List.set_cons_succ, List.getElem_toArray, List.getElem_cons_zero, List.getElem_cons_succ]
      -- 16: slot 103 := Op.move t5 [guarded: some (11, false)]
      refine wpAnyH_take (i := 16) (v := ?_) rfl (by kernel_rfl) (by kernel_rfl) (by kernel_rfl) (fun _ _ _ h => h) (Or.inl ⟨by rfl, ?_⟩) (by assumption) ?_
      rotate_left
      · intro w hSw; go_simp; try with_reducible rfl
      try simp only [Act.put, List.setIfInBounds_toArray, List.set_cons_zero, List.set_cons_succ, List.getElem_toArray, List.getElem_cons_zero, List.getElem_cons_succ]
      -- 17: slot 104 := Op.move t8 [guarded: some (11, false)]
      refine wpAnyH_take (i := 17) (v := ?_) rfl (by kernel_rfl) (by kernel_rfl) (by kernel_rfl) (fun _ _ _ h => h) (Or.inl ⟨by rfl, ?_⟩) (by assumption) ?_
      rotate_left
      · intro w hSw; go_simp; try with_reducible rfl
      try simp only [Act.put, List.setIfInBounds_toArray, List.set_cons_zero, List.set_cons_succ, List.getElem_toArray, List.getElem_cons_zero, List.getElem_cons_succ]
      -- 18: slot 105 := Op.slice 23 t102 (some t103) (some t104) none [guarded: some (11, false)]
      refine wpAnyH_take (i := 18) (v := ?_) rfl (by kernel_rfl) (by kernel_rfl) (by kernel_rfl) (fun _ _ _ h => h) (Or.inl ⟨by rfl, ?_⟩) (by assumption) ?_
      rotate_left
      · intro w hSw; go_simp; try with_reducible rfl
      try simp only [Act.put, List.setIfInBounds_toArray, List.set_cons_zero, List.set_cons_succ, List.getElem_toArray, List.getElem_cons_zero, List.getElem_cons_succ]
      -- 19: slot 106 := Op.convert 23 9 t105 [guarded: some (11, false)]
      refine wpAnyH_take (i := 19) (v := ?_) rfl (by kernel_rfl) (by kernel_rfl) (by kernel_rfl) (fun _ _ _ h => h) (Or.inl ⟨by rfl, ?_⟩) (by assumption) ?_
      rotate_left
      · intro w hSw; go_simp; try with_reducible rfl
      try simp only [Act.put, List.setIfInBounds_toArray, List.set_cons_zero, List.set_cons_succ, List.getElem_toArray, List.getElem_cons_zero, List.getElem_cons_succ]
      -- 13: slot 100 := Op.call { value (Operand.func 22), args := #[const (Value.slice none 0 0), t9
      refine wpAnyH_ready (rs := [13]) (by kernel_rfl) (by simp) ?_
      refine AllReadyH.cons rfl (fun K hK => ?_) AllReadyH.nil
      go_simp
      refine (vputText_nil (strOf s) m3 _ (by exact MM3.out) (by omega)).mono ?_
      rintro e w3' ⟨A3, c3, rfl, hown3, hbc3⟩
      have hs3_3 := string_rule hown3.reads m3 c3 MM3.out
      have hbd3 := below_then hS3 hbc3
      replace hs2_3 : ∀ W : World, Below w3'.heap.size w3' W → _ := fun W hW => hs2_3 W (below_then hbd3 hW)
      refine hK.out _ _ hbd3 (fun hHeld => ?_)
      clear hK K
      refine wpAnyH_mono (S' := fun w' => Below w3'.heap.size w3' w') (fun W h => below_then hbd3 h) _ ?_
      have hT3 : Below w3'.heap.size w3' w3' := Below.refl _ _
      try simp only [Act.put, List.setIfInBounds_toArray, List.set_cons_zero, List.set_cons_succ, List.getElem_toArray, List.getElem_cons_zero, List.getElem_cons_succ]
      -- 14: slot 101 := Op.convert 23 9 t100 [guarded: some (11, false)]
      refine wpAnyH_take (i := 14) (v := ?_) rfl (by kernel_rfl) (by kernel_rfl) (by kernel_rfl) (fun _ _ _ h => h) (Or.inl ⟨by rfl, ?_⟩) (by assumption) ?_
      rotate_left
      · intro w hSw; go_simp; try with_reducible rfl
      try simp only [Act.put, List.setIfInBounds_toArray, List.set_cons_zero, List.set_cons_succ, List.getElem_toArray, List.getElem_cons_zero, List.getElem_cons_succ]
      -- 20: slot 107 := Op.binOp BinOp.neq 9 t101 t106 9 [guarded: some (11, false)]
      refine wpAnyH_take (i := 20) (v := ?_) rfl (by kernel_rfl) (by kernel_rfl) (by kernel_rfl) (fun _ _ _ h => h) (Or.inl ⟨by rfl, ?_⟩) (by assumption) ?_
      rotate_left
      · intro w hSw; go_simp; try with_reducible rfl
      try simp only [Act.put, List.setIfInBounds_toArray, List.set_cons_zero, List.set_cons_succ, List.getElem_toArray, List.getElem_cons_zero, List.getElem_cons_succ]
      -- 21: slot 108 := Op.pick t98 (const (Value.bool true)) t107 [guarded: some (1, true)]
      refine wpAnyH_take (i := 21) (v := ?_) rfl (by kernel_rfl) (by kernel_rfl) (by kernel_rfl) (fun _ _ _ h => h) (Or.inl ⟨by rfl, ?_⟩) (by assumption) ?_
      rotate_left
      · intro w hSw; go_simp; try with_reducible rfl
      try simp only [Act.put, List.setIfInBounds_toArray, List.set_cons_zero, List.set_cons_succ, List.getElem_toArray, List.getElem_cons_zero, List.getElem_cons_succ]
      -- 22: slot 109 := Op.pick t88 t108 (const (Value.bool false))
      refine wpAnyH_take (i := 22) (v := ?_) rfl (by kernel_rfl) (by kernel_rfl) (by kernel_rfl) (fun _ _ _ h => h) (Or.inl ⟨by rfl, ?_⟩) (by assumption) ?_
      rotate_left
      · intro w hSw; go_simp; try with_reducible rfl
      try simp only [Act.put, List.setIfInBounds_toArray, List.set_cons_zero, List.set_cons_succ, List.getElem_toArray, List.getElem_cons_zero, List.getElem_cons_succ]
      refine wpAnyH_done (by kernel_rfl) ?_ _
      have hb3' : Below w.heap.size w w3' := below_then hb3 hbd3
      have HRC3' := Lib.hid (HRC3.out.below hbd3)
      clear hs2_3 hs3_3 hown3 hbc3 hS3 hT3 hbd3
      rcases hR : getRise bs (k : Int) 1073741824 with _ | ⟨l, e4⟩
      · have GR := Lib.hid hR
        clear hR
        go_wp2_with fail
        refine (vgetRise_none Ac bs bs.length cc (k : Int) 1073741824 _ rfl (by omega) (.inr (by omega)) (by omega) (by omega) (by omega) (by omega) (by first | exact HRC3'.out | exact HRC3'.out.drew | exact HRC3'.out.drewN _) GR.out).mono ?_
        rintro e w5 ⟨rfl, hb5'⟩
        have hb5 : Below w.heap.size w w5 := below_then (by first | exact hb3' | exact Below.drew hb3' | exact below_drewN hb3' _) hb5'
        have HRC5 : Hid (ReadsB w5 Ac bs) := Reads.below (show ReadsB _ Ac bs from (by first | exact HRC3'.out | exact HRC3'.out.drew | exact HRC3'.out.drewN _)) hb5'
        have hsA : ∀ n : Nat, (convert 23 9 (.slice Ac bs.length cc)).run Try.prog (w5.drewN n) = .ok (.string (strOf bs)) (w5.drewN n) := fun n => string_rule (HRC5.out.drewN n) bs.length cc rfl _ (Below.refl _ _)
        have hsB : ∀ n : Nat, (convert 23 9 (.slice A bs.length c)).run Try.prog (w5.drewN n) = .ok (.string (strOf bs)) (w5.drewN n) := fun n => string_rule ((HR.out.below hb5).drewN n) bs.length c rfl _ (Below.refl _ _)
        go_wp2
        go_quiet (fail)
        go_wp2_with fail
        refine (vawake_any _).mono ?_
        rintro e wz ⟨rfl, hbz'⟩
        have hbz := below_then (below_drewN hb5 _) hbz'
        go_wp2
        go_ret
        exact ⟨rfl, hbz⟩
      · have GR := Lib.hid hR
        obtain ⟨r1, r2, r3, r4, hcutlaw4⟩ := getRise_back hR
        have HLT := Lib.hid r4
        have r5 : (l.length : Int) ≤ 1073741824 := by omega
        clear hR r4
        obtain ⟨m4, hm4⟩ : ∃ m, e4 - k = m := ⟨_, rfl⟩
        obtain ⟨A2_4, hcut4, HA2_4⟩ := cut_midB (P := Try.prog) 23 5 Try.underlying23 binfo A bs.length c k e4 (k : Int) (e4 : Int) rfl rfl (by omega) (by omega) hc
        rw [hm4] at hcut4 HA2_4 hcutlaw4
        have CUT4 := Lib.hid hcutlaw4
        have MM4 : Hid ((encRise l).length = m4) := by
          show _ = _
          rw [← hcutlaw4, List.length_take, List.length_drop]
          omega
        have d1_4 : decide (e4 ≤ k) = false := by rw [decide_eq_false_iff_not]; omega
        have d2_4 : decide (bs.length < e4) = false := by rw [decide_eq_false_iff_not]; omega
        clear hcutlaw4 hm4
        go_wp2_with fail
        refine (vgetRise_some Ac bs bs.length cc (k : Int) 1073741824 l l.length e4 _ rfl rfl (by omega) (.inr (by omega)) (by omega) (by omega) (by omega) (by omega) (by first | exact HRC3'.out | exact HRC3'.out.drew | exact HRC3'.out.drewN _) GR.out).mono ?_
        rintro e w5 ⟨A7, c7, rfl, hown7, hb5'⟩
        have hb5 : Below w.heap.size w w5 := below_then (by first | exact hb3' | exact Below.drew hb3' | exact below_drewN hb3' _) hb5'
        have HRC5 : Hid (ReadsB w5 Ac bs) := Reads.below (show ReadsB _ Ac bs from (by first | exact HRC3'.out | exact HRC3'.out.drew | exact HRC3'.out.drewN _)) hb5'
        have HR7 := Lib.hid hown7.reads
        clear hown7
        have hb4 := hb5
        have HRC4 := HRC5
        have hs2_4 := string_rule (HA2_4.out _ bs rfl (HR.out.below hb4)) m4 (c - k) (by rw [CUT4.out]; exact MM4.out)
        rw [CUT4.out] at hs2_4
        go_wp2
        have hS4 : Below w5.heap.size w5 w5.drew := (Below.refl _ _).drew
        refine wp_region_held_drew (S := fun w' => Below w5.heap.size w5 w') (by kernel_rfl) hS4 (fun _ => ?_)
        -- 0: slot 117 := Op.move t9
        refine wpAnyH_take (i := 0) (v := ?_) rfl (by kernel_rfl) (by kernel_rfl) (by kernel_rfl) (fun _ _ _ h => h) (Or.inl ⟨by rfl, ?_⟩) (by assumption) ?_
        rotate_left
        · intro w hSw; go_simp; try with_reducible rfl
        try simp only [Act.put, List.setIfInBounds_toArray, List.set_cons_zero, List.set_cons_succ, List.getElem_toArray, List.getElem_cons_zero, List.getElem_cons_succ]
        -- 1: slot 118 := Op.move t117
        refine wpAnyH_take (i := 1) (v := ?_) rfl (by kernel_rfl) (by kernel_rfl) (by kernel_rfl) (fun _ _ _ h => h) (Or.inl ⟨by rfl, ?_⟩) (by assumption) ?_
        rotate_left
        · intro w hSw; go_simp; try with_reducible rfl
        try simp only [Act.put, List.setIfInBounds_toArray, List.set_cons_zero, List.set_cons_succ, List.getElem_toArray, List.getElem_cons_zero, List.getElem_cons_succ]
        -- 2: slot 119 := Op.move t8 [guarded: some (1, true)]
        refine wpAnyH_take (i := 2) (v := ?_) rfl (by kernel_rfl) (by kernel_rfl) (by kernel_rfl) (fun _ _ _ h => h) (Or.inl ⟨by rfl, ?_⟩) (by assumption) ?_
        rotate_left
        · intro w hSw; go_simp; try with_reducible rfl
        try simp only [Act.put, List.setIfInBounds_toArray, List.set_cons_zero, List.set_cons_succ, List.getElem_toArray, List.getElem_cons_zero, List.getElem_cons_succ]
        -- 3: slot 120 := Op.move t5 [guarded: some (1, true)]
        refine wpAnyH_take (i := 3) (v := ?_) rfl (by kernel_rfl) (by kernel_rfl) (by kernel_rfl) (fun _ _ _ h => h) (Or.inl ⟨by rfl, ?_⟩) (by assumption) ?_
        rotate_left
        · intro w hSw; go_simp; try with_reducible rfl
        try simp only [Act.put, List.setIfInBounds_toArray, List.set_cons_zero, List.set_cons_succ, List.getElem_toArray, List.getElem_cons_zero, List.getElem_cons_succ]
        -- 4: slot 121 := Op.binOp BinOp.leq 3 t119 t120 3 [guarded: some (1, true)]
        refine wpAnyH_take (i := 4) (v := ?_) rfl (by kernel_rfl) (by kernel_rfl) (by kernel_rfl) (fun _ _ _ h => h) (Or.inl ⟨by rfl, ?_⟩) (by assumption) ?_
        rotate_left
        · intro w hSw; go_simp; try with_reducible rfl
        try simp only [Act.put, List.setIfInBounds_toArray, List.set_cons_zero, List.set_cons_succ, List.getElem_toArray, List.getElem_cons_zero, List.getElem_cons_succ]
        -- 5: slot 122 := Op.move t121 [guarded: some (1, true)]
        refine wpAnyH_take (i := 5) (v := ?_) rfl (by kernel_rfl) (by kernel_rfl) (by kernel_rfl) (fun _ _ _ h => h) (Or.inl ⟨by rfl, ?_⟩) (by assumption) ?_
        rotate_left
        · intro w hSw; go_simp; try with_reducible rfl
        try simp only [Act.put, List.setIfInBounds_toArray, List.set_cons_zero, List.set_cons_succ, List.getElem_toArray, List.getElem_cons_zero, List.getElem_cons_succ]
        -- 6: slot 123 := Op.move t8 [guarded: some (5, false)]
        refine wpAnyH_take (i := 6) (v := ?_) rfl (by kernel_rfl) (by kernel_rfl) (by kernel_rfl) (fun _ _ _ h => h) (Or.inl ⟨by rfl, ?_⟩) (by assumption) ?_
        rotate_left
        · intro w hSw; go_simp; try with_reducible rfl
        try simp only [Act.put, List.setIfInBounds_toArray, List.set_cons_zero, List.set_cons_succ, List.getElem_toArray, List.getElem_cons_zero, List.getElem_cons_succ]
        -- 7: slot 124 := Op.move t0 [guarded: some (5, false)]
        refine wpAnyH_take (i := 7) (v := ?_) rfl (by kernel_rfl) (by kernel_rfl) (by kernel_rfl) (fun _ _ _ h => h) (Or.inl ⟨by rfl, ?_⟩) (by assumption) ?_
        rotate_left
        · intro w hSw; go_simp; try with_reducible rfl
        try simp only [Act.put, List.setIfInBounds_toArray, List.set_cons_zero, List.set_cons_succ, List.getElem_toArray, List.getElem_cons_zero, List.getElem_cons_succ]
        -- 8: slot 125 := Op.call { builtin len, args := #[t124], argTypes := #[23] } [guarded: some 
        refine wpAnyH_take (i := 8) (v := ?_) rfl (by kernel_rfl) (by kernel_rfl) (by kernel_rfl) (fun _ _ _ h => h) (Or.inl ⟨by rfl, ?_⟩) (by assumption) ?_
        rotate_left
        · intro w hSw; go_simp; try with_reducible rfl
        try simp only [Act.put, List.setIfInBounds_toArray, List.set_cons_zero, List.set_cons_succ, List.getElem_toArray, List.getElem_cons_zero, List.getElem_cons_succ]
        -- 9: slot 126 := Op.binOp BinOp.gtr 3 t123 t125 3 [guarded: some (5, false)]
        refine wpAnyH_take (i := 9) (v := ?_) rfl (by kernel_rfl) (by kernel_rfl) (by kernel_rfl) (fun _ _ _ h => h) (Or.inl ⟨by rfl, ?_⟩) (by assumption) ?_
        rotate_left
        · intro w hSw; go_simp; try with_reducible rfl
        try simp only [Act.put, List.setIfInBounds_toArray, List.set_cons_zero, List.set_cons_succ, List.getElem_toArray, List.getElem_cons_zero, List.getElem_cons_succ]
        -- 10: slot 127 := Op.pick t122 (const (Value.bool true)) t126 [guarded: some (1, true)]
        refine wpAnyH_take (i := 10) (v := ?_) rfl (by kernel_rfl) (by kernel_rfl) (by kernel_rfl) (fun _ _ _ h => h) (Or.inl ⟨by rfl, ?_⟩) (by assumption) ?_
        rotate_left
        · intro w hSw; go_simp; try with_reducible rfl
        try simp only [Act.put, List.setIfInBounds_toArray, List.set_cons_zero, List.set_cons_succ, List.getElem_toArray, List.getElem_cons_zero, List.getElem_cons_succ]
        -- 11: slot 128 := Op.move t127 [guarded: some (1, true)]
        refine wpAnyH_take (i := 11) (v := ?_) rfl (by kernel_rfl) (by kernel_rfl) (by kernel_rfl) (fun _ _ _ h => h) (Or.inl ⟨by rfl, ?_⟩) (by assumption) ?_
        rotate_left
        · intro w hSw; go_simp; try with_reducible rfl
        try simp only [Act.put, List.setIfInBounds_toArray, List.set_cons_zero, List.set_cons_succ, List.getElem_toArray, List.getElem_cons_zero, List.getElem_cons_succ]
        -- 12: slot 129 := Op.move t12 [guarded: some (11, false)]
        refine wpAnyH_take (i := 12) (v := ?_) rfl (by kernel_rfl) (by kernel_rfl) (by kernel_rfl) (fun _ _ _ h => h) (Or.inl ⟨by rfl, ?_⟩) (by assumption) ?_
        rotate_left
        · intro w hSw; go_simp; try with_reducible rfl
        try simp only [Act.put, List.setIfInBounds_toArray, List.set_cons_zero, List.set_cons_succ, List.getElem_toArray, List.getElem_cons_zero, List.getElem_cons_succ]
        -- 15: slot 132 := Op.move t0 [guarded: some (11, false)]
        refine wpAnyH_take (i := 15) (v := ?_) rfl (by kernel_rfl) (by kernel_rfl) (by kernel_rfl) (fun _ _ _ h => h) (Or.inl ⟨by rfl, ?_⟩) (by assumption) ?_
        rotate_left
        · intro w hSw; go_simp; try with_reducible rfl
        try simp only [Act.put, List.setIfInBounds_toArray, List.set_cons_zero, List.set_cons_succ, List.getElem_toArray, List.getElem_cons_zero, List.getElem_cons_succ]
        -- 16: slot 133 := Op.move t5 [guarded: some (11, false)]
        refine wpAnyH_take (i := 16) (v := ?_) rfl (by kernel_rfl) (by kernel_rfl) (by kernel_rfl) (fun _ _ _ h => h) (Or.inl ⟨by rfl, ?_⟩) (by assumption) ?_
        rotate_left
        · intro w hSw; go_simp; try with_reducible rfl
        try simp only [Act.put, List.setIfInBounds_toArray, List.set_cons_zero, List.set_cons_succ, List.getElem_toArray, List.getElem_cons_zero, List.getElem_cons_succ]
        -- 17: slot 134 := Op.move t8 [guarded: some (11, false)]
        refine wpAnyH_take (i := 17) (v := ?_) rfl (by kernel_rfl) (by kernel_rfl) (by kernel_rfl) (fun _ _ _ h => h) (Or.inl ⟨by rfl, ?_⟩) (by assumption) ?_
        rotate_left
        · intro w hSw; go_simp; try with_reducible rfl
        try simp only [Act.put, List.setIfInBounds_toArray, List.set_cons_zero, List.set_cons_succ, List.getElem_toArray, List.getElem_cons_zero, List.getElem_cons_succ]
        -- 18: slot 135 := Op.slice 23 t132 (some t133) (some t134) none [guarded: some (11, false)]
        refine wpAnyH_take (i := 18) (v := ?_) rfl (by kernel_rfl) (by kernel_rfl) (by kernel_rfl) (fun _ _ _ h => h) (Or.inl ⟨by rfl, ?_⟩) (by assumption) ?_
        rotate_left
        · intro w hSw; go_simp; try with_reducible rfl
        try simp only [Act.put, List.setIfInBounds_toArray, List.set_cons_zero, List.set_cons_succ, List.getElem_toArray, List.getElem_cons_zero, List.getElem_cons_succ]
        -- 19: slot 136 := Op.convert 23 9 t135 [guarded: some (11, false)]
        refine wpAnyH_take (i := 19) (v := ?_) rfl (by kernel_rfl) (by kernel_rfl) (by kernel_rfl) (fun _ _ _ h => h) (Or.inl ⟨by rfl, ?_⟩) (by assumption) ?_
        rotate_left
        · intro w hSw; go_simp; try with_reducible rfl
        try simp only [Act.put, List.setIfInBounds_toArray, List.set_cons_zero, List.set_cons_succ, List.getElem_toArray, List.getElem_cons_zero, List.getElem_cons_succ]
        -- 13: slot 130 := Op.call { value (Operand.func 26), args := #[const (Value.slice none 0 0), t1
        refine wpAnyH_ready (rs := [13]) (by kernel_rfl) (by simp) ?_
        refine AllReadyH.cons rfl (fun K hK => ?_) AllReadyH.nil
        go_simp
        refine (vputRise_nil A7 l l.length c7 m4 _ rfl MM4.out (by omega) HR7.out.drew HLT.out).mono ?_
        rintro e w4' ⟨A4, c4, rfl, hown4, hbc4⟩
        have hs3_4 := string_rule hown4.reads m4 c4 MM4.out
        have hbd4 := below_then hS4 hbc4
        replace hs2_4 : ∀ W : World, Below w4'.heap.size w4' W → _ := fun W hW => hs2_4 W (below_then hbd4 hW)
        refine hK.out _ _ hbd4 (fun hHeld => ?_)
        clear hK K
        refine wpAnyH_mono (S' := fun w' => Below w4'.heap.size w4' w') (fun W h => below_then hbd4 h) _ ?_
        have hT4 : Below w4'.heap.size w4' w4' := Below.refl _ _
        try simp only [Act.put, List.setIfInBounds_toArray, List.set_cons_zero, List.set_cons_succ, List.getElem_toArray, List.getElem_cons_zero, List.getElem_cons_succ]
        -- 14: slot 131 := Op.convert 23 9 t130 [guarded: some (11, false)]
        refine wpAnyH_take (i := 14) (v := ?_) rfl (by kernel_rfl) (by kernel_rfl) (by kernel_rfl) (fun _ _ _ h => h) (Or.inl ⟨by rfl, ?_⟩) (by assumption) ?_
        rotate_left
        · intro w hSw; go_simp; try with_reducible rfl
        try simp only [Act.put, List.setIfInBounds_toArray, List.set_cons_zero, List.set_cons_succ, List.getElem_toArray, List.getElem_cons_zero, List.getElem_cons_succ]
        -- 20: slot 137 := Op.binOp BinOp.neq 9 t131 t136 9 [guarded: some (11, false)]
        refine wpAnyH_take (i := 20) (v := ?_) rfl (by kernel_rfl) (by kernel_rfl) (by kernel_rfl) (fun _ _ _ h => h) (Or.inl ⟨by rfl, ?_⟩) (by assumption) ?_
        rotate_left
        · intro w hSw; go_simp; try with_reducible rfl
        try simp only [Act.put, List.setIfInBounds_toArray, List.set_cons_zero, List.set_cons_succ, List.getElem_toArray, List.getElem_cons_zero, List.getElem_cons_succ]
        -- 21: slot 138 := Op.pick t128 (const (Value.bool true)) t137 [guarded: some (1, true)]
        refine wpAnyH_take (i := 21) (v := ?_) rfl (by kernel_rfl) (by kernel_rfl) (by kernel_rfl) (fun _ _ _ h => h) (Or.inl ⟨by rfl, ?_⟩) (by assumption) ?_
        rotate_left
        · intro w hSw; go_simp; try with_reducible rfl
        try simp only [Act.put, List.setIfInBounds_toArray, List.set_cons_zero, List.set_cons_succ, List.getElem_toArray, List.getElem_cons_zero, List.getElem_cons_succ]
        -- 22: slot 139 := Op.pick t118 t138 (const (Value.bool false))
        refine wpAnyH_take (i := 22) (v := ?_) rfl (by kernel_rfl) (by kernel_rfl) (by kernel_rfl) (fun _ _ _ h => h) (Or.inl ⟨by rfl, ?_⟩) (by assumption) ?_
        rotate_left
        · intro w hSw; go_simp; try with_reducible rfl
        try simp only [Act.put, List.setIfInBounds_toArray, List.set_cons_zero, List.set_cons_succ, List.getElem_toArray, List.getElem_cons_zero, List.getElem_cons_succ]
        refine wpAnyH_done (by kernel_rfl) ?_ _
        have hb4' : Below w.heap.size w w4' := below_then hb4 hbd4
        have HRC4' := Lib.hid (HRC4.out.below hbd4)
        clear hs2_4 hs3_4 hown4 hbc4 hS4 hT4 hbd4
        have hsA : ∀ n : Nat, (convert 23 9 (.slice Ac bs.length cc)).run Try.prog (w4'.drewN n) = .ok (.string (strOf bs)) (w4'.drewN n) := fun n => string_rule (HRC4'.out.drewN n) bs.length cc rfl _ (Below.refl _ _)
        have hsB : ∀ n : Nat, (convert 23 9 (.slice A bs.length c)).run Try.prog (w4'.drewN n) = .ok (.string (strOf bs)) (w4'.drewN n) := fun n => string_rule ((HR.out.below hb4').drewN n) bs.length c rfl _ (Below.refl _ _)
        replace hsA := hsA 0
        replace hsB := hsB 0
        simp only [World.drewN_zero] at hsA hsB
        go_wp2_with fail
        refine (vawake_any _).mono ?_
        rintro e wz ⟨rfl, hbz'⟩
        have hbz := below_then hb4' hbz'
        go_wp2
        go_ret
        exact ⟨rfl, hbz⟩
end Go.Proofs.Ytfgmgmnhelodaaa
