/- VintInts: what it comes to. -/
import Derived.Test.YtfgmgmnhelodaaaVintInt
namespace Go.Proofs.Ytfgmgmnhelodaaa
set_option linter.unusedVariables false
set_option linter.unusedSimpArgs false
open Go.RowKit
theorem vputInt_n (A : Option Addr) (bs : List UInt8) (n c : Nat) (v : Int) (x : Nat) (w : World) (hb : bs.length = n) (h0 : -9223372036854775808 ≤ v) (h1 : v ≤ 9223372036854775807) (hx : n + (enc (zig v)).length = x) (hl : n + 10 ≤ 140737488355328) (hc : n ≤ c) (hr : ReadsB w A bs) :
    Calls Try.prog 18 #[.slice A n c, .int .i64 v] w fun e w' => ∃ A' c', e = .returned (.slice A' x c') ∧ OwnB w' w.heap.size (.slice A' x c') (bs ++ enc (zig v)) ∧ Below w.heap.size w w' := by
  subst hb hx
  exact vputInt_any A bs c v w h0 h1 hl hc hr
set_option maxRecDepth 100000 in
set_option maxHeartbeats 1600000 in
theorem vintInts_walk (v : Int) (A : Option Addr) (bs : List UInt8) (c : Nat) (x2 : Int) (w : World) (wf0 : (Lit.int .i64 v).wf = true) (hr : ReadsB w A bs) (hc : bs.length ≤ c) (hb : c ≤ 140737488351232) (wf2 : (Lit.int .i64 x2).wf = true) :
    Calls Try.prog 5 #[.int .i64 v, .slice A bs.length c, .int .i64 x2] w fun e w' => e = .returned (.bool true) ∧ Below w.heap.size w w' := by
  obtain ⟨hv0, hv1⟩ := wf_i64 wf0
  obtain ⟨hx0, hx1⟩ := wf_i64 wf2
  have HR := Lib.hid hr
  have HZ := Lib.hid (zig_lt v hv0 hv1)
  clear wf0 wf2 hr
  have q1 : (bs.length : Int) ≤ 140737488351232 := by omega
  have hen := enc_le10 HZ.out
  obtain ⟨m, hm⟩ : ∃ m, (enc (zig v)).length = m := ⟨_, rfl⟩
  obtain ⟨x, hx⟩ : ∃ x, bs.length + m = x := ⟨_, rfl⟩
  rw [hm] at hen
  have HM := Lib.hid hm
  have HXX := Lib.hid hx
  have hx3 : (x : Int) ≤ 140737488351242 := by omega
  clear hm hx
  go_enter Try.func5, Try.ntmps5
  go_wp2_with fail
  refine (bytesOwn_any A bs c _ (by omega) HR.out).mono ?_
  rintro e w1 ⟨A1, c1, rfl, hown1, hb1⟩
  have hcap := own_cap hown1
  have HR1 := Lib.hid hown1.reads
  clear hown1
  go_wp2_with fail
  refine (vputInt_n A1 bs bs.length c1 v x _ rfl hv0 hv1 (by rw [HM.out, HXX.out]) (by omega) (by omega) HR1.out).mono ?_
  rintro e w3 ⟨A3, c3, rfl, hown3, hb3'⟩
  have HO3 := Lib.hid hown3
  have hb3 := below_then hb1 hb3'
  clear hown3 hb3' HR1 hcap
  go_wp2_with fail
  refine (vgetInt_some A3 (bs ++ enc (zig v)) x c3 bs.length (zig v) x _ (by rw [List.length_append, HM.out, HXX.out]) (by omega) (by omega) (by omega) HO3.out.reads (by have := getAt_enc bs [] (zig v) HZ.out; rw [List.append_nil, HM.out, HXX.out] at this; exact this)).mono ?_
  rintro e w3' ⟨rfl, rfl⟩
  rw [zag_zig]
  have hs1 := string_rule HO3.out.reads x c3 (by rw [List.length_append, HM.out, HXX.out])
  have hs2 := string_rule (HR.out.below hb3) bs.length c rfl
  rw [strOf_append] at hs1
  have hz2 : ¬ (9223372036854775807 < (strOf bs).size + (strOf (enc (zig v))).size) := by rw [strOf_size, strOf_size, HM.out]; omega
  go_wp2
  have hS0 : Below w3.heap.size w3 w3.drew := (Below.refl _ _).drew
  refine wp_region_held_drew (S := fun w' => Below w3.heap.size w3 w') (by kernel_rfl) hS0 (fun _ => ?_)
  -- 0: slot 25 := Op.move t7
  refine wpAnyH_take (i := 0) (v := ?_) rfl (by kernel_rfl) (by kernel_rfl) (by kernel_rfl) (fun _ _ _ h => h) (Or.inl ⟨by rfl, ?_⟩) (by assumption) ?_
  rotate_left
  · intro w hSw; go_simp; try with_reducible rfl
  try simp only [Act.put, List.setIfInBounds_toArray, List.set_cons_zero, List.set_cons_succ, List.getElem_toArray, List.getElem_cons_zero, List.getElem_cons_succ]
  -- 1: slot 26 := Op.convert 23 9 t25
  refine wpAnyH_take (i := 1) (v := ?_) rfl (by kernel_rfl) (by kernel_rfl) (by kernel_rfl) (fun _ _ _ h => h) (Or.inl ⟨by rfl, ?_⟩) (by assumption) ?_
  rotate_left
  · intro w hSw; go_simp; try with_reducible rfl
  try simp only [Act.put, List.setIfInBounds_toArray, List.set_cons_zero, List.set_cons_succ, List.getElem_toArray, List.getElem_cons_zero, List.getElem_cons_succ]
  -- 2: slot 27 := Op.move t1
  refine wpAnyH_take (i := 2) (v := ?_) rfl (by kernel_rfl) (by kernel_rfl) (by kernel_rfl) (fun _ _ _ h => h) (Or.inl ⟨by rfl, ?_⟩) (by assumption) ?_
  rotate_left
  · intro w hSw; go_simp; try with_reducible rfl
  try simp only [Act.put, List.setIfInBounds_toArray, List.set_cons_zero, List.set_cons_succ, List.getElem_toArray, List.getElem_cons_zero, List.getElem_cons_succ]
  -- 3: slot 28 := Op.convert 23 9 t27
  refine wpAnyH_take (i := 3) (v := ?_) rfl (by kernel_rfl) (by kernel_rfl) (by kernel_rfl) (fun _ _ _ h => h) (Or.inl ⟨by rfl, ?_⟩) (by assumption) ?_
  rotate_left
  · intro w hSw; go_simp; try with_reducible rfl
  try simp only [Act.put, List.setIfInBounds_toArray, List.set_cons_zero, List.set_cons_succ, List.getElem_toArray, List.getElem_cons_zero, List.getElem_cons_succ]
  -- 4: slot 29 := Op.move t0
  refine wpAnyH_take (i := 4) (v := ?_) rfl (by kernel_rfl) (by kernel_rfl) (by kernel_rfl) (fun _ _ _ h => h) (Or.inl ⟨by rfl, ?_⟩) (by assumption) ?_
  rotate_left
  · intro w hSw; go_simp; try with_reducible rfl
  try simp only [Act.put, List.setIfInBounds_toArray, List.set_cons_zero, List.set_cons_succ, List.getElem_toArray, List.getElem_cons_zero, List.getElem_cons_succ]
  -- 5: slot 30 := Op.call { value (Operand.func 20), args := #[t29], argTypes := #[3] }
  refine wpAnyH_ready (rs := [5]) (by kernel_rfl) (by simp) ?_
  refine AllReadyH.cons rfl (fun K hK => ?_) AllReadyH.nil
  go_simp
  refine (refInt_n v m _ hv0 hv1 HM.out).mono ?_
  rintro e w4 ⟨A4, c4, rfl, hown4, hb4'⟩
  have hs3 := string_rule hown4.reads m c4 HM.out
  have hb34 := below_then hS0 hb4'
  refine hK.out _ _ hb34 (fun hHeld => ?_)
  clear hK K
  refine wpAnyH_mono (S' := fun w' => Below w4.heap.size w4 w') (fun W h => below_then hb34 h) _ ?_
  have hS1 : Below w4.heap.size w4 w4 := Below.refl _ _
  try simp only [Act.put, List.setIfInBounds_toArray, List.set_cons_zero, List.set_cons_succ, List.getElem_toArray, List.getElem_cons_zero, List.getElem_cons_succ]
  -- 6: slot 31 := Op.convert 23 9 t30
  refine wpAnyH_take (i := 6) (v := ?_) rfl (by kernel_rfl) (by kernel_rfl) (by kernel_rfl) (fun _ _ _ h => h) (Or.inl ⟨by rfl, ?_⟩) (by assumption) ?_
  rotate_left
  · intro w hSw; go_simp; try with_reducible rfl
  try simp only [Act.put, List.setIfInBounds_toArray, List.set_cons_zero, List.set_cons_succ, List.getElem_toArray, List.getElem_cons_zero, List.getElem_cons_succ]
  -- 7: slot 32 := Op.binOp BinOp.add 9 t28 t31 9
  refine wpAnyH_take (i := 7) (v := ?_) rfl (by kernel_rfl) (by kernel_rfl) (by kernel_rfl) (fun _ _ _ h => h) (Or.inl ⟨by rfl, ?_⟩) (by assumption) ?_
  rotate_left
  · intro w hSw; go_simp; try with_reducible rfl
  try simp only [Act.put, List.setIfInBounds_toArray, List.set_cons_zero, List.set_cons_succ, List.getElem_toArray, List.getElem_cons_zero, List.getElem_cons_succ]
  -- 8: slot 33 := Op.binOp BinOp.neq 9 t26 t32 9
  refine wpAnyH_take (i := 8) (v := ?_) rfl (by kernel_rfl) (by kernel_rfl) (by kernel_rfl) (fun _ _ _ h => h) (Or.inl ⟨by rfl, ?_⟩) (by assumption) ?_
  rotate_left
  · intro w hSw; go_simp; try with_reducible rfl
  try simp only [Act.put, List.setIfInBounds_toArray, List.set_cons_zero, List.set_cons_succ, List.getElem_toArray, List.getElem_cons_zero, List.getElem_cons_succ]
  -- 9: slot 34 := Op.move t33
  refine wpAnyH_take (i := 9) (v := ?_) rfl (by kernel_rfl) (by kernel_rfl) (by kernel_rfl) (fun _ _ _ h => h) (Or.inl ⟨by rfl, ?_⟩) (by assumption) ?_
  rotate_left
  · intro w hSw; go_simp; try with_reducible rfl
  try simp only [Act.put, List.setIfInBounds_toArray, List.set_cons_zero, List.set_cons_succ, List.getElem_toArray, List.getElem_cons_zero, List.getElem_cons_succ]
  -- 10: slot 35 := Op.move t8 [guarded: some (9, false)]
  refine wpAnyH_take (i := 10) (v := ?_) rfl (by kernel_rfl) (by kernel_rfl) (by kernel_rfl) (fun _ _ _ h => h) (Or.inl ⟨by rfl, ?_⟩) (by assumption) ?_
  rotate_left
  · intro w hSw; go_simp; try with_reducible rfl
  try simp only [Act.put, List.setIfInBounds_toArray, List.set_cons_zero, List.set_cons_succ, List.getElem_toArray, List.getElem_cons_zero, List.getElem_cons_succ]
  -- 11: slot 36 := Op.move t0 [guarded: some (9, false)]
  refine wpAnyH_take (i := 11) (v := ?_) rfl (by kernel_rfl) (by kernel_rfl) (by kernel_rfl) (fun _ _ _ h => h) (Or.inl ⟨by rfl, ?_⟩) (by assumption) ?_
  rotate_left
  · intro w hSw; go_simp; try with_reducible rfl
  try simp only [Act.put, List.setIfInBounds_toArray, List.set_cons_zero, List.set_cons_succ, List.getElem_toArray, List.getElem_cons_zero, List.getElem_cons_succ]
  -- 12: slot 37 := Op.binOp BinOp.neq 3 t35 t36 3 [guarded: some (9, false)]
  refine wpAnyH_take (i := 12) (v := ?_) rfl (by kernel_rfl) (by kernel_rfl) (by kernel_rfl) (fun _ _ _ h => h) (Or.inl ⟨by rfl, ?_⟩) (by assumption) ?_
  rotate_left
  · intro w hSw; go_simp; try with_reducible rfl
  try simp only [Act.put, List.setIfInBounds_toArray, List.set_cons_zero, List.set_cons_succ, List.getElem_toArray, List.getElem_cons_zero, List.getElem_cons_succ]
  -- 13: slot 38 := Op.pick t34 (const (Value.bool true)) t37
  refine wpAnyH_take (i := 13) (v := ?_) rfl (by kernel_rfl) (by kernel_rfl) (by kernel_rfl) (fun _ _ _ h => h) (Or.inl ⟨by rfl, ?_⟩) (by assumption) ?_
  rotate_left
  · intro w hSw; go_simp; try with_reducible rfl
  try simp only [Act.put, List.setIfInBounds_toArray, List.set_cons_zero, List.set_cons_succ, List.getElem_toArray, List.getElem_cons_zero, List.getElem_cons_succ]
  -- 14: slot 39 := Op.move t38
  refine wpAnyH_take (i := 14) (v := ?_) rfl (by kernel_rfl) (by kernel_rfl) (by kernel_rfl) (fun _ _ _ h => h) (Or.inl ⟨by rfl, ?_⟩) (by assumption) ?_
  rotate_left
  · intro w hSw; go_simp; try with_reducible rfl
  try simp only [Act.put, List.setIfInBounds_toArray, List.set_cons_zero, List.set_cons_succ, List.getElem_toArray, List.getElem_cons_zero, List.getElem_cons_succ]
  -- 15: slot 40 := Op.move t9 [guarded: some (14, false)]
  refine wpAnyH_take (i := 15) (v := ?_) rfl (by kernel_rfl) (by kernel_rfl) (by kernel_rfl) (fun _ _ _ h => h) (Or.inl ⟨by rfl, ?_⟩) (by assumption) ?_
  rotate_left
  · intro w hSw; go_simp; try with_reducible rfl
  try simp only [Act.put, List.setIfInBounds_toArray, List.set_cons_zero, List.set_cons_succ, List.getElem_toArray, List.getElem_cons_zero, List.getElem_cons_succ]
  -- 16: slot 41 := Op.move t7 [guarded: some (14, false)]
  refine wpAnyH_take (i := 16) (v := ?_) rfl (by kernel_rfl) (by kernel_rfl) (by kernel_rfl) (fun _ _ _ h => h) (Or.inl ⟨by rfl, ?_⟩) (by assumption) ?_
  rotate_left
  · intro w hSw; go_simp; try with_reducible rfl
  try simp only [Act.put, List.setIfInBounds_toArray, List.set_cons_zero, List.set_cons_succ, List.getElem_toArray, List.getElem_cons_zero, List.getElem_cons_succ]
  -- 17: slot 42 := Op.call { builtin len, args := #[t41], argTypes := #[23] } [guarded: some (
  refine wpAnyH_take (i := 17) (v := ?_) rfl (by kernel_rfl) (by kernel_rfl) (by kernel_rfl) (fun _ _ _ h => h) (Or.inl ⟨by rfl, ?_⟩) (by assumption) ?_
  rotate_left
  · intro w hSw; go_simp; try with_reducible rfl
  try simp only [Act.put, List.setIfInBounds_toArray, List.set_cons_zero, List.set_cons_succ, List.getElem_toArray, List.getElem_cons_zero, List.getElem_cons_succ]
  -- 18: slot 43 := Op.binOp BinOp.neq 3 t40 t42 3 [guarded: some (14, false)]
  refine wpAnyH_take (i := 18) (v := ?_) rfl (by kernel_rfl) (by kernel_rfl) (by kernel_rfl) (fun _ _ _ h => h) (Or.inl ⟨by rfl, ?_⟩) (by assumption) ?_
  rotate_left
  · intro w hSw; go_simp; try with_reducible rfl
  try simp only [Act.put, List.setIfInBounds_toArray, List.set_cons_zero, List.set_cons_succ, List.getElem_toArray, List.getElem_cons_zero, List.getElem_cons_succ]
  -- 19: slot 44 := Op.pick t39 (const (Value.bool true)) t43
  refine wpAnyH_take (i := 19) (v := ?_) rfl (by kernel_rfl) (by kernel_rfl) (by kernel_rfl) (fun _ _ _ h => h) (Or.inl ⟨by rfl, ?_⟩) (by assumption) ?_
  rotate_left
  · intro w hSw; go_simp; try with_reducible rfl
  try simp only [Act.put, List.setIfInBounds_toArray, List.set_cons_zero, List.set_cons_succ, List.getElem_toArray, List.getElem_cons_zero, List.getElem_cons_succ]
  -- 20: slot 45 := Op.move t44
  refine wpAnyH_take (i := 20) (v := ?_) rfl (by kernel_rfl) (by kernel_rfl) (by kernel_rfl) (fun _ _ _ h => h) (Or.inl ⟨by rfl, ?_⟩) (by assumption) ?_
  rotate_left
  · intro w hSw; go_simp; try with_reducible rfl
  try simp only [Act.put, List.setIfInBounds_toArray, List.set_cons_zero, List.set_cons_succ, List.getElem_toArray, List.getElem_cons_zero, List.getElem_cons_succ]
  -- 21: slot 46 := Op.move t10 [guarded: some (20, false)]
  refine wpAnyH_take (i := 21) (v := ?_) rfl (by kernel_rfl) (by kernel_rfl) (by kernel_rfl) (fun _ _ _ h => h) (Or.inl ⟨by rfl, ?_⟩) (by assumption) ?_
  rotate_left
  · intro w hSw; go_simp; try with_reducible rfl
  try simp only [Act.put, List.setIfInBounds_toArray, List.set_cons_zero, List.set_cons_succ, List.getElem_toArray, List.getElem_cons_zero, List.getElem_cons_succ]
  -- 22: slot 47 := Op.unOp UnOp.not 4 t46 [guarded: some (20, false)]
  refine wpAnyH_take (i := 22) (v := ?_) rfl (by kernel_rfl) (by kernel_rfl) (by kernel_rfl) (fun _ _ _ h => h) (Or.inl ⟨by rfl, ?_⟩) (by assumption) ?_
  rotate_left
  · intro w hSw; go_simp; try with_reducible rfl
  try simp only [Act.put, List.setIfInBounds_toArray, List.set_cons_zero, List.set_cons_succ, List.getElem_toArray, List.getElem_cons_zero, List.getElem_cons_succ]
  -- 23: slot 48 := Op.pick t45 (const (Value.bool true)) t47
  refine wpAnyH_take (i := 23) (v := ?_) rfl (by kernel_rfl) (by kernel_rfl) (by kernel_rfl) (fun _ _ _ h => h) (Or.inl ⟨by rfl, ?_⟩) (by assumption) ?_
  rotate_left
  · intro w hSw; go_simp; try with_reducible rfl
  try simp only [Act.put, List.setIfInBounds_toArray, List.set_cons_zero, List.set_cons_succ, List.getElem_toArray, List.getElem_cons_zero, List.getElem_cons_succ]
  refine wpAnyH_done (by kernel_rfl) ?_ _
  clear hs1 hs2 hs3 hz2 hown4
  have hb4 : Below w.heap.size w w4 := below_then hb3 hb34
  clear hb4' hb34 hb3
  go_wp2_with fail
  refine (bytesOwn_any A bs c _ (by omega) (HR.out.below hb4)).mono ?_
  rintro e w6 ⟨A6, c6, rfl, hown6, hb6'⟩
  have hb6 := below_then hb4 hb6'
  have HR6 := Lib.hid hown6.reads
  clear hown6 hb6'
  rcases hT : getAt bs x2 with _ | ⟨v', e'⟩
  · have HT := Lib.hid hT
    clear hT
    go_wp2_with fail
    refine (vgetInt_none A6 bs bs.length c6 x2 _ rfl (by omega) hx0 hx1 HR6.out HT.out).mono ?_
    rintro e w7 ⟨rfl, rfl⟩
    go_wp2_with fail
    refine (rint_none _ A bs c x2 _ (by omega) hx0 hx1 (reader_new (HR.out.below hb6) c x2) HT.out).mono ?_
    rintro e w8 ⟨rfl, hpost⟩
    have hb8 := numPost_below hpost (hb6.trans ((below_new w6 _).mono hb6.size)) (hb6.size)
    obtain ⟨i', hrd, _, _⟩ := hpost
    have c2' := hrd.c2
    clear hrd
    go_wp2_with fail
    refine (vawake_any _).mono ?_
    rintro e w9 ⟨rfl, hb9'⟩
    have hb9 := below_then hb8 hb9'
    go_wp2
    go_ret
    exact ⟨rfl, hb9⟩
  · have HT := Lib.hid hT
    clear hT
    go_wp2_with fail
    refine (vgetInt_some A6 bs bs.length c6 x2 v' e' _ rfl (by omega) hx0 hx1 HR6.out HT.out).mono ?_
    rintro e w7 ⟨rfl, rfl⟩
    go_wp2_with fail
    refine (rint_some _ A bs c x2 v' e' _ (by omega) hx0 hx1 (reader_new (HR.out.below hb6) c x2) HT.out).mono ?_
    rintro e w8 ⟨rfl, hpost⟩
    have hb8 := numPost_below hpost (hb6.trans ((below_new w6 _).mono hb6.size)) (hb6.size)
    obtain ⟨i', hrd, hi', _⟩ := hpost
    have hi2 : i' = (e' : Int) := hi' (v', e') rfl
    subst hi2
    have c2' := hrd.c2
    have c1' := hrd.c1
    clear hrd hi'
    go_wp2_with fail
    refine (vawake_any _).mono ?_
    rintro e w9 ⟨rfl, hb9'⟩
    have hb9 := below_then hb8 hb9'
    go_wp2
    go_ret
    exact ⟨rfl, hb9⟩
end Go.Proofs.Ytfgmgmnhelodaaa
