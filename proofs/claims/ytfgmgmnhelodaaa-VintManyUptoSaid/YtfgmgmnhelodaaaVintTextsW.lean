/- VintTexts: what it comes to. -/
import Derived.Test.YtfgmgmnhelodaaaRefText
import Derived.Test.YtfgmgmnhelodaaaBulk
namespace Go.Proofs.Ytfgmgmnhelodaaa
set_option linter.unusedVariables false
set_option linter.unusedSimpArgs false
open Go.RowKit
theorem ownB_cap {w : World} {base : Nat} {A : Option Addr} {n c : Nat} {bs : List UInt8} (h : OwnB w base (.slice A n c) bs) : n ≤ c := by
  have hl : bs.length = n := by
    obtain ⟨A', c', hv⟩ := h.slice
    injection hv with _ h2 _
    exact h2.symm
  unfold OwnB at h
  rw [hl] at h
  exact own_cap h
theorem getText_enc (bs s r : List UInt8) (hs : s.length < 18446744073709551616) : getText (bs ++ (encText s ++ r)) (bs.length : Int) (s.length : Int) = some (s, bs.length + (encText s).length) := by
  have h := getAt_enc bs (s ++ r) s.length hs
  unfold getText
  rw [show encText s ++ r = enc s.length ++ (s ++ r) by simp [encText], h]
  simp only
  rw [if_neg (by simp only [List.length_append]; omega)]
  simp only [Option.some.injEq, Prod.mk.injEq]
  refine ⟨?_, by simp [encText]; omega⟩
  rw [← List.append_assoc, List.drop_left' (by rw [List.length_append]), List.take_left]
theorem vputText_n (A : Option Addr) (bs : List UInt8) (n c : Nat) (s : ByteArray) (x : Nat) (w : World) (hb : bs.length = n) (hx : n + (encText s.data.toList).length = x) (hl : n + 10 + s.size ≤ 140737488355328) (hc : n ≤ c) (hr : ReadsB w A bs) :
    Calls Try.prog 22 #[.slice A n c, .string s] w fun e w' => ∃ A' c', e = .returned (.slice A' x c') ∧ OwnB w' w.heap.size (.slice A' x c') (bs ++ encText s.data.toList) ∧ Below w.heap.size w w' := by
  subst hb hx
  exact vputText_any A bs c s w hl hc hr
set_option maxRecDepth 100000 in
set_option maxHeartbeats 1600000 in
theorem vintTexts_walk (s : ByteArray) (A : Option Addr) (bs : List UInt8) (c : Nat) (x2 x3 : Int) (w : World) (hsz : s.size ≤ 1048576) (hr : ReadsB w A bs) (hc : bs.length ≤ c) (hb : c ≤ 1048576) (wf2 : (Lit.int .i64 x2).wf = true) (wf3 : (Lit.int .i64 x3).wf = true) :
    Calls Try.prog 6 #[.string s, .slice A bs.length c, .int .i64 x2, .int .i64 x3] w fun e w' => e = .returned (.bool true) ∧ Below w.heap.size w w' := by
  obtain ⟨hx0, hx1⟩ := wf_i64 wf2
  obtain ⟨hy0, hy1⟩ := wf_i64 wf3
  have HR := Lib.hid hr
  clear wf2 wf3 hr
  have q1 : (bs.length : Int) ≤ 1048576 := by omega
  have q2 : (s.size : Int) ≤ 1048576 := by omega
  have hd : s.data.toList.length = s.size := by rw [Array.length_toList]; rfl
  have hen : (encText s.data.toList).length ≤ 10 + s.size := by
    have := enc_le10 (v := s.data.toList.length) (by omega)
    simp only [encText, List.length_append]
    omega
  have HG := Lib.hid (getText_enc bs s.data.toList [] (by omega))
  obtain ⟨m, hm⟩ : ∃ m, (encText s.data.toList).length = m := ⟨_, rfl⟩
  obtain ⟨x, hx⟩ : ∃ x, bs.length + m = x := ⟨_, rfl⟩
  rw [hm] at hen
  have HM := Lib.hid hm
  have HXX := Lib.hid hx
  have HD := Lib.hid hd
  have hx3 : (x : Int) ≤ 3000000 := by omega
  clear hm hx hd
  go_enter Try.func6, Try.ntmps6
  go_wp2_with fail
  refine (bytesOwn_any A bs c _ (by omega) HR.out).mono ?_
  rintro e w1 ⟨A1, c1, rfl, hown1, hb1⟩
  have hcap := ownB_cap hown1
  have HR1 := Lib.hid hown1.reads
  clear hown1
  go_wp2_with fail
  refine (vputText_n A1 bs bs.length c1 s x _ rfl (by rw [HM.out, HXX.out]) (by omega) (by omega) HR1.out).mono ?_
  rintro e w3 ⟨A3, c3, rfl, hown3, hb3'⟩
  have HO3 := Lib.hid hown3
  have hb3 := below_then hb1 hb3'
  have hcap3 := ownB_cap hown3
  clear hown3 hb3' HR1 hcap
  go_wp2_with fail
  refine (vgetText_some A3 (bs ++ encText s.data.toList) x c3 bs.length s.size s.data.toList x _ (by rw [List.length_append, HM.out, HXX.out]) (by omega) hcap3 (by omega) (by omega) (by omega) (by omega) HO3.out.reads (by have := HG.out; rw [List.append_nil, HM.out, HXX.out, HD.out] at this; exact this)).mono ?_
  rintro e w3' ⟨rfl, rfl⟩
  rw [strOf_toList]
  have hs1 := string_rule HO3.out.reads x c3 (by rw [List.length_append, HM.out, HXX.out])
  have hs2 := string_rule (HR.out.below hb3) bs.length c rfl
  rw [strOf_append] at hs1
  have hz2 : ¬ (9223372036854775807 < (strOf bs).size + (strOf (encText s.data.toList)).size) := by rw [strOf_size, strOf_size, HM.out]; omega
  go_wp2
  have hS0 : Below w3.heap.size w3 w3.drew := (Below.refl _ _).drew
  refine wp_region_held_drew (S := fun w' => Below w3.heap.size w3 w') (by kernel_rfl) hS0 (fun _ => ?_)
  -- 0: slot 29 := Op.move t9
  refine wpAnyH_take (i := 0) (v := ?_) rfl (by kernel_rfl) (by kernel_rfl) (by kernel_rfl) (fun _ _ _ h => h) (Or.inl ⟨by rfl, ?_⟩) (by assumption) ?_
  rotate_left
  · intro w hSw; go_simp; try with_reducible rfl
  try simp only [Act.put, List.setIfInBounds_toArray, List.set_cons_zero, List.set_cons_succ, List.getElem_toArray, List.getElem_cons_zero, List.getElem_cons_succ]
  -- 1: slot 30 := Op.convert 23 9 t29
  refine wpAnyH_take (i := 1) (v := ?_) rfl (by kernel_rfl) (by kernel_rfl) (by kernel_rfl) (fun _ _ _ h => h) (Or.inl ⟨by rfl, ?_⟩) (by assumption) ?_
  rotate_left
  · intro w hSw; go_simp; try with_reducible rfl
  try simp only [Act.put, List.setIfInBounds_toArray, List.set_cons_zero, List.set_cons_succ, List.getElem_toArray, List.getElem_cons_zero, List.getElem_cons_succ]
  -- 2: slot 31 := Op.move t1
  refine wpAnyH_take (i := 2) (v := ?_) rfl (by kernel_rfl) (by kernel_rfl) (by kernel_rfl) (fun _ _ _ h => h) (Or.inl ⟨by rfl, ?_⟩) (by assumption) ?_
  rotate_left
  · intro w hSw; go_simp; try with_reducible rfl
  try simp only [Act.put, List.setIfInBounds_toArray, List.set_cons_zero, List.set_cons_succ, List.getElem_toArray, List.getElem_cons_zero, List.getElem_cons_succ]
  -- 3: slot 32 := Op.convert 23 9 t31
  refine wpAnyH_take (i := 3) (v := ?_) rfl (by kernel_rfl) (by kernel_rfl) (by kernel_rfl) (fun _ _ _ h => h) (Or.inl ⟨by rfl, ?_⟩) (by assumption) ?_
  rotate_left
  · intro w hSw; go_simp; try with_reducible rfl
  try simp only [Act.put, List.setIfInBounds_toArray, List.set_cons_zero, List.set_cons_succ, List.getElem_toArray, List.getElem_cons_zero, List.getElem_cons_succ]
  -- 4: slot 33 := Op.move t0
  refine wpAnyH_take (i := 4) (v := ?_) rfl (by kernel_rfl) (by kernel_rfl) (by kernel_rfl) (fun _ _ _ h => h) (Or.inl ⟨by rfl, ?_⟩) (by assumption) ?_
  rotate_left
  · intro w hSw; go_simp; try with_reducible rfl
  try simp only [Act.put, List.setIfInBounds_toArray, List.set_cons_zero, List.set_cons_succ, List.getElem_toArray, List.getElem_cons_zero, List.getElem_cons_succ]
  -- 5: slot 34 := Op.call { value (Operand.func 24), args := #[t33], argTypes := #[9] }
  refine wpAnyH_ready (rs := [5]) (by kernel_rfl) (by simp) ?_
  refine AllReadyH.cons rfl (fun K hK => ?_) AllReadyH.nil
  go_simp
  refine (refText_n s m _ (by omega) HM.out).mono ?_
  rintro e w4 ⟨A4, c4, rfl, hown4, hb4'⟩
  have hs3 := string_rule hown4.reads m c4 HM.out
  have hb34 := below_then hS0 hb4'
  refine hK.out _ _ hb34 (fun hHeld => ?_)
  clear hK K
  refine wpAnyH_mono (S' := fun w' => Below w4.heap.size w4 w') (fun W h => below_then hb34 h) _ ?_
  have hS1 : Below w4.heap.size w4 w4 := Below.refl _ _
  try simp only [Act.put, List.setIfInBounds_toArray, List.set_cons_zero, List.set_cons_succ, List.getElem_toArray, List.getElem_cons_zero, List.getElem_cons_succ]
  -- 6: slot 35 := Op.convert 23 9 t34
  refine wpAnyH_take (i := 6) (v := ?_) rfl (by kernel_rfl) (by kernel_rfl) (by kernel_rfl) (fun _ _ _ h => h) (Or.inl ⟨by rfl, ?_⟩) (by assumption) ?_
  rotate_left
  · intro w hSw; go_simp; try with_reducible rfl
  try simp only [Act.put, List.setIfInBounds_toArray, List.set_cons_zero, List.set_cons_succ, List.getElem_toArray, List.getElem_cons_zero, List.getElem_cons_succ]
  -- 7: slot 36 := Op.binOp BinOp.add 9 t32 t35 9
  refine wpAnyH_take (i := 7) (v := ?_) rfl (by kernel_rfl) (by kernel_rfl) (by kernel_rfl) (fun _ _ _ h => h) (Or.inl ⟨by rfl, ?_⟩) (by assumption) ?_
  rotate_left
  · intro w hSw; go_simp; try with_reducible rfl
  try simp only [Act.put, List.setIfInBounds_toArray, List.set_cons_zero, List.set_cons_succ, List.getElem_toArray, List.getElem_cons_zero, List.getElem_cons_succ]
  -- 8: slot 37 := Op.binOp BinOp.neq 9 t30 t36 9
  refine wpAnyH_take (i := 8) (v := ?_) rfl (by kernel_rfl) (by kernel_rfl) (by kernel_rfl) (fun _ _ _ h => h) (Or.inl ⟨by rfl, ?_⟩) (by assumption) ?_
  rotate_left
  · intro w hSw; go_simp; try with_reducible rfl
  try simp only [Act.put, List.setIfInBounds_toArray, List.set_cons_zero, List.set_cons_succ, List.getElem_toArray, List.getElem_cons_zero, List.getElem_cons_succ]
  -- 9: slot 38 := Op.move t37
  refine wpAnyH_take (i := 9) (v := ?_) rfl (by kernel_rfl) (by kernel_rfl) (by kernel_rfl) (fun _ _ _ h => h) (Or.inl ⟨by rfl, ?_⟩) (by assumption) ?_
  rotate_left
  · intro w hSw; go_simp; try with_reducible rfl
  try simp only [Act.put, List.setIfInBounds_toArray, List.set_cons_zero, List.set_cons_succ, List.getElem_toArray, List.getElem_cons_zero, List.getElem_cons_succ]
  -- 10: slot 39 := Op.move t10 [guarded: some (9, false)]
  refine wpAnyH_take (i := 10) (v := ?_) rfl (by kernel_rfl) (by kernel_rfl) (by kernel_rfl) (fun _ _ _ h => h) (Or.inl ⟨by rfl, ?_⟩) (by assumption) ?_
  rotate_left
  · intro w hSw; go_simp; try with_reducible rfl
  try simp only [Act.put, List.setIfInBounds_toArray, List.set_cons_zero, List.set_cons_succ, List.getElem_toArray, List.getElem_cons_zero, List.getElem_cons_succ]
  -- 11: slot 40 := Op.move t0 [guarded: some (9, false)]
  refine wpAnyH_take (i := 11) (v := ?_) rfl (by kernel_rfl) (by kernel_rfl) (by kernel_rfl) (fun _ _ _ h => h) (Or.inl ⟨by rfl, ?_⟩) (by assumption) ?_
  rotate_left
  · intro w hSw; go_simp; try with_reducible rfl
  try simp only [Act.put, List.setIfInBounds_toArray, List.set_cons_zero, List.set_cons_succ, List.getElem_toArray, List.getElem_cons_zero, List.getElem_cons_succ]
  -- 12: slot 41 := Op.binOp BinOp.neq 9 t39 t40 9 [guarded: some (9, false)]
  refine wpAnyH_take (i := 12) (v := ?_) rfl (by kernel_rfl) (by kernel_rfl) (by kernel_rfl) (fun _ _ _ h => h) (Or.inl ⟨by rfl, ?_⟩) (by assumption) ?_
  rotate_left
  · intro w hSw; go_simp; try with_reducible rfl
  try simp only [Act.put, List.setIfInBounds_toArray, List.set_cons_zero, List.set_cons_succ, List.getElem_toArray, List.getElem_cons_zero, List.getElem_cons_succ]
  -- 13: slot 42 := Op.pick t38 (const (Value.bool true)) t41
  refine wpAnyH_take (i := 13) (v := ?_) rfl (by kernel_rfl) (by kernel_rfl) (by kernel_rfl) (fun _ _ _ h => h) (Or.inl ⟨by rfl, ?_⟩) (by assumption) ?_
  rotate_left
  · intro w hSw; go_simp; try with_reducible rfl
  try simp only [Act.put, List.setIfInBounds_toArray, List.set_cons_zero, List.set_cons_succ, List.getElem_toArray, List.getElem_cons_zero, List.getElem_cons_succ]
  -- 14: slot 43 := Op.move t42
  refine wpAnyH_take (i := 14) (v := ?_) rfl (by kernel_rfl) (by kernel_rfl) (by kernel_rfl) (fun _ _ _ h => h) (Or.inl ⟨by rfl, ?_⟩) (by assumption) ?_
  rotate_left
  · intro w hSw; go_simp; try with_reducible rfl
  try simp only [Act.put, List.setIfInBounds_toArray, List.set_cons_zero, List.set_cons_succ, List.getElem_toArray, List.getElem_cons_zero, List.getElem_cons_succ]
  -- 15: slot 44 := Op.move t11 [guarded: some (14, false)]
  refine wpAnyH_take (i := 15) (v := ?_) rfl (by kernel_rfl) (by kernel_rfl) (by kernel_rfl) (fun _ _ _ h => h) (Or.inl ⟨by rfl, ?_⟩) (by assumption) ?_
  rotate_left
  · intro w hSw; go_simp; try with_reducible rfl
  try simp only [Act.put, List.setIfInBounds_toArray, List.set_cons_zero, List.set_cons_succ, List.getElem_toArray, List.getElem_cons_zero, List.getElem_cons_succ]
  -- 16: slot 45 := Op.move t9 [guarded: some (14, false)]
  refine wpAnyH_take (i := 16) (v := ?_) rfl (by kernel_rfl) (by kernel_rfl) (by kernel_rfl) (fun _ _ _ h => h) (Or.inl ⟨by rfl, ?_⟩) (by assumption) ?_
  rotate_left
  · intro w hSw; go_simp; try with_reducible rfl
  try simp only [Act.put, List.setIfInBounds_toArray, List.set_cons_zero, List.set_cons_succ, List.getElem_toArray, List.getElem_cons_zero, List.getElem_cons_succ]
  -- 17: slot 46 := Op.call { builtin len, args := #[t45], argTypes := #[23] } [guarded: some (
  refine wpAnyH_take (i := 17) (v := ?_) rfl (by kernel_rfl) (by kernel_rfl) (by kernel_rfl) (fun _ _ _ h => h) (Or.inl ⟨by rfl, ?_⟩) (by assumption) ?_
  rotate_left
  · intro w hSw; go_simp; try with_reducible rfl
  try simp only [Act.put, List.setIfInBounds_toArray, List.set_cons_zero, List.set_cons_succ, List.getElem_toArray, List.getElem_cons_zero, List.getElem_cons_succ]
  -- 18: slot 47 := Op.binOp BinOp.neq 3 t44 t46 3 [guarded: some (14, false)]
  refine wpAnyH_take (i := 18) (v := ?_) rfl (by kernel_rfl) (by kernel_rfl) (by kernel_rfl) (fun _ _ _ h => h) (Or.inl ⟨by rfl, ?_⟩) (by assumption) ?_
  rotate_left
  · intro w hSw; go_simp; try with_reducible rfl
  try simp only [Act.put, List.setIfInBounds_toArray, List.set_cons_zero, List.set_cons_succ, List.getElem_toArray, List.getElem_cons_zero, List.getElem_cons_succ]
  -- 19: slot 48 := Op.pick t43 (const (Value.bool true)) t47
  refine wpAnyH_take (i := 19) (v := ?_) rfl (by kernel_rfl) (by kernel_rfl) (by kernel_rfl) (fun _ _ _ h => h) (Or.inl ⟨by rfl, ?_⟩) (by assumption) ?_
  rotate_left
  · intro w hSw; go_simp; try with_reducible rfl
  try simp only [Act.put, List.setIfInBounds_toArray, List.set_cons_zero, List.set_cons_succ, List.getElem_toArray, List.getElem_cons_zero, List.getElem_cons_succ]
  -- 20: slot 49 := Op.move t48
  refine wpAnyH_take (i := 20) (v := ?_) rfl (by kernel_rfl) (by kernel_rfl) (by kernel_rfl) (fun _ _ _ h => h) (Or.inl ⟨by rfl, ?_⟩) (by assumption) ?_
  rotate_left
  · intro w hSw; go_simp; try with_reducible rfl
  try simp only [Act.put, List.setIfInBounds_toArray, List.set_cons_zero, List.set_cons_succ, List.getElem_toArray, List.getElem_cons_zero, List.getElem_cons_succ]
  -- 21: slot 50 := Op.move t12 [guarded: some (20, false)]
  refine wpAnyH_take (i := 21) (v := ?_) rfl (by kernel_rfl) (by kernel_rfl) (by kernel_rfl) (fun _ _ _ h => h) (Or.inl ⟨by rfl, ?_⟩) (by assumption) ?_
  rotate_left
  · intro w hSw; go_simp; try with_reducible rfl
  try simp only [Act.put, List.setIfInBounds_toArray, List.set_cons_zero, List.set_cons_succ, List.getElem_toArray, List.getElem_cons_zero, List.getElem_cons_succ]
  -- 22: slot 51 := Op.unOp UnOp.not 4 t50 [guarded: some (20, false)]
  refine wpAnyH_take (i := 22) (v := ?_) rfl (by kernel_rfl) (by kernel_rfl) (by kernel_rfl) (fun _ _ _ h => h) (Or.inl ⟨by rfl, ?_⟩) (by assumption) ?_
  rotate_left
  · intro w hSw; go_simp; try with_reducible rfl
  try simp only [Act.put, List.setIfInBounds_toArray, List.set_cons_zero, List.set_cons_succ, List.getElem_toArray, List.getElem_cons_zero, List.getElem_cons_succ]
  -- 23: slot 52 := Op.pick t49 (const (Value.bool true)) t51
  refine wpAnyH_take (i := 23) (v := ?_) rfl (by kernel_rfl) (by kernel_rfl) (by kernel_rfl) (fun _ _ _ h => h) (Or.inl ⟨by rfl, ?_⟩) (by assumption) ?_
  rotate_left
  · intro w hSw; go_simp; try with_reducible rfl
  try simp only [Act.put, List.setIfInBounds_toArray, List.set_cons_zero, List.set_cons_succ, List.getElem_toArray, List.getElem_cons_zero, List.getElem_cons_succ]
  refine wpAnyH_done (by kernel_rfl) ?_ _
  clear hs1 hs2 hs3 hz2 hown4
  have hb4 : Below w.heap.size w w4 := below_then hb3 hb34
  clear hb4' hb34 hb3
  go_wp2_with fail
  refine (bytesOwn_any A bs c _ (by omega) (HR.out.below hb4)).mono ?_
  rintro e w6 ⟨A6, c6, rfl, hown6, hb6'⟩
  have hb6 := below_then hb4 hb6'
  have HR6 := Lib.hid hown6.reads
  have hcap6 := ownB_cap hown6
  clear hown6 hb6'
  rcases hT : getText bs x2 x3 with _ | ⟨v', e'⟩
  · have HT := Lib.hid hT
    clear hT
    go_wp2_with fail
    refine (vgetText_none A6 bs bs.length c6 x2 x3 _ rfl (by omega) hx0 hx1 hy0 hy1 HR6.out HT.out).mono ?_
    rintro e w7 ⟨rfl, rfl⟩
    go_wp2_with fail
    refine (rtext_none _ A bs c x2 x3 _ (by omega) hx0 hx1 hy0 hy1 (reader_new (HR.out.below hb6) c x2) HT.out).mono ?_
    rintro e w8 ⟨rfl, hpost⟩
    have hb8 := readPost_below hpost (hb6.trans ((below_new w6 _).mono hb6.size)) (hb6.size)
    obtain ⟨i', hrd, _, _⟩ := hpost
    have c2' := hrd.c2
    clear hrd
    go_wp2_with fail
    refine (vawake_any _).mono ?_
    rintro e w9 ⟨rfl, hb9'⟩
    have hb9 := below_then hb8 hb9'
    go_wp2
    go_ret
    exact ⟨rfl, hb9⟩
  · have HT := Lib.hid hT
    clear hT
    go_wp2_with fail
    refine (vgetText_some A6 bs bs.length c6 x2 x3 v' e' _ rfl (by omega) hcap6 hx0 hx1 hy0 hy1 HR6.out HT.out).mono ?_
    rintro e w7 ⟨rfl, rfl⟩
    go_wp2_with fail
    refine (rtext_some _ A bs c x2 x3 v' e' _ (by omega) hc hx0 hx1 hy0 hy1 (reader_new (HR.out.below hb6) c x2) HT.out).mono ?_
    rintro e w8 ⟨rfl, hpost⟩
    have hb8 := readPost_below hpost (hb6.trans ((below_new w6 _).mono hb6.size)) (hb6.size)
    obtain ⟨i', hrd, hi', _⟩ := hpost
    have hi2 : i' = (e' : Int) := hi' (v', e') rfl
    subst hi2
    have c2' := hrd.c2
    have c1' := hrd.c1
    clear hrd hi'
    go_wp2_with fail
    refine (vawake_any _).mono ?_
    rintro e w9 ⟨rfl, hb9'⟩
    have hb9 := below_then hb8 hb9'
    go_wp2
    go_ret
    exact ⟨rfl, hb9⟩
end Go.Proofs.Ytfgmgmnhelodaaa
