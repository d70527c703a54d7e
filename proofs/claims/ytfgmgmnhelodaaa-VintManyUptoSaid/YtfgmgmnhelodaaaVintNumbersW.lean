/- VintNumbers: what it comes to. -/
import Derived.Test.YtfgmgmnhelodaaaVintSizesW
import Derived.IntWalk
namespace Go.Proofs.Ytfgmgmnhelodaaa
set_option linter.unusedVariables false
set_option linter.unusedSimpArgs false
open Go.RowKit
/-- a string made of bytes, in whatever world lies below -/
theorem string_rule {w : World} {A : Option Addr} {bs : List UInt8} (h : ReadsB w A bs) (n c : Nat) (hn : bs.length = n) :
    ∀ W : World, Below w.heap.size w W → (convert 23 9 (.slice A n c)).run Try.prog W = .ok (.string (strOf bs)) W := by
  intro W hW
  subst hn
  exact string_of (P := Try.prog) (h.below hW) 23 9 5 Try.underlying23 Try.underlying5 Try.underlying9 c
theorem refPut_n (n x : Nat) (w : World) (hn : n < 18446744073709551616) (hx : (enc n).length = x) :
    Calls Try.prog 13 #[.int .u64 (n : Int)] w fun e w' => ∃ A' c', e = .returned (.slice A' x c') ∧ OwnB w' w.heap.size (.slice A' x c') (enc n) ∧ Below w.heap.size w w' := by
  subst hx
  exact refPut_any n w hn
theorem vput_n (A : Option Addr) (bs : List UInt8) (n c v x : Nat) (w : World) (hb : bs.length = n) (hv : v < 18446744073709551616) (hx : n + (enc v).length = x) (hl : n + 10 ≤ 140737488355328) (hc : n ≤ c) (hr : ReadsB w A bs) :
    Calls Try.prog 12 #[.slice A n c, .int .u64 (v : Int)] w fun e w' => ∃ A' c', e = .returned (.slice A' x c') ∧ OwnB w' w.heap.size (.slice A' x c') (bs ++ enc v) ∧ Below w.heap.size w w' := by
  subst hb hx
  exact vput_any A bs c v w hv hl hc hr
theorem own99 {w : World} {base : Nat} {v : Value} {bs : List UInt8} (h : w.ownsRow base 5 1 v (u8s bs ++ [Value.int .u8 99]).length (u8s bs ++ [Value.int .u8 99])) : Hid (OwnB w base v (bs ++ [99])) := by
  show OwnB w base v (bs ++ [99])
  unfold OwnB
  rw [show u8s (bs ++ [99]) = u8s bs ++ [Value.int .u8 99] from (u8s_snoc bs 99).symm]
  simpa [u8s_length] using h
theorem wpAnyH_mono {P : Program} {ops : Array Oper} {Q : Exit → Act → World → Prop} {md : Region.Mode} {S S' : World → Prop} (h : ∀ w, S' w → S w) : ∀ (fuel : Nat) {listed : Array Bool} {a : Act} {w : World}, wpAnyH P md ops Q S' fuel listed a w → wpAnyH P md ops Q S fuel listed a w
  | 0, _, _, _, H => H
  | fuel + 1, _, _, _, H => ⟨H.1, fun i hi => wpOp_mono (fun a' w' h' => ⟨h _ h'.1, wpAnyH_mono h fuel h'.2⟩) (H.2 i hi)⟩
set_option maxRecDepth 100000 in
set_option maxHeartbeats 1600000 in
theorem vintNumbers_walk (x0 : Int) (A : Option Addr) (bs : List UInt8) (c : Nat) (x2 : Int) (w : World) (wf0 : (Lit.int .u64 x0).wf = true) (hr : ReadsB w A bs) (hc : bs.length ≤ c) (hb : c ≤ 140737488351232) (wf2 : (Lit.int .i64 x2).wf = true) :
    Calls Try.prog 3 #[.int .u64 x0, .slice A bs.length c, .int .i64 x2] w fun e w' => e = .returned (.bool true) ∧ Below w.heap.size w w' := by
  obtain ⟨v, rfl, hv⟩ := wf_u64 wf0
  obtain ⟨hx0, hx1⟩ := wf_i64 wf2
  have HV := Lib.hid hv
  have HR := Lib.hid hr
  clear wf0 wf2 hr hv
  have q1 : (bs.length : Int) ≤ 140737488351232 := by omega
  have hen := enc_le10 HV.out
  obtain ⟨m, hm⟩ : ∃ m, (enc v).length = m := ⟨_, rfl⟩
  obtain ⟨x, hx⟩ : ∃ x, bs.length + m = x := ⟨_, rfl⟩
  rw [hm] at hen
  have HM := Lib.hid hm
  have HXX := Lib.hid hx
  have hx3 : (x : Int) ≤ 140737488351242 := by omega
  clear hm hx
  go_enter Try.func3, Try.ntmps3
  go_wp2_with (first
    | (at_builtin; refine wpList_append_any _ rfl (.const (.slice none 0 0)) _ 23 rfl w.heap.size 5 _ 1 Try.underlying23 binfo rfl (by omega) (.slice none 0 0) 0 [] rfl (World.ownsRow_nil _ _ _ _) A bs.length c (u8s bs) rfl (u8s_length bs) HR.out (u8s_one bs) (by omega) (Nat.le_refl _) ?_; intro v1 w1 hown1' hg1 hat1; have hown1 : Hid (OwnB w1 w.heap.size v1 bs) := (by have := hown1'; rw [Nat.zero_add, List.nil_append] at this; exact this); clear hown1'; have hb1 : Below w.heap.size w w1 := (Below.refl _ _).grown hg1 (Nat.le_refl _) (by simp [Value.ownBlock]); clear hg1 hat1)
    | (at_builtin; refine wpList_append_full w.heap.size rfl _ _ 23 5 _ 1 rfl Try.underlying23 binfo rfl (by omega) v1 (u8s bs) _ rfl rfl rfl hown1.out.full hb1.size (by rw [u8s_length]; omega) ?_; intro v2 w2 hown2' hb2' hg2; have hown2 := own99 hown2'; clear hown2'; obtain ⟨A2, c2, hv2⟩ := hown2.out.slice; subst hv2; have hb2 := hb1.trans hb2'; have hcap := own_cap hown2.out; have hcap0 : bs.length ≤ c2 := (by have := hcap; rw [List.length_append] at this; omega); clear hown1 hb1 hb2'))
  have HR2 : Hid (ReadsB w2 A2 bs) := by
    have := ReadsB.take hown2.out.reads bs.length
    rwa [List.take_left] at this
  have HC99 : Hid (∃ g, A2 = some ⟨g, 0, none⟩ ∧ w2.cell? ⟨g, bs.length, none⟩ = some (.int .u8 99)) := by
    obtain ⟨g, cap, hv, _, _⟩ := hown2.out.form (by simp)
    injection hv with h1 _ _
    subst h1
    refine ⟨g, rfl, ?_⟩
    rw [hown2.out.cellAt bs.length (by simp)]
    simp [u8s]
  rw [List.length_append, List.length_singleton] at hcap
  have hcap2 : (bs.length : Int) + 1 ≤ (c2 : Int) := by omega
  clear hown2
  refine (vput_n A2 bs bs.length c2 v x _ rfl HV.out (by rw [HM.out, HXX.out]) (by omega) (by omega) HR2.out).mono ?_
  rintro e w3 ⟨A3, c3, rfl, hown3, hb3'⟩
  have HO3 := Lib.hid hown3
  have hb3 := below_then hb2 hb3'
  obtain ⟨g, hA2, hc99⟩ := HC99.out
  subst hA2
  have hc99' : ∀ W : World, Below w3.heap.size w3 W → W.cell? ⟨g, bs.length, none⟩ = some (.int .u8 99) := fun W h => cell_later h (cell_later hb3' hc99)
  have hs1 := string_rule HO3.out.reads x c3 (by rw [List.length_append, HM.out, HXX.out])
  have hs2 := string_rule (HR.out.below hb3) bs.length c rfl
  rw [strOf_append] at hs1
  have hz2 : ¬ (9223372036854775807 < (strOf bs).size + (strOf (enc v)).size) := by rw [strOf_size, strOf_size, HM.out]; omega
  clear HC99 hc99 hb3' hown3
  go_wp2
  have hw1 : IntKind.i64.wrap ((bs.length : Int) + 1) = (bs.length : Int) + 1 := IntWalk.i64_in _ (by omega)
  have hw2 : (0 : Int) ≤ (bs.length : Int) + 1 := by omega
  have hw3 : ((bs.length : Int) + 1).toNat = bs.length + 1 := by omega
  have hw4 : (bs.length : Int) < (bs.length : Int) + 1 := by omega
  have hS0 : Below w3.heap.size w3 w3.drew := (Below.refl _ _).drew
  refine wp_region_held_drew (S := fun w' => Below w3.heap.size w3 w') (by kernel_rfl) hS0 (fun _ => ?_)
  -- 0: slot 24 := Op.move t8
  refine wpAnyH_take (i := 0) (v := ?_) rfl (by kernel_rfl) (by kernel_rfl) (by kernel_rfl) (fun _ _ _ h => h) (Or.inl ⟨by rfl, ?_⟩) (by assumption) ?_
  rotate_left
  · intro w hSw; go_simp; try with_reducible rfl
  try simp only [Act.put, List.setIfInBounds_toArray, List.set_cons_zero, List.set_cons_succ, List.getElem_toArray, List.getElem_cons_zero, List.getElem_cons_succ]
  -- 1: slot 25 := Op.convert 23 9 t24
  refine wpAnyH_take (i := 1) (v := ?_) rfl (by kernel_rfl) (by kernel_rfl) (by kernel_rfl) (fun _ _ _ h => h) (Or.inl ⟨by rfl, ?_⟩) (by assumption) ?_
  rotate_left
  · intro w hSw; go_simp; try with_reducible rfl
  try simp only [Act.put, List.setIfInBounds_toArray, List.set_cons_zero, List.set_cons_succ, List.getElem_toArray, List.getElem_cons_zero, List.getElem_cons_succ]
  -- 2: slot 26 := Op.move t1
  refine wpAnyH_take (i := 2) (v := ?_) rfl (by kernel_rfl) (by kernel_rfl) (by kernel_rfl) (fun _ _ _ h => h) (Or.inl ⟨by rfl, ?_⟩) (by assumption) ?_
  rotate_left
  · intro w hSw; go_simp; try with_reducible rfl
  try simp only [Act.put, List.setIfInBounds_toArray, List.set_cons_zero, List.set_cons_succ, List.getElem_toArray, List.getElem_cons_zero, List.getElem_cons_succ]
  -- 3: slot 27 := Op.convert 23 9 t26
  refine wpAnyH_take (i := 3) (v := ?_) rfl (by kernel_rfl) (by kernel_rfl) (by kernel_rfl) (fun _ _ _ h => h) (Or.inl ⟨by rfl, ?_⟩) (by assumption) ?_
  rotate_left
  · intro w hSw; go_simp; try with_reducible rfl
  try simp only [Act.put, List.setIfInBounds_toArray, List.set_cons_zero, List.set_cons_succ, List.getElem_toArray, List.getElem_cons_zero, List.getElem_cons_succ]
  -- 4: slot 28 := Op.move t0
  refine wpAnyH_take (i := 4) (v := ?_) rfl (by kernel_rfl) (by kernel_rfl) (by kernel_rfl) (fun _ _ _ h => h) (Or.inl ⟨by rfl, ?_⟩) (by assumption) ?_
  rotate_left
  · intro w hSw; go_simp; try with_reducible rfl
  try simp only [Act.put, List.setIfInBounds_toArray, List.set_cons_zero, List.set_cons_succ, List.getElem_toArray, List.getElem_cons_zero, List.getElem_cons_succ]
  -- 5: slot 29 := Op.call { value (Operand.func 13), args := #[t28], argTypes := #[22] }
  refine wpAnyH_ready (rs := [5]) (by kernel_rfl) (by simp) ?_
  refine AllReadyH.cons rfl (fun K hK => ?_) AllReadyH.nil
  go_simp
  refine (refPut_n v m _ HV.out HM.out).mono ?_
  rintro e w4 ⟨A4, c4, rfl, hown4, hb4'⟩
  have hs3 := string_rule hown4.reads m c4 HM.out
  have hb34 := below_then hS0 hb4'
  refine hK.out _ _ hb34 (fun hHeld => ?_)
  clear hK K
  refine wpAnyH_mono (S' := fun w' => Below w4.heap.size w4 w') (fun W h => below_then hb34 h) _ ?_
  have hS1 : Below w4.heap.size w4 w4 := Below.refl _ _
  have hc99'' : ∀ W : World, Below w4.heap.size w4 W → W.cell? ⟨g, bs.length, none⟩ = some (.int .u8 99) := fun W h => hc99' W (below_then hb34 h)
  try simp only [Act.put, List.setIfInBounds_toArray, List.set_cons_zero, List.set_cons_succ, List.getElem_toArray, List.getElem_cons_zero, List.getElem_cons_succ]
  -- 6: slot 30 := Op.convert 23 9 t29
  refine wpAnyH_take (i := 6) (v := ?_) rfl (by kernel_rfl) (by kernel_rfl) (by kernel_rfl) (fun _ _ _ h => h) (Or.inl ⟨by rfl, ?_⟩) (by assumption) ?_
  rotate_left
  · intro w hSw; go_simp; try with_reducible rfl
  try simp only [Act.put, List.setIfInBounds_toArray, List.set_cons_zero, List.set_cons_succ, List.getElem_toArray, List.getElem_cons_zero, List.getElem_cons_succ]
  -- 7: slot 31 := Op.binOp BinOp.add 9 t27 t30 9
  refine wpAnyH_take (i := 7) (v := ?_) rfl (by kernel_rfl) (by kernel_rfl) (by kernel_rfl) (fun _ _ _ h => h) (Or.inl ⟨by rfl, ?_⟩) (by assumption) ?_
  rotate_left
  · intro w hSw; go_simp; try with_reducible rfl
  try simp only [Act.put, List.setIfInBounds_toArray, List.set_cons_zero, List.set_cons_succ, List.getElem_toArray, List.getElem_cons_zero, List.getElem_cons_succ]
  -- 8: slot 32 := Op.binOp BinOp.neq 9 t25 t31 9
  refine wpAnyH_take (i := 8) (v := ?_) rfl (by kernel_rfl) (by kernel_rfl) (by kernel_rfl) (fun _ _ _ h => h) (Or.inl ⟨by rfl, ?_⟩) (by assumption) ?_
  rotate_left
  · intro w hSw; go_simp; try with_reducible rfl
  try simp only [Act.put, List.setIfInBounds_toArray, List.set_cons_zero, List.set_cons_succ, List.getElem_toArray, List.getElem_cons_zero, List.getElem_cons_succ]
  -- 9: slot 33 := Op.move t32
  refine wpAnyH_take (i := 9) (v := ?_) rfl (by kernel_rfl) (by kernel_rfl) (by kernel_rfl) (fun _ _ _ h => h) (Or.inl ⟨by rfl, ?_⟩) (by assumption) ?_
  rotate_left
  · intro w hSw; go_simp; try with_reducible rfl
  try simp only [Act.put, List.setIfInBounds_toArray, List.set_cons_zero, List.set_cons_succ, List.getElem_toArray, List.getElem_cons_zero, List.getElem_cons_succ]
  -- 10: slot 34 := Op.move t7 [guarded: some (9, false)]
  refine wpAnyH_take (i := 10) (v := ?_) rfl (by kernel_rfl) (by kernel_rfl) (by kernel_rfl) (fun _ _ _ h => h) (Or.inl ⟨by rfl, ?_⟩) (by assumption) ?_
  rotate_left
  · intro w hSw; go_simp; try with_reducible rfl
  try simp only [Act.put, List.setIfInBounds_toArray, List.set_cons_zero, List.set_cons_succ, List.getElem_toArray, List.getElem_cons_zero, List.getElem_cons_succ]
  -- 11: slot 35 := Op.move t1 [guarded: some (9, false)]
  refine wpAnyH_take (i := 11) (v := ?_) rfl (by kernel_rfl) (by kernel_rfl) (by kernel_rfl) (fun _ _ _ h => h) (Or.inl ⟨by rfl, ?_⟩) (by assumption) ?_
  rotate_left
  · intro w hSw; go_simp; try with_reducible rfl
  try simp only [Act.put, List.setIfInBounds_toArray, List.set_cons_zero, List.set_cons_succ, List.getElem_toArray, List.getElem_cons_zero, List.getElem_cons_succ]
  -- 12: slot 36 := Op.call { builtin len, args := #[t35], argTypes := #[23] } [guarded: some (
  refine wpAnyH_take (i := 12) (v := ?_) rfl (by kernel_rfl) (by kernel_rfl) (by kernel_rfl) (fun _ _ _ h => h) (Or.inl ⟨by rfl, ?_⟩) (by assumption) ?_
  rotate_left
  · intro w hSw; go_simp; try with_reducible rfl
  try simp only [Act.put, List.setIfInBounds_toArray, List.set_cons_zero, List.set_cons_succ, List.getElem_toArray, List.getElem_cons_zero, List.getElem_cons_succ]
  -- 13: slot 37 := Op.binOp BinOp.add 3 t36 (const (1:i64)) 3 [guarded: some (9, false)]
  refine wpAnyH_take (i := 13) (v := ?_) rfl (by kernel_rfl) (by kernel_rfl) (by kernel_rfl) (fun _ _ _ h => h) (Or.inl ⟨by rfl, ?_⟩) (by assumption) ?_
  rotate_left
  · intro w hSw; go_simp; try with_reducible rfl
  try simp only [Act.put, List.setIfInBounds_toArray, List.set_cons_zero, List.set_cons_succ, List.getElem_toArray, List.getElem_cons_zero, List.getElem_cons_succ]
  -- 14: slot 38 := Op.slice 23 t34 none (some t37) none [guarded: some (9, false)]
  refine wpAnyH_take (i := 14) (v := ?_) rfl (by kernel_rfl) (by kernel_rfl) (by kernel_rfl) (fun _ _ _ h => h) (Or.inl ⟨by rfl, ?_⟩) (by assumption) ?_
  rotate_left
  · intro w hSw; go_simp; try with_reducible rfl
  try simp only [Act.put, List.setIfInBounds_toArray, List.set_cons_zero, List.set_cons_succ, List.getElem_toArray, List.getElem_cons_zero, List.getElem_cons_succ]
  -- 15: slot 39 := Op.move t1 [guarded: some (9, false)]
  refine wpAnyH_take (i := 15) (v := ?_) rfl (by kernel_rfl) (by kernel_rfl) (by kernel_rfl) (fun _ _ _ h => h) (Or.inl ⟨by rfl, ?_⟩) (by assumption) ?_
  rotate_left
  · intro w hSw; go_simp; try with_reducible rfl
  try simp only [Act.put, List.setIfInBounds_toArray, List.set_cons_zero, List.set_cons_succ, List.getElem_toArray, List.getElem_cons_zero, List.getElem_cons_succ]
  -- 16: slot 40 := Op.call { builtin len, args := #[t39], argTypes := #[23] } [guarded: some (
  refine wpAnyH_take (i := 16) (v := ?_) rfl (by kernel_rfl) (by kernel_rfl) (by kernel_rfl) (fun _ _ _ h => h) (Or.inl ⟨by rfl, ?_⟩) (by assumption) ?_
  rotate_left
  · intro w hSw; go_simp; try with_reducible rfl
  try simp only [Act.put, List.setIfInBounds_toArray, List.set_cons_zero, List.set_cons_succ, List.getElem_toArray, List.getElem_cons_zero, List.getElem_cons_succ]
  -- 17: slot 41 := Op.indexAddr 23 t38 t40 [guarded: some (9, false)]
  refine wpAnyH_take (i := 17) (v := ?_) rfl (by kernel_rfl) (by kernel_rfl) (by kernel_rfl) (fun _ _ _ h => h) (Or.inl ⟨by rfl, ?_⟩) (by assumption) ?_
  rotate_left
  · intro w hSw; go_simp; try with_reducible rfl
  try simp only [Act.put, List.setIfInBounds_toArray, List.set_cons_zero, List.set_cons_succ, List.getElem_toArray, List.getElem_cons_zero, List.getElem_cons_succ]
  -- 18: slot 42 := Op.load 5 t41 [guarded: some (9, false)]
  refine wpAnyH_take (i := 18) (v := ?_) rfl (by kernel_rfl) (by kernel_rfl) (by kernel_rfl) (fun _ _ _ h => h) (Or.inl ⟨by rfl, ?_⟩) (by assumption) ?_
  rotate_left
  · intro w hSw; go_simp; try with_reducible rfl
  try simp only [Act.put, List.setIfInBounds_toArray, List.set_cons_zero, List.set_cons_succ, List.getElem_toArray, List.getElem_cons_zero, List.getElem_cons_succ]
  -- 19: slot 43 := Op.binOp BinOp.neq 5 t42 (const (99:u8)) 5 [guarded: some (9, false)]
  refine wpAnyH_take (i := 19) (v := ?_) rfl (by kernel_rfl) (by kernel_rfl) (by kernel_rfl) (fun _ _ _ h => h) (Or.inl ⟨by rfl, ?_⟩) (by assumption) ?_
  rotate_left
  · intro w hSw; go_simp; try with_reducible rfl
  try simp only [Act.put, List.setIfInBounds_toArray, List.set_cons_zero, List.set_cons_succ, List.getElem_toArray, List.getElem_cons_zero, List.getElem_cons_succ]
  -- 20: slot 44 := Op.pick t33 (const (Value.bool true)) t43
  refine wpAnyH_take (i := 20) (v := ?_) rfl (by kernel_rfl) (by kernel_rfl) (by kernel_rfl) (fun _ _ _ h => h) (Or.inl ⟨by rfl, ?_⟩) (by assumption) ?_
  rotate_left
  · intro w hSw; go_simp; try with_reducible rfl
  try simp only [Act.put, List.setIfInBounds_toArray, List.set_cons_zero, List.set_cons_succ, List.getElem_toArray, List.getElem_cons_zero, List.getElem_cons_succ]
  refine wpAnyH_done (by kernel_rfl) ?_ _
  clear hw1 hw2 hw3 hw4 hs1 hs2 hs3 hz2 hc99' hc99'' hown4 hcap hcap0 hcap2 HR2
  have hb4 : Below w.heap.size w w4 := below_then hb3 hb34
  have HO4 := Lib.hid (HO3.out.below hb34)
  clear HO3 hb4' hb34 hb3 hb2
  go_wp2_with fail
  refine (vget_some A3 (bs ++ enc v) x c3 bs.length v x _ (by rw [List.length_append, HM.out, HXX.out]) (by omega) (by omega) (by omega) HO4.out.reads (by have := getAt_enc bs [] v HV.out; rw [List.append_nil, HM.out, HXX.out] at this; exact this)).mono ?_
  rintro e w5 ⟨rfl, rfl⟩
  go_wp2_with fail
  refine (bytesOwn_any A bs c _ (by omega) (HR.out.below hb4)).mono ?_
  rintro e w6 ⟨A6, c6, rfl, hown6, hb6'⟩
  have hb6 := below_then hb4 hb6'
  have HR6 := Lib.hid hown6.reads
  clear hown6 hb6'
  rcases hT : getAt bs x2 with _ | ⟨v', e'⟩
  · have HT := Lib.hid hT
    clear hT
    go_wp2_with fail
    refine (vget_none A6 bs bs.length c6 x2 _ rfl (by omega) hx0 hx1 HR6.out HT.out).mono ?_
    rintro e w7 ⟨rfl, rfl⟩
    go_wp2_with fail
    refine (num_any _ A bs c x2 _ (by omega) hx0 hx1 (reader_new (HR.out.below hb6) c x2)).mono ?_
    rintro e w8 ⟨rfl, hpost⟩
    rw [HT.out] at hpost ⊢
    have hb8 := numPost_below hpost (hb6.trans ((below_new w6 _).mono hb6.size)) (hb6.size)
    obtain ⟨i', hrd, _, _⟩ := hpost
    have c2' := hrd.c2
    have HRD := Lib.hid hrd
    clear hrd
    go_wp2_with fail
    refine (vawake_any _).mono ?_
    rintro e w9 ⟨rfl, hb9'⟩
    have hb9 := below_then hb8 hb9'
    go_wp2
    go_ret
    exact ⟨rfl, hb9⟩
  · have HT := Lib.hid hT
    clear hT
    go_wp2_with fail
    refine (vget_some A6 bs bs.length c6 x2 v' e' _ rfl (by omega) hx0 hx1 HR6.out HT.out).mono ?_
    rintro e w7 ⟨rfl, rfl⟩
    go_wp2_with fail
    refine (num_any _ A bs c x2 _ (by omega) hx0 hx1 (reader_new (HR.out.below hb6) c x2)).mono ?_
    rintro e w8 ⟨rfl, hpost⟩
    rw [HT.out] at hpost ⊢
    have hb8 := numPost_below hpost (hb6.trans ((below_new w6 _).mono hb6.size)) (hb6.size)
    obtain ⟨i', hrd, hi', _⟩ := hpost
    have hi2 : i' = (e' : Int) := hi' (v', e') rfl
    subst hi2
    have c2' := hrd.c2
    have c1' := hrd.c1
    clear hrd hi'
    rw [show numV (some (v', e')) = (v' : Int) from rfl]
    go_wp2_with fail
    refine (vawake_any _).mono ?_
    rintro e w9 ⟨rfl, hb9'⟩
    have hb9 := below_then hb8 hb9'
    go_wp2
    go_ret
    exact ⟨rfl, hb9⟩
end Go.Proofs.Ytfgmgmnhelodaaa
