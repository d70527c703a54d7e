/- FramePuts: what it comes to. -/
import Derived.Test.YtimmemkiilblcaaFrameAwake
import Derived.Test.YtimmemkiilblcaaBulk
namespace Go.Proofs.Ytimmemkiilblcaa
set_option linter.unusedVariables false
set_option linter.unusedSimpArgs false
open Go.RowKit
theorem cut_hi (ad : Addr) (n c h : Nat) (hh : h ≤ c) : ∀ W : World, (Instr.slice 22 (.slice (some ad) n c) none (some (.int .i64 (h : Int))) none).run Try.prog W = .ok (.slice (some ad) h c) W := by
  intro W
  obtain ⟨ti, hti, hsz⟩ := info_size (P := Try.prog) binfo
  have hel : Try.prog.elem 22 = 5 := by simp [Program.elem, Try.underlying22]
  have hu : Try.prog.underlying 22 = some (.slice (Try.prog.elem 22)) := by rw [hel]; exact Try.underlying22
  rw [run_slice_h W 22 (some ad) n c hu .i64 (h : Int) (Int.natCast_nonneg _) (by omega), hel]
  simp [sizeOf, typeInfo, hti, hsz, sliced, Result.andThen, Addr.add]
theorem cut_hi' (ad : Addr) (n c h : Nat) (x : Int) (hx : x = (h : Int)) (hh : h ≤ c) : ∀ W : World, (Instr.slice 22 (.slice (some ad) n c) none (some (.int .i64 x)) none).run Try.prog W = .ok (.slice (some ad) h c) W := by
  subst hx
  exact cut_hi ad n c h hh
theorem wpAnyH_mono {P : Program} {ops : Array Oper} {Q : Exit → Act → World → Prop} {md : Region.Mode} {S S' : World → Prop} (h : ∀ w, S' w → S w) : ∀ (fuel : Nat) {listed : Array Bool} {a : Act} {w : World}, wpAnyH P md ops Q S' fuel listed a w → wpAnyH P md ops Q S fuel listed a w
  | 0, _, _, _, H => H
  | fuel + 1, _, _, _, H => ⟨H.1, fun i hi => wpOp_mono (fun a' w' h' => ⟨h _ h'.1, wpAnyH_mono h fuel h'.2⟩) (H.2 i hi)⟩
theorem bytesOwn_n (A : Option Addr) (bs : List UInt8) (n c : Nat) (w : World) (hn : bs.length = n) (hl : n ≤ 140737488355328) (hr : ReadsB w A bs) :
    Calls Try.prog 11 #[.slice A n c] w fun e w' => ∃ A' c', e = .returned (.slice A' n c') ∧ OwnB w' w.heap.size (.slice A' n c') bs ∧ Below w.heap.size w w' := by
  subst hn
  exact bytesOwn_any A bs c w hl hr
theorem rfput_n (A2 : Option Addr) (body : List UInt8) (m c2 : Nat) (x : Nat) (w : World) (hm : body.length = m) (hx : (frameEnc body).length = x) (h2 : m ≤ 1048576) (hr2 : ReadsB w A2 body) :
    Calls Try.prog 13 #[.slice A2 m c2] w fun e w' => ∃ A' c', e = .returned (.slice A' x c') ∧ OwnB w' w.heap.size (.slice A' x c') (frameEnc body) ∧ Below w.heap.size w w' := by
  subst hm
  exact rfput_any A2 body c2 x w hx h2 hr2
theorem take_app {α : Type} (a b : List α) (n : Nat) (h : a.length = n) : (a ++ b).take n = a := by subst h; simp
theorem cellB {w5 w7 : World} {p : Addr} {v : Value} (h : w5.cell? p = some v) (hb : Below w5.heap.size w5 w7) : ∀ W : World, Below w7.heap.size w7 W → W.cell? p = some v := by
  intro W hW
  have hlt := World.block_lt_of_cell? _ _ h
  exact ((hb.trans (hW.mono hb.size)).cell (p := p) hlt).trans h
set_option maxRecDepth 100000 in
set_option maxHeartbeats 1600000 in
theorem framePuts_walk (A : Option Addr) (bs : List UInt8) (c : Nat) (A2 : Option Addr) (body : List UInt8) (c2 : Nat) (w : World) (hr : ReadsB w A bs) (hc : bs.length ≤ c) (hb : c ≤ 1048576) (hr2 : ReadsB w A2 body) (hc2 : body.length ≤ c2) (hb2 : c2 ≤ 1048576) :
    Calls Try.prog 3 #[.slice A bs.length c, .slice A2 body.length c2] w fun e w' => e = .returned (.bool true) ∧ Below w.heap.size w w' := by
  have HR := Lib.hid hr
  have HR2 := Lib.hid hr2
  have hbl : body.length ≤ 1048576 := by omega
  obtain ⟨n, hn⟩ : ∃ n, bs.length = n := ⟨_, rfl⟩
  obtain ⟨m, hm⟩ : ∃ m, body.length = m := ⟨_, rfl⟩
  obtain ⟨X, hX⟩ : ∃ X, bs ++ frameEnc body = X := ⟨_, rfl⟩
  obtain ⟨x, hx⟩ : ∃ x, X.length = x := ⟨_, rfl⟩
  obtain ⟨y, hy⟩ : ∃ y, (frameEnc body).length = y := ⟨_, rfl⟩
  rw [hn] at hc
  rw [hm] at hc2 hbl
  rw [hn, hm]
  have HN := Lib.hid hn
  have HM := Lib.hid hm
  have HX := Lib.hid hX
  have HXX := Lib.hid hx
  have HY := Lib.hid hy
  have hS : Hid (strOf bs ++ strOf (frameEnc body) = strOf X) := by
    show _ = _
    rw [← hX, strOf_append]
  have hni : (n : Int) ≤ 1048576 := by omega
  have hz2 : Hid (¬ (9223372036854775807 < (strOf bs).size + (strOf (frameEnc body)).size)) := by
    show ¬ _
    rw [strOf_size, strOf_size, hn]
    have h1 := enc_le10 (v := body.length) (by omega)
    have h2 : (frameEnc body).length = (enc body.length).length + 4 + body.length := by
      simp [frameEnc, le4_length]
      omega
    omega
  clear hr hr2 hn hm hX hx hy
  go_enter Try.func3, Try.ntmps3
  go_wp2_with (at_builtin; first
    | (refine wpList_append_any _ rfl _ _ 22 rfl w.heap.size 5 _ 1 Try.underlying22 binfo rfl (by omega) (.slice A3 n c3) n (u8s bs) rfl (HO3.out.alloc _) (some ⟨w3.heap.size, 0, none⟩) 1 1 (u8s [99]) rfl rfl (Reads.lit _ _ _ _ _ rfl) (u8s_one _) (by omega) (by have := hb3.size; simp; omega) ?_; intro v5 w5 hown5 hg5 hat5; (obtain ⟨A5, c5, hv5⟩ := own_slice hown5); subst hv5; have hc5 := own_cap hown5; have hr5 : ReadsB w5 A5 (bs ++ [99]) := (by have h := ownB_mk hown5 (bs := bs ++ [99]) (by rw [List.length_append, HN.out]; rfl) rfl; have h2 : OwnB w5 w.heap.size (.slice A5 (n + 1) c5) (bs ++ [99]) := h; exact h2.reads); (obtain ⟨ad, hA, hcell⟩ := hr5.at (k := n) (by rw [List.length_append, HN.out]; simp)); subst hA; have hb5 : Below w.heap.size w w5 := (hb3.alloc hb3.size _).grown hg5 (by have := hb3.size; simp; omega) (fun k hk => own_base HO3.out k hk); have HR5 := Lib.hid hr5; have HC5 := Lib.hid hcell; have cut1 := cut_hi ad (n + 1) c5 n (by omega); clear hown5 hg5 hat5 hr5 hcell)
    | (refine wpList_append_any _ rfl _ _ 22 rfl w.heap.size 5 _ 1 Try.underlying22 binfo rfl (by omega) (.slice none 0 0) 0 [] rfl (World.ownsRow_nil _ _ _ _) A n c (u8s bs) rfl (by rw [u8s_length, HN.out]) HR.out (u8s_one _) (by omega) (Nat.le_refl _) ?_; intro v3 w3 hown3 hg3 hat3; simp only [List.nil_append, Nat.zero_add] at hown3 ⊢; (obtain ⟨A3, c3, hv3⟩ := own_slice hown3); subst hv3; have hb3 : Below w.heap.size w w3 := (Below.refl _ _).grown hg3 (Nat.le_refl _) (by simp [Value.ownBlock]); have HO3 := Lib.hid hown3; clear hown3 hg3 hat3))
  have hcell : w5.cell? (ad.add n) = some (.int .u8 99) := by
    have h := HC5.out
    rw [← HN.out] at h ⊢
    simpa using h
  have HCC := Lib.hid hcell
  have HRB : Hid (ReadsB w5 (some ad) bs) := by
    have h := ReadsB.take HR5.out n
    rwa [take_app bs [99] n HN.out] at h
  clear HC5 hcell
  refine (bytesOwn_n A2 body m c2 _ HM.out (by omega) (HR2.out.below hb5)).mono ?_
  rintro e w6 ⟨A6, c6, rfl, ho6, hb6⟩
  have hb6' := below_then hb5 hb6
  have HR6 := Lib.hid ho6.reads
  clear ho6
  by_cases hbad : m < 1
  · have q1 : (m : Int) < 1 := by omega
    have HBAD := Lib.hid hbad
    clear hbad
    go_wp2_with fail
    refine (fput_bad (.slice (some ad) n c5) A6 m c6 (some ad) n c5 _ rfl (.inl HBAD.out)).mono ?_
    rintro e w7 ⟨rfl, rfl⟩
    have hs1 := string_rule (HRB.out.below hb6) n c5 HN.out w6 (Below.refl _ _)
    have hs2 := string_rule (HR.out.below hb6') n c HN.out w6 (Below.refl _ _)
    go_wp2_with fail
    refine (awake_any _).mono ?_
    rintro e w8 ⟨rfl, hb8⟩
    have hb8' := below_then hb6' hb8
    go_wp2
    go_ret
    exact ⟨rfl, hb8'⟩
  · have q1 : (1 : Int) ≤ (m : Int) := by omega
    have q2 : (m : Int) ≤ 1048576 := by omega
    have HBAD := Lib.hid hbad
    clear hbad
    go_wp2_with fail
    refine (fput_n (some ad) bs n c5 A6 body m c6 X x _ HN.out HM.out HX.out HXX.out (by omega) (by omega) (HRB.out.below hb6) (by omega) hbl HR6.out).mono ?_
    rintro e w7 ⟨A7, c7, rfl, ho7, hc7, hb7⟩
    have hb7' := below_then hb6' hb7
    have hb57 := below_then hb6 hb7
    have HR7 := Lib.hid ho7.reads
    clear ho7
    have hs1 := string_rule HR7.out x c7 HXX.out
    have hs2 := string_rule (HR.out.below hb7') n c HN.out
    have hcR : ∀ W : World, Below w7.heap.size w7 W → W.cell? (ad.add n) = some (.int .u8 99) := (cellB ((HCC.out : w5.cell? (ad.add n) = _)) hb57)
    have cut2 := cut_hi' ad n c5 (n + 1) ((n : Int) + 1) (by omega) (by omega)
    go_wp2
    have hSS := hS.out
    have hzz := hz2.out
    have p0 : IntKind.i64.wrap ((n : Int) + 1) = (n : Int) + 1 := IntWalk.i64_in _ (by omega)
    have p1 : (0 : Int) ≤ (n : Int) + 1 := by omega
    have p2 : (n : Int) + 1 ≤ (c5 : Int) := by omega
    have p3 : ((n : Int) + 1).toNat = n + 1 := by omega
    have p4 : (n : Int) < (n : Int) + 1 := by omega
    have hS0 : Below w7.heap.size w7 w7.drew := (Below.refl _ _).drew
    refine wp_region_held_drew (S := fun w' => Below w7.heap.size w7 w') (by kernel_rfl) hS0 (fun _ => ?_)
    -- 0: slot 42 := Op.move t7
    refine wpAnyH_take (i := 0) (v := ?_) rfl (by kernel_rfl) (by kernel_rfl) (by kernel_rfl) (fun _ _ _ h => h) (Or.inl ⟨by rfl, ?_⟩) (by assumption) ?_
    rotate_left
    · intro w hSw; go_simp; try with_reducible rfl
    try simp only [Act.put, List.setIfInBounds_toArray, List.set_cons_zero, List.set_cons_succ, List.getElem_toArray, List.getElem_cons_zero, List.getElem_cons_succ]
    -- 1: slot 43 := Op.binOp BinOp.eql 23 t42 (const (0:i64)) 23
    refine wpAnyH_take (i := 1) (v := ?_) rfl (by kernel_rfl) (by kernel_rfl) (by kernel_rfl) (fun _ _ _ h => h) (Or.inl ⟨by rfl, ?_⟩) (by assumption) ?_
    rotate_left
    · intro w hSw; go_simp; try with_reducible rfl
    try simp only [Act.put, List.setIfInBounds_toArray, List.set_cons_zero, List.set_cons_succ, List.getElem_toArray, List.getElem_cons_zero, List.getElem_cons_succ]
    -- 2: slot 44 := Op.move t43
    refine wpAnyH_take (i := 2) (v := ?_) rfl (by kernel_rfl) (by kernel_rfl) (by kernel_rfl) (fun _ _ _ h => h) (Or.inl ⟨by rfl, ?_⟩) (by assumption) ?_
    rotate_left
    · intro w hSw; go_simp; try with_reducible rfl
    try simp only [Act.put, List.setIfInBounds_toArray, List.set_cons_zero, List.set_cons_succ, List.getElem_toArray, List.getElem_cons_zero, List.getElem_cons_succ]
    -- 3: slot 45 := Op.move t6 [guarded: some (2, true)]
    refine wpAnyH_take (i := 3) (v := ?_) rfl (by kernel_rfl) (by kernel_rfl) (by kernel_rfl) (fun _ _ _ h => h) (Or.inl ⟨by rfl, ?_⟩) (by assumption) ?_
    rotate_left
    · intro w hSw; go_simp; try with_reducible rfl
    try simp only [Act.put, List.setIfInBounds_toArray, List.set_cons_zero, List.set_cons_succ, List.getElem_toArray, List.getElem_cons_zero, List.getElem_cons_succ]
    -- 4: slot 46 := Op.convert 22 9 t45 [guarded: some (2, true)]
    refine wpAnyH_take (i := 4) (v := ?_) rfl (by kernel_rfl) (by kernel_rfl) (by kernel_rfl) (fun _ _ _ h => h) (Or.inl ⟨by rfl, ?_⟩) (by assumption) ?_
    rotate_left
    · intro w hSw; go_simp; try with_reducible rfl
    try simp only [Act.put, List.setIfInBounds_toArray, List.set_cons_zero, List.set_cons_succ, List.getElem_toArray, List.getElem_cons_zero, List.getElem_cons_succ]
    -- 5: slot 47 := Op.move t0 [guarded: some (2, true)]
    refine wpAnyH_take (i := 5) (v := ?_) rfl (by kernel_rfl) (by kernel_rfl) (by kernel_rfl) (fun _ _ _ h => h) (Or.inl ⟨by rfl, ?_⟩) (by assumption) ?_
    rotate_left
    · intro w hSw; go_simp; try with_reducible rfl
    try simp only [Act.put, List.setIfInBounds_toArray, List.set_cons_zero, List.set_cons_succ, List.getElem_toArray, List.getElem_cons_zero, List.getElem_cons_succ]
    -- 6: slot 48 := Op.convert 22 9 t47 [guarded: some (2, true)]
    refine wpAnyH_take (i := 6) (v := ?_) rfl (by kernel_rfl) (by kernel_rfl) (by kernel_rfl) (fun _ _ _ h => h) (Or.inl ⟨by rfl, ?_⟩) (by assumption) ?_
    rotate_left
    · intro w hSw; go_simp; try with_reducible rfl
    try simp only [Act.put, List.setIfInBounds_toArray, List.set_cons_zero, List.set_cons_succ, List.getElem_toArray, List.getElem_cons_zero, List.getElem_cons_succ]
    -- 7: slot 49 := Op.move t1 [guarded: some (2, true)]
    refine wpAnyH_take (i := 7) (v := ?_) rfl (by kernel_rfl) (by kernel_rfl) (by kernel_rfl) (fun _ _ _ h => h) (Or.inl ⟨by rfl, ?_⟩) (by assumption) ?_
    rotate_left
    · intro w hSw; go_simp; try with_reducible rfl
    try simp only [Act.put, List.setIfInBounds_toArray, List.set_cons_zero, List.set_cons_succ, List.getElem_toArray, List.getElem_cons_zero, List.getElem_cons_succ]
    -- 8: slot 50 := Op.call { value (Operand.func 13), args := #[t49], argTypes := #[22] } [gua
    refine wpAnyH_ready (rs := [8]) (by kernel_rfl) (by simp) ?_
    refine AllReadyH.cons rfl (fun K hK => ?_) AllReadyH.nil
    go_simp
    refine (rfput_n A2 body m c2 y _ HM.out HY.out hbl (HR2.out.below (below_then hb7' hS0))).mono ?_
    rintro e w8 ⟨A8, c8, rfl, ho8, hb8⟩
    have hs3 := string_rule ho8.reads y c8 HY.out
    have hb78 := below_then hS0 hb8
    have hcR8 : ∀ W : World, Below w8.heap.size w8 W → W.cell? (ad.add n) = some (.int .u8 99) := fun W hW => hcR W (below_then hb78 hW)
    refine hK.out _ _ hb78 (fun hHeld => ?_)
    clear hK K
    refine wpAnyH_mono (S' := fun w' => Below w8.heap.size w8 w') (fun W h => below_then hb78 h) _ ?_
    have hS1 : Below w8.heap.size w8 w8 := Below.refl _ _
    clear hs1 hs2 hcR
    try simp only [Act.put, List.setIfInBounds_toArray, List.set_cons_zero, List.set_cons_succ, List.getElem_toArray, List.getElem_cons_zero, List.getElem_cons_succ]
    -- 9: slot 51 := Op.convert 22 9 t50 [guarded: some (2, true)]
    refine wpAnyH_take (i := 9) (v := ?_) rfl (by kernel_rfl) (by kernel_rfl) (by kernel_rfl) (fun _ _ _ h => h) (Or.inl ⟨by rfl, ?_⟩) (by assumption) ?_
    rotate_left
    · intro w hSw; go_simp; try with_reducible rfl
    try simp only [Act.put, List.setIfInBounds_toArray, List.set_cons_zero, List.set_cons_succ, List.getElem_toArray, List.getElem_cons_zero, List.getElem_cons_succ]
    -- 10: slot 52 := Op.binOp BinOp.add 9 t48 t51 9 [guarded: some (2, true)]
    refine wpAnyH_take (i := 10) (v := ?_) rfl (by kernel_rfl) (by kernel_rfl) (by kernel_rfl) (fun _ _ _ h => h) (Or.inl ⟨by rfl, ?_⟩) (by assumption) ?_
    rotate_left
    · intro w hSw; go_simp; try with_reducible rfl
    try simp only [Act.put, List.setIfInBounds_toArray, List.set_cons_zero, List.set_cons_succ, List.getElem_toArray, List.getElem_cons_zero, List.getElem_cons_succ]
    -- 11: slot 53 := Op.binOp BinOp.eql 9 t46 t52 9 [guarded: some (2, true)]
    refine wpAnyH_take (i := 11) (v := ?_) rfl (by kernel_rfl) (by kernel_rfl) (by kernel_rfl) (fun _ _ _ h => h) (Or.inl ⟨by rfl, ?_⟩) (by assumption) ?_
    rotate_left
    · intro w hSw; go_simp; try with_reducible rfl
    try simp only [Act.put, List.setIfInBounds_toArray, List.set_cons_zero, List.set_cons_succ, List.getElem_toArray, List.getElem_cons_zero, List.getElem_cons_succ]
    -- 12: slot 54 := Op.pick t44 t53 (const (Value.bool false))
    refine wpAnyH_take (i := 12) (v := ?_) rfl (by kernel_rfl) (by kernel_rfl) (by kernel_rfl) (fun _ _ _ h => h) (Or.inl ⟨by rfl, ?_⟩) (by assumption) ?_
    rotate_left
    · intro w hSw; go_simp; try with_reducible rfl
    try simp only [Act.put, List.setIfInBounds_toArray, List.set_cons_zero, List.set_cons_succ, List.getElem_toArray, List.getElem_cons_zero, List.getElem_cons_succ]
    -- 13: slot 55 := Op.move t54
    refine wpAnyH_take (i := 13) (v := ?_) rfl (by kernel_rfl) (by kernel_rfl) (by kernel_rfl) (fun _ _ _ h => h) (Or.inl ⟨by rfl, ?_⟩) (by assumption) ?_
    rotate_left
    · intro w hSw; go_simp; try with_reducible rfl
    try simp only [Act.put, List.setIfInBounds_toArray, List.set_cons_zero, List.set_cons_succ, List.getElem_toArray, List.getElem_cons_zero, List.getElem_cons_succ]
    -- 14: slot 56 := Op.move t5 [guarded: some (13, true)]
    refine wpAnyH_take (i := 14) (v := ?_) rfl (by kernel_rfl) (by kernel_rfl) (by kernel_rfl) (fun _ _ _ h => h) (Or.inl ⟨by rfl, ?_⟩) (by assumption) ?_
    rotate_left
    · intro w hSw; go_simp; try with_reducible rfl
    try simp only [Act.put, List.setIfInBounds_toArray, List.set_cons_zero, List.set_cons_succ, List.getElem_toArray, List.getElem_cons_zero, List.getElem_cons_succ]
    -- 15: slot 57 := Op.move t0 [guarded: some (13, true)]
    refine wpAnyH_take (i := 15) (v := ?_) rfl (by kernel_rfl) (by kernel_rfl) (by kernel_rfl) (fun _ _ _ h => h) (Or.inl ⟨by rfl, ?_⟩) (by assumption) ?_
    rotate_left
    · intro w hSw; go_simp; try with_reducible rfl
    try simp only [Act.put, List.setIfInBounds_toArray, List.set_cons_zero, List.set_cons_succ, List.getElem_toArray, List.getElem_cons_zero, List.getElem_cons_succ]
    -- 16: slot 58 := Op.call { builtin len, args := #[t57], argTypes := #[22] } [guarded: some (
    refine wpAnyH_take (i := 16) (v := ?_) rfl (by kernel_rfl) (by kernel_rfl) (by kernel_rfl) (fun _ _ _ h => h) (Or.inl ⟨by rfl, ?_⟩) (by assumption) ?_
    rotate_left
    · intro w hSw; go_simp; try with_reducible rfl
    try simp only [Act.put, List.setIfInBounds_toArray, List.set_cons_zero, List.set_cons_succ, List.getElem_toArray, List.getElem_cons_zero, List.getElem_cons_succ]
    -- 17: slot 59 := Op.binOp BinOp.add 3 t58 (const (1:i64)) 3 [guarded: some (13, true)]
    refine wpAnyH_take (i := 17) (v := ?_) rfl (by kernel_rfl) (by kernel_rfl) (by kernel_rfl) (fun _ _ _ h => h) (Or.inl ⟨by rfl, ?_⟩) (by assumption) ?_
    rotate_left
    · intro w hSw; go_simp; try with_reducible rfl
    try simp only [Act.put, List.setIfInBounds_toArray, List.set_cons_zero, List.set_cons_succ, List.getElem_toArray, List.getElem_cons_zero, List.getElem_cons_succ]
    -- 18: slot 60 := Op.slice 22 t56 none (some t59) none [guarded: some (13, true)]
    refine wpAnyH_take (i := 18) (v := ?_) rfl (by kernel_rfl) (by kernel_rfl) (by kernel_rfl) (fun _ _ _ h => h) (Or.inl ⟨by rfl, ?_⟩) (by assumption) ?_
    rotate_left
    · intro w hSw; go_simp; try with_reducible rfl
    try simp only [Act.put, List.setIfInBounds_toArray, List.set_cons_zero, List.set_cons_succ, List.getElem_toArray, List.getElem_cons_zero, List.getElem_cons_succ]
    -- 19: slot 61 := Op.move t0 [guarded: some (13, true)]
    refine wpAnyH_take (i := 19) (v := ?_) rfl (by kernel_rfl) (by kernel_rfl) (by kernel_rfl) (fun _ _ _ h => h) (Or.inl ⟨by rfl, ?_⟩) (by assumption) ?_
    rotate_left
    · intro w hSw; go_simp; try with_reducible rfl
    try simp only [Act.put, List.setIfInBounds_toArray, List.set_cons_zero, List.set_cons_succ, List.getElem_toArray, List.getElem_cons_zero, List.getElem_cons_succ]
    -- 20: slot 62 := Op.call { builtin len, args := #[t61], argTypes := #[22] } [guarded: some (
    refine wpAnyH_take (i := 20) (v := ?_) rfl (by kernel_rfl) (by kernel_rfl) (by kernel_rfl) (fun _ _ _ h => h) (Or.inl ⟨by rfl, ?_⟩) (by assumption) ?_
    rotate_left
    · intro w hSw; go_simp; try with_reducible rfl
    try simp only [Act.put, List.setIfInBounds_toArray, List.set_cons_zero, List.set_cons_succ, List.getElem_toArray, List.getElem_cons_zero, List.getElem_cons_succ]
    -- 21: slot 63 := Op.indexAddr 22 t60 t62 [guarded: some (13, true)]
    refine wpAnyH_take (i := 21) (v := ?_) rfl (by kernel_rfl) (by kernel_rfl) (by kernel_rfl) (fun _ _ _ h => h) (Or.inl ⟨by rfl, ?_⟩) (by assumption) ?_
    rotate_left
    · intro w hSw; go_simp; try with_reducible rfl
    try simp only [Act.put, List.setIfInBounds_toArray, List.set_cons_zero, List.set_cons_succ, List.getElem_toArray, List.getElem_cons_zero, List.getElem_cons_succ]
    -- 22: slot 64 := Op.load 5 t63 [guarded: some (13, true)]
    refine wpAnyH_take (i := 22) (v := ?_) rfl (by kernel_rfl) (by kernel_rfl) (by kernel_rfl) (fun _ _ _ h => h) (Or.inl ⟨by rfl, ?_⟩) (by assumption) ?_
    rotate_left
    · intro w hSw; go_simp; try with_reducible rfl
    try simp only [Act.put, List.setIfInBounds_toArray, List.set_cons_zero, List.set_cons_succ, List.getElem_toArray, List.getElem_cons_zero, List.getElem_cons_succ]
    -- 23: slot 65 := Op.binOp BinOp.eql 5 t64 (const (99:u8)) 5 [guarded: some (13, true)]
    refine wpAnyH_take (i := 23) (v := ?_) rfl (by kernel_rfl) (by kernel_rfl) (by kernel_rfl) (fun _ _ _ h => h) (Or.inl ⟨by rfl, ?_⟩) (by assumption) ?_
    rotate_left
    · intro w hSw; go_simp; try with_reducible rfl
    try simp only [Act.put, List.setIfInBounds_toArray, List.set_cons_zero, List.set_cons_succ, List.getElem_toArray, List.getElem_cons_zero, List.getElem_cons_succ]
    -- 24: slot 66 := Op.pick t55 t65 (const (Value.bool false))
    refine wpAnyH_take (i := 24) (v := ?_) rfl (by kernel_rfl) (by kernel_rfl) (by kernel_rfl) (fun _ _ _ h => h) (Or.inl ⟨by rfl, ?_⟩) (by assumption) ?_
    rotate_left
    · intro w hSw; go_simp; try with_reducible rfl
    try simp only [Act.put, List.setIfInBounds_toArray, List.set_cons_zero, List.set_cons_succ, List.getElem_toArray, List.getElem_cons_zero, List.getElem_cons_succ]
    -- 25: slot 67 := Op.move t66
    refine wpAnyH_take (i := 25) (v := ?_) rfl (by kernel_rfl) (by kernel_rfl) (by kernel_rfl) (fun _ _ _ h => h) (Or.inl ⟨by rfl, ?_⟩) (by assumption) ?_
    rotate_left
    · intro w hSw; go_simp; try with_reducible rfl
    try simp only [Act.put, List.setIfInBounds_toArray, List.set_cons_zero, List.set_cons_succ, List.getElem_toArray, List.getElem_cons_zero, List.getElem_cons_succ]
    -- 26: slot 68 := Op.call { value (Operand.func 12), args := #[], argTypes := #[] } [guarded:
    refine wpAnyH_ready (rs := [26]) (by kernel_rfl) (by simp) ?_
    refine AllReadyH.cons rfl (fun K hK => ?_) AllReadyH.nil
    go_simp
    refine (awake_any _).mono ?_
    rintro e w9 ⟨rfl, hb9⟩
    refine hK.out _ _ hb9 (fun hHeld => ?_)
    clear hK K
    refine wpAnyH_mono (S' := fun w' => Below w9.heap.size w9 w') (fun W h => below_then hb9 h) _ ?_
    have hS2 : Below w9.heap.size w9 w9 := Below.refl _ _
    try simp only [Act.put, List.setIfInBounds_toArray, List.set_cons_zero, List.set_cons_succ, List.getElem_toArray, List.getElem_cons_zero, List.getElem_cons_succ]
    -- 27: slot 69 := Op.pick t67 t68 (const (Value.bool false))
    refine wpAnyH_take (i := 27) (v := ?_) rfl (by kernel_rfl) (by kernel_rfl) (by kernel_rfl) (fun _ _ _ h => h) (Or.inl ⟨by rfl, ?_⟩) (by assumption) ?_
    rotate_left
    · intro w hSw; go_simp; try with_reducible rfl
    try simp only [Act.put, List.setIfInBounds_toArray, List.set_cons_zero, List.set_cons_succ, List.getElem_toArray, List.getElem_cons_zero, List.getElem_cons_succ]
    -- 28: slot 4 := Op.assign t69
    refine wpAnyH_take (i := 28) (v := ?_) rfl (by kernel_rfl) (by kernel_rfl) (by kernel_rfl) (fun _ _ _ h => h) (Or.inl ⟨by rfl, ?_⟩) (by assumption) ?_
    rotate_left
    · intro w hSw; go_simp; try with_reducible rfl
    try simp only [Act.put, List.setIfInBounds_toArray, List.set_cons_zero, List.set_cons_succ, List.getElem_toArray, List.getElem_cons_zero, List.getElem_cons_succ]
    refine wpAnyH_done (by kernel_rfl) ?_ _
    have hb9' : Below w.heap.size w w9 := below_then (below_then hb7' hb78) hb9
    go_wp2
    go_ret
    exact ⟨rfl, hb9'⟩
end Go.Proofs.Ytimmemkiilblcaa
