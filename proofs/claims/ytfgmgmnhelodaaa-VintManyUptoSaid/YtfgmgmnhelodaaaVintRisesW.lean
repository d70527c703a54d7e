/- VintRises: what it comes to. -/
import Derived.Test.YtfgmgmnhelodaaaRefRises
import Derived.Test.YtfgmgmnhelodaaaVintTextsW
import Derived.Test.YtfgmgmnhelodaaaBulk
namespace Go.Proofs.Ytfgmgmnhelodaaa
set_option linter.unusedVariables false
set_option linter.unusedSimpArgs false
open Go.RowKit
theorem vputRise_n (A : Option Addr) (bs : List UInt8) (n c : Nat) (A2 : Option Addr) (l : List Nat) (k c2 x : Nat) (w : World) (hb : bs.length = n) (hk : l.length = k) (hx : n + (encRise l).length = x) (hl : n + 20 + 10 * k ≤ 140737488355328) (hc : n ≤ c) (hr : ReadsB w A bs) (hr2 : ReadsN w A2 l) (hlt : ∀ n ∈ l, n < 18446744073709551616) :
    Calls Try.prog 26 #[.slice A n c, .slice A2 k c2] w fun e w' => ∃ A' c', e = .returned (.slice A' x c') ∧ OwnB w' w.heap.size (.slice A' x c') (bs ++ encRise l) ∧ Below w.heap.size w w' := by
  subst hb hk hx
  exact vputRise_any A bs c A2 l c2 w hl hc hr hr2 hlt
theorem sameNums_refl (A1 A2 : Option Addr) (l : List Nat) (c1 c2 : Nat) (w : World) (hl : l.length ≤ 140737488355328) (hr1 : ReadsN w A1 l) (hr2 : ReadsN w A2 l) :
    Calls Try.prog 31 #[.slice A1 l.length c1, .slice A2 l.length c2] w fun e w' => e = .returned (.bool true) ∧ Below w.heap.size w w' := by
  have := sameNums_any A1 A2 l l c1 c2 w hl hr1 hr2
  simpa using this
theorem vgetRise_none (A : Option Addr) (bs : List UInt8) (n c : Nat) (i0 most : Int) (w : World) (hn : bs.length = n) (hl : n ≤ 140737488355328) (hm : n ≤ 17592186044416 ∨ most ≤ 17592186044415) (h0 : -9223372036854775808 ≤ i0) (h1 : i0 ≤ 9223372036854775807) (h2 : -9223372036854775808 ≤ most) (h3 : most ≤ 9223372036854775807) (hr : ReadsB w A bs) (hT : getRise bs i0 most = none) :
    Calls Try.prog 29 #[.slice A n c, .int .i64 i0, .int .i64 most] w fun e w' => e = .returned (.tuple #[.slice none 0 0, .int .i64 0, .bool false]) ∧ Below w.heap.size w w' := by
  refine (vgetRise_any A bs n c i0 most w hn hl hm h0 h1 h2 h3 hr).mono ?_
  rintro e w1 ⟨h | ⟨l, e', A', c', h, _⟩, hb⟩
  · exact ⟨h.2, hb⟩
  · rw [hT] at h; cases h
theorem vgetRise_some (A : Option Addr) (bs : List UInt8) (n c : Nat) (i0 most : Int) (l : List Nat) (k e' : Nat) (w : World) (hn : bs.length = n) (hk : l.length = k) (hl : n ≤ 140737488355328) (hm : n ≤ 17592186044416 ∨ most ≤ 17592186044415) (h0 : -9223372036854775808 ≤ i0) (h1 : i0 ≤ 9223372036854775807) (h2 : -9223372036854775808 ≤ most) (h3 : most ≤ 9223372036854775807) (hr : ReadsB w A bs) (hT : getRise bs i0 most = some (l, e')) :
    Calls Try.prog 29 #[.slice A n c, .int .i64 i0, .int .i64 most] w fun e w' => ∃ A' c', e = .returned (.tuple #[.slice A' k c', .int .i64 (e' : Int), .bool true]) ∧ OwnN w' w.heap.size (.slice A' k c') l ∧ Below w.heap.size w w' := by
  subst hk
  refine (vgetRise_any A bs n c i0 most w hn hl hm h0 h1 h2 h3 hr).mono ?_
  rintro e w1 ⟨⟨h, _⟩ | ⟨l2, e2, A', c', h, he, ho⟩, hb⟩
  · rw [hT] at h; cases h
  · rw [hT] at h
    injection h with h
    injection h with ha hc
    subst ha hc
    exact ⟨A', c', he, ho, hb⟩
theorem rrise_none (g : Nat) (A : Option Addr) (bs : List UInt8) (c : Nat) (i0 most : Int) (w : World) (hl : bs.length ≤ 140737488355328) (hm : bs.length ≤ 17592186044415 ∨ most ≤ 17592186044414) (h0 : -9223372036854775808 ≤ i0) (h1 : i0 ≤ 9223372036854775807) (h2 : -9223372036854775808 ≤ most) (h3 : most ≤ 9223372036854775807) (hr : RdAt w g A bs c i0 false) (hT : getRise bs i0 most = none) :
    Calls Try.prog 30 #[.pointer (some ⟨g, 0, none⟩), .int .i64 most] w fun e w' => e = .returned (.slice none 0 0) ∧ ReadPost w g A bs c (none : Option (List Nat × Nat)) w' := by
  refine (rrise_any g A bs c i0 most none w hl hm h0 h1 h2 h3 hr hT).mono ?_
  rintro e w1 ⟨h | ⟨l, e', A', c', h, _⟩, hb⟩
  · exact ⟨h.2, hb⟩
  · cases h
theorem rrise_some (g : Nat) (A : Option Addr) (bs : List UInt8) (c : Nat) (i0 most : Int) (l : List Nat) (k e' : Nat) (w : World) (hk : l.length = k) (hl : bs.length ≤ 140737488355328) (hm : bs.length ≤ 17592186044415 ∨ most ≤ 17592186044414) (h0 : -9223372036854775808 ≤ i0) (h1 : i0 ≤ 9223372036854775807) (h2 : -9223372036854775808 ≤ most) (h3 : most ≤ 9223372036854775807) (hr : RdAt w g A bs c i0 false) (hT : getRise bs i0 most = some (l, e')) :
    Calls Try.prog 30 #[.pointer (some ⟨g, 0, none⟩), .int .i64 most] w fun e w' => ∃ A' c', e = .returned (.slice A' k c') ∧ OwnN w' w.heap.size (.slice A' k c') l ∧ ReadPost w g A bs c (some (l, e')) w' := by
  subst hk
  refine (rrise_any g A bs c i0 most (some (l, e')) w hl hm h0 h1 h2 h3 hr hT).mono ?_
  rintro e w1 ⟨⟨h, _⟩ | ⟨l2, e2, A', c', h, he, ho⟩, hb⟩
  · cases h
  · injection h with h
    injection h with ha hc
    subst ha hc
    exact ⟨A', c', he, ho, hb⟩
theorem getRise_len {bs : List UInt8} {i most : Int} {l : List Nat} {e : Nat} (h : getRise bs i most = some (l, e)) : l.length ≤ bs.length := by
  obtain ⟨n, a, _, _, _, h1, h2⟩ := getRise_some h
  have : ∀ (n : Nat) (last : Option Nat) (a : Nat) (l : List Nat) (e : Nat), riseAt bs n last a = some (l, e) → l.length = n := by
    intro n
    induction n with
    | zero =>
      intro last a l e h
      simp only [riseAt, Option.some.injEq, Prod.mk.injEq] at h
      rw [← h.1]; rfl
    | succ n ih =>
      intro last a l e h
      rw [rise_step] at h
      rcases hG : getAt bs (a : Int) with _ | ⟨d, a2⟩
      · rw [hG] at h; cases h
      · rw [hG] at h
        simp only at h
        rcases last with _ | t
        · simp only at h
          rcases hR : riseAt bs n (some d) a2 with _ | ⟨l2, e2⟩
          · rw [hR] at h; cases h
          · rw [hR] at h
            simp only [Option.map_some, Option.some.injEq, Prod.mk.injEq] at h
            rw [← h.1, List.length_cons, ih _ _ _ _ hR]
        · simp only at h
          split at h
          · rcases hR : riseAt bs n (some (t + d + 1)) a2 with _ | ⟨l2, e2⟩
            · rw [hR] at h; cases h
            · rw [hR] at h
              simp only [Option.map_some, Option.some.injEq, Prod.mk.injEq] at h
              rw [← h.1, List.length_cons, ih _ _ _ _ hR]
          · cases h
  have := this _ _ _ _ _ h2
  omega
set_option maxRecDepth 100000 in
set_option maxHeartbeats 3200000 in
theorem vintRises_walk (A0 : Option Addr) (l : List Nat) (c0 : Nat) (A : Option Addr) (bs : List UInt8) (c : Nat) (x2 x3 : Int) (w : World) (hr0 : ReadsN w A0 l) (hlt : ∀ n ∈ l, n < 18446744073709551616) (hc0 : l.length ≤ c0) (hb0 : c0 ≤ 1048576) (hr : ReadsB w A bs) (hc : bs.length ≤ c) (hb : c ≤ 1048576) (wf2 : (Lit.int .i64 x2).wf = true) (wf3 : (Lit.int .i64 x3).wf = true) :
    Calls Try.prog 8 #[.slice A0 l.length c0, .slice A bs.length c, .int .i64 x2, .int .i64 x3] w fun e w' => e = .returned (.bool true) ∧ Below w.heap.size w w' := by
  obtain ⟨hx0, hx1⟩ := wf_i64 wf2
  obtain ⟨hy0, hy1⟩ := wf_i64 wf3
  have HR := Lib.hid hr
  have HR0 := Lib.hid hr0
  have HL := Lib.hid hlt
  clear wf2 wf3 hr hr0 hlt
  have q1 : (bs.length : Int) ≤ 1048576 := by omega
  have q2 : (l.length : Int) ≤ 1048576 := by omega
  have hen := encRise_le l (by omega)
  obtain ⟨m, hm⟩ : ∃ m, (encRise l).length = m := ⟨_, rfl⟩
  obtain ⟨x, hx⟩ : ∃ x, bs.length + m = x := ⟨_, rfl⟩
  rw [hm] at hen
  have HM := Lib.hid hm
  have HXX := Lib.hid hx
  have hx3 : (x : Int) ≤ 13000000 := by omega
  clear hm hx
  go_enter Try.func8, Try.ntmps8
  go_wp2_with fail
  refine (bytesOwn_any A bs c _ (by omega) HR.out).mono ?_
  rintro e w1 ⟨A1, c1, rfl, hown1, hb1⟩
  have hcap := ownB_cap hown1
  have HR1 := Lib.hid hown1.reads
  clear hown1
  go_wp2_with fail
  refine (nums_any A0 l c0 _ (by omega) (HR0.out.below hb1)).mono ?_
  rintro e w2 ⟨A2, c2, rfl, hown2, hb2'⟩
  have hb2 := below_then hb1 hb2'
  have HR2 := Lib.hid hown2.reads
  have HR1b := Lib.hid (HR1.out.below hb2')
  clear hown2 hb2'
  go_wp2_with fail
  refine (vputRise_n A1 bs bs.length c1 A2 l l.length c2 x _ rfl rfl (by rw [HM.out, HXX.out]) (by omega) hcap HR1b.out HR2.out HL.out).mono ?_
  rintro e w3 ⟨A3, c3, rfl, hown3, hb3'⟩
  have HO3 := Lib.hid hown3
  have hb3 := below_then hb2 hb3'
  clear hown3 hb3' HR1 HR1b HR2 hcap
  have hs1 := string_rule HO3.out.reads x c3 (by rw [List.length_append, HM.out, HXX.out])
  have hs2 := string_rule (HR.out.below hb3) bs.length c rfl
  rw [strOf_append] at hs1
  have hz2 : ¬ (9223372036854775807 < (strOf bs).size + (strOf (encRise l)).size) := by rw [strOf_size, strOf_size, HM.out]; omega
  go_wp2
  have hS0 : Below w3.heap.size w3 w3.drew := (Below.refl _ _).drew
  refine wp_region_held_drew (S := fun w' => Below w3.heap.size w3 w') (by kernel_rfl) hS0 (fun _ => ?_)
  -- 0: slot 20 := Op.move t9
  refine wpAnyH_take (i := 0) (v := ?_) rfl (by kernel_rfl) (by kernel_rfl) (by kernel_rfl) (fun _ _ _ h => h) (Or.inl ⟨by rfl, ?_⟩) (by assumption) ?_
  rotate_left
  · intro w hSw; go_simp; try with_reducible rfl
  try simp only [Act.put, List.setIfInBounds_toArray, List.set_cons_zero, List.set_cons_succ, List.getElem_toArray, List.getElem_cons_zero, List.getElem_cons_succ]
  -- 1: slot 21 := Op.convert 23 9 t20
  refine wpAnyH_take (i := 1) (v := ?_) rfl (by kernel_rfl) (by kernel_rfl) (by kernel_rfl) (fun _ _ _ h => h) (Or.inl ⟨by rfl, ?_⟩) (by assumption) ?_
  rotate_left
  · intro w hSw; go_simp; try with_reducible rfl
  try simp only [Act.put, List.setIfInBounds_toArray, List.set_cons_zero, List.set_cons_succ, List.getElem_toArray, List.getElem_cons_zero, List.getElem_cons_succ]
  -- 2: slot 22 := Op.move t1
  refine wpAnyH_take (i := 2) (v := ?_) rfl (by kernel_rfl) (by kernel_rfl) (by kernel_rfl) (fun _ _ _ h => h) (Or.inl ⟨by rfl, ?_⟩) (by assumption) ?_
  rotate_left
  · intro w hSw; go_simp; try with_reducible rfl
  try simp only [Act.put, List.setIfInBounds_toArray, List.set_cons_zero, List.set_cons_succ, List.getElem_toArray, List.getElem_cons_zero, List.getElem_cons_succ]
  -- 3: slot 23 := Op.convert 23 9 t22
  refine wpAnyH_take (i := 3) (v := ?_) rfl (by kernel_rfl) (by kernel_rfl) (by kernel_rfl) (fun _ _ _ h => h) (Or.inl ⟨by rfl, ?_⟩) (by assumption) ?_
  rotate_left
  · intro w hSw; go_simp; try with_reducible rfl
  try simp only [Act.put, List.setIfInBounds_toArray, List.set_cons_zero, List.set_cons_succ, List.getElem_toArray, List.getElem_cons_zero, List.getElem_cons_succ]
  -- 4: slot 24 := Op.move t0
  refine wpAnyH_take (i := 4) (v := ?_) rfl (by kernel_rfl) (by kernel_rfl) (by kernel_rfl) (fun _ _ _ h => h) (Or.inl ⟨by rfl, ?_⟩) (by assumption) ?_
  rotate_left
  · intro w hSw; go_simp; try with_reducible rfl
  try simp only [Act.put, List.setIfInBounds_toArray, List.set_cons_zero, List.set_cons_succ, List.getElem_toArray, List.getElem_cons_zero, List.getElem_cons_succ]
  -- 5: slot 25 := Op.call { value (Operand.func 28), args := #[t24], argTypes := #[48] }
  refine wpAnyH_ready (rs := [5]) (by kernel_rfl) (by simp) ?_
  refine AllReadyH.cons rfl (fun K hK => ?_) AllReadyH.nil
  go_simp
  refine (refRise_n A0 l c0 m _ (by omega) (HR0.out.below hb3).drew HL.out HM.out).mono ?_
  rintro e w4 ⟨A4, c4, rfl, hown4, hb4'⟩
  have hs3 := string_rule hown4.reads m c4 HM.out
  have hb34 := below_then hS0 hb4'
  refine hK.out _ _ hb34 (fun hHeld => ?_)
  clear hK K
  refine wpAnyH_mono (S' := fun w' => Below w4.heap.size w4 w') (fun W h => below_then hb34 h) _ ?_
  have hS1 : Below w4.heap.size w4 w4 := Below.refl _ _
  try simp only [Act.put, List.setIfInBounds_toArray, List.set_cons_zero, List.set_cons_succ, List.getElem_toArray, List.getElem_cons_zero, List.getElem_cons_succ]
  -- 6: slot 26 := Op.convert 23 9 t25
  refine wpAnyH_take (i := 6) (v := ?_) rfl (by kernel_rfl) (by kernel_rfl) (by kernel_rfl) (fun _ _ _ h => h) (Or.inl ⟨by rfl, ?_⟩) (by assumption) ?_
  rotate_left
  · intro w hSw; go_simp; try with_reducible rfl
  try simp only [Act.put, List.setIfInBounds_toArray, List.set_cons_zero, List.set_cons_succ, List.getElem_toArray, List.getElem_cons_zero, List.getElem_cons_succ]
  -- 7: slot 27 := Op.binOp BinOp.add 9 t23 t26 9
  refine wpAnyH_take (i := 7) (v := ?_) rfl (by kernel_rfl) (by kernel_rfl) (by kernel_rfl) (fun _ _ _ h => h) (Or.inl ⟨by rfl, ?_⟩) (by assumption) ?_
  rotate_left
  · intro w hSw; go_simp; try with_reducible rfl
  try simp only [Act.put, List.setIfInBounds_toArray, List.set_cons_zero, List.set_cons_succ, List.getElem_toArray, List.getElem_cons_zero, List.getElem_cons_succ]
  -- 8: slot 28 := Op.binOp BinOp.neq 9 t21 t27 9
  refine wpAnyH_take (i := 8) (v := ?_) rfl (by kernel_rfl) (by kernel_rfl) (by kernel_rfl) (fun _ _ _ h => h) (Or.inl ⟨by rfl, ?_⟩) (by assumption) ?_
  rotate_left
  · intro w hSw; go_simp; try with_reducible rfl
  try simp only [Act.put, List.setIfInBounds_toArray, List.set_cons_zero, List.set_cons_succ, List.getElem_toArray, List.getElem_cons_zero, List.getElem_cons_succ]
  refine wpAnyH_done (by kernel_rfl) ?_ _
  clear hs1 hs2 hs3 hz2 hown4
  have hb4 : Below w.heap.size w w4 := below_then hb3 hb34
  clear hb4' hb34 hb3
  go_wp2_with fail
  refine (bytesOwn_any A bs c _ (by omega) (HR.out.below hb4)).mono ?_
  rintro e w6 ⟨A6, c6, rfl, hown6, hb6'⟩
  have hb6 := below_then hb4 hb6'
  have HR6 := Lib.hid hown6.reads
  have hcap6 := ownB_cap hown6
  clear hown6 hb6'
  rcases hT : getRise bs x2 x3 with _ | ⟨l', e'⟩
  · have HT := Lib.hid hT
    clear hT
    go_wp2_with fail
    refine (vgetRise_none A6 bs bs.length c6 x2 x3 _ rfl (by omega) (.inl (by omega)) hx0 hx1 hy0 hy1 HR6.out HT.out).mono ?_
    rintro e w7 ⟨rfl, hb7'⟩
    have hb7 := below_then hb6 hb7'
    go_wp2_with fail
    refine (rrise_none _ A bs c x2 x3 _ (by omega) (.inl (by omega)) hx0 hx1 hy0 hy1 (reader_new (HR.out.below hb7) c x2) HT.out).mono ?_
    rintro e w8 ⟨rfl, hpost⟩
    have hb8 := readPost_below hpost (hb7.trans ((below_new w7 _).mono hb7.size)) (hb7.size)
    obtain ⟨i', hrd, _, _⟩ := hpost
    have c2' := hrd.c2
    clear hrd
    go_wp2_with fail
    refine (vawake_any _).mono ?_
    rintro e w9 ⟨rfl, hb9'⟩
    have hb9 := below_then hb8 hb9'
    go_wp2
    go_ret
    exact ⟨rfl, hb9⟩
  · have HT := Lib.hid hT
    have hll := getRise_len hT
    clear hT
    go_wp2_with fail
    refine (vgetRise_some A6 bs bs.length c6 x2 x3 l' l'.length e' _ rfl rfl (by omega) (.inl (by omega)) hx0 hx1 hy0 hy1 HR6.out HT.out).mono ?_
    rintro e w7 ⟨A7, c7, rfl, hown7, hb7'⟩
    have hb7 := below_then hb6 hb7'
    have HR7 := Lib.hid hown7.reads
    clear hown7
    go_wp2_with fail
    refine (rrise_some _ A bs c x2 x3 l' l'.length e' _ rfl (by omega) (.inl (by omega)) hx0 hx1 hy0 hy1 (reader_new (HR.out.below hb7) c x2) HT.out).mono ?_
    rintro e w8 ⟨A8, c8, rfl, hown8, hpost⟩
    have hb8 := readPost_below hpost (hb7.trans ((below_new w7 _).mono hb7.size)) (hb7.size)
    have hb78 := readPost_below hpost (below_new w7 _) (Nat.le_refl _)
    obtain ⟨i', hrd, hi', _⟩ := hpost
    have hi2 : i' = (e' : Int) := hi' (l', e') rfl
    subst hi2
    have HR8 := Lib.hid hown8.reads
    have HR7b := Lib.hid (HR7.out.below hb78)
    have HRD := Lib.hid hrd
    have c2' := hrd.c2
    clear hrd hi' hown8
    go_wp2_with fail
    refine (sameNums_refl A7 A8 l' c7 c8 _ (by omega) HR7b.out HR8.out).mono ?_
    rintro e w9 ⟨rfl, hb9'⟩
    have c1' := (HRD.out.below hb9').c1
    have hb9 := below_then hb8 hb9'
    go_wp2_with fail
    refine (vawake_any _).mono ?_
    rintro e w10 ⟨rfl, hb10'⟩
    have hb10 := below_then hb9 hb10'
    go_wp2
    go_ret
    exact ⟨rfl, hb10⟩
end Go.Proofs.Ytfgmgmnhelodaaa
