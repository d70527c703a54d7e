/- What frame.Get computes: the walk. -/
import Derived.Test.YtimmemkiilblcaaFramePut
import Derived.Laws.BitsAllLaws
namespace Go.Proofs.Ytimmemkiilblcaa
set_option linter.unusedVariables false
set_option linter.unusedSimpArgs false
open Go.RowKit
/-- the frame that begins at a place: its body, the place behind it -/
def frameAt (bs : List UInt8) (a : Nat) : Option (List UInt8 × Nat) :=
  match getAt bs (a : Int) with
  | none => none
  | some (n, fr) => if n < 1 ∨ 1048576 < n ∨ bs.length < fr + (n + 4) then none
      else if le4 (Sum ((bs.drop (fr + 4)).take n)) = (bs.drop fr).take 4 then some ((bs.drop (fr + 4)).take n, fr + 4 + n) else none
/-- what Get answers: a body, a place, an error's number -/
def getF (bs : List UInt8) (i : Int) : List UInt8 × Nat × Nat :=
  if i < 0 ∨ (bs.length : Int) < i then ([], 0, 1) else if i = (bs.length : Int) then ([], 0, 3) else
  match frameAt bs i.toNat with
  | none => ([], 0, 4)
  | some p => (p.1, p.2, 0)
theorem frameAt_num {bs : List UInt8} {a : Nat} (h : getAt bs (a : Int) = none) : frameAt bs a = none := by unfold frameAt; rw [h]
theorem frameAt_bad {bs : List UInt8} {a n fr : Nat} (h : getAt bs (a : Int) = some (n, fr)) (hb : n < 1 ∨ 1048576 < n ∨ bs.length < fr + (n + 4)) : frameAt bs a = none := by
  unfold frameAt
  rw [h]
  simp only
  rw [if_pos hb]
theorem frameAt_sum {bs : List UInt8} {a n fr : Nat} (h : getAt bs (a : Int) = some (n, fr)) (hb : ¬ (n < 1 ∨ 1048576 < n ∨ bs.length < fr + (n + 4))) : frameAt bs a = if le4 (Sum ((bs.drop (fr + 4)).take n)) = (bs.drop fr).take 4 then some ((bs.drop (fr + 4)).take n, fr + 4 + n) else none := by
  unfold frameAt
  rw [h]
  simp only
  rw [if_neg hb]
theorem getF_of {bs : List UInt8} {a : Nat} (h : a < bs.length) : getF bs (a : Int) = match frameAt bs a with | none => ([], 0, 4) | some p => (p.1, p.2, 0) := by
  unfold getF
  rw [if_neg (by omega), if_neg (by omega), Int.toNat_natCast]
def s4 (y0 y1 y2 y3 : UInt8) : Nat := y0.toNat + 256 * y1.toNat + 65536 * y2.toNat + 16777216 * y3.toNat
theorem drop4 {bs : List UInt8} {k : Nat} (h : k + 4 ≤ bs.length) : (bs.drop k).take 4 = [bs.getD k 0, bs.getD (k + 1) 0, bs.getD (k + 2) 0, bs.getD (k + 3) 0] := by
  rw [drop_cons bs k (by omega), drop_cons bs (k + 1) (by omega), drop_cons bs (k + 1 + 1) (by omega), drop_cons bs (k + 1 + 1 + 1) (by omega)]
  rfl
theorem le4_eq (q : BitVec 32) (y0 y1 y2 y3 : UInt8) : le4 q = [y0, y1, y2, y3] ↔ q.toNat = s4 y0 y1 y2 y3 := by
  unfold le4 s4
  have := q.isLt
  have h0 := y0.toNat_lt
  have h1 := y1.toNat_lt
  have h2 := y2.toNat_lt
  have h3 := y3.toNat_lt
  have e : ∀ (n : Nat) (y : UInt8), n < 256 → (UInt8.ofNat n = y ↔ n = y.toNat) := by
    intro n y hn
    constructor
    · rintro rfl
      rw [UInt8.toNat_ofNat']
      omega
    · intro h
      apply UInt8.toNat_inj.1
      rw [UInt8.toNat_ofNat']
      omega
  simp only [List.cons.injEq, and_true]
  rw [e _ _ (by omega), e _ _ (by omega), e _ _ (by omega), e _ _ (by omega)]
  omega
theorem join4 (y0 y1 y2 y3 : UInt8) : bits .or .u32 (bits .or .u32 (bits .or .u32 (IntKind.u32.wrap (y0.toNat : Int)) (IntKind.u32.wrap (IntKind.u32.wrap (y1.toNat : Int) * 256))) (IntKind.u32.wrap (IntKind.u32.wrap (y2.toNat : Int) * 65536))) (IntKind.u32.wrap (IntKind.u32.wrap (y3.toNat : Int) * 16777216)) = (s4 y0 y1 y2 y3 : Int) := by
  have h0 := y0.toNat_lt
  have h1 := y1.toNat_lt
  have h2 := y2.toNat_lt
  have h3 := y3.toNat_lt
  unfold s4
  generalize y0.toNat = a0 at *
  generalize y1.toNat = a1 at *
  generalize y2.toNat = a2 at *
  generalize y3.toNat = a3 at *
  have e0 : IntKind.u32.wrap (a0 : Int) = (a0 : Int) := IntWalk.u32_in _ (by omega)
  have e1 : IntKind.u32.wrap (IntKind.u32.wrap (a1 : Int) * 256) = ((a1 * 256 : Nat) : Int) := by rw [IntWalk.u32_in (a1 : Int) (by omega), IntWalk.u32_in _ (by omega)]; omega
  have e2 : IntKind.u32.wrap (IntKind.u32.wrap (a2 : Int) * 65536) = ((a2 * 65536 : Nat) : Int) := by rw [IntWalk.u32_in (a2 : Int) (by omega), IntWalk.u32_in _ (by omega)]; omega
  have e3 : IntKind.u32.wrap (IntKind.u32.wrap (a3 : Int) * 16777216) = ((a3 * 16777216 : Nat) : Int) := by rw [IntWalk.u32_in (a3 : Int) (by omega), IntWalk.u32_in _ (by omega)]; omega
  rw [e0, e1, e2, e3, u32_or_nat a0 (a1 * 256) (by omega) (by omega), Nat.or_comm, nat_join 8 _ _ (by omega) (by omega), u32_or_nat _ _ (by omega) (by omega), Nat.or_comm, nat_join 16 _ _ (by omega) (by omega), u32_or_nat _ _ (by omega) (by omega), Nat.or_comm, nat_join 24 _ _ (by omega) (by omega)]
  omega
theorem cut_midN (A : Option Addr) (n c l m : Nat) (hlh : l + m ≤ n) (hc : n ≤ c) :
    ∃ (A' : Option Addr) (c' : Nat), (∀ W : World, (Instr.slice 22 (.slice A n c) (some (.int .i64 ((l : Int)))) (some (.int .i64 ((l : Int) + (m : Int)))) none).run Try.prog W = .ok (.slice A' m c') W) ∧
      Hid (∀ (w : World) (bs : List UInt8), bs.length = n → ReadsB w A bs → ReadsB w A' ((bs.drop l).take m)) ∧ m ≤ c' := by
  obtain ⟨A', h1, h2⟩ := cut_midB (P := Try.prog) 22 5 Try.underlying22 binfo A n c l (l + m) (l : Int) ((l : Int) + (m : Int)) rfl (by omega) (by omega) hlh hc
  have e : l + m - l = m := by omega
  rw [e] at h1 h2
  exact ⟨A', c - l, h1, h2, by omega⟩
set_option maxRecDepth 100000 in
set_option maxHeartbeats 1600000 in
theorem fget_bad (A : Option Addr) (bs : List UInt8) (c : Nat) (i0 : Int) (w : World) (hl : bs.length ≤ 140737488355328) (h : i0 < 0 ∨ (bs.length : Int) ≤ i0) :
    Calls Try.prog 14 #[.slice A bs.length c, .int .i64 i0] w fun e w' => e = .returned (.tuple #[.slice none 0 0, .int .i64 0, .int .i64 ((getF bs i0).2.2 : Int)]) ∧ w = w' := by
  rcases h with h | h
  · have HV : Hid ((getF bs i0).2.2 = 1) := by
      show _ = _
      unfold getF
      rw [if_pos (.inl h)]
    go_enter Try.func14, Try.ntmps14
    go_wp2
    go_ret3
    exact ⟨by rw [HV.out]; rfl, rfl⟩
  · by_cases he : i0 = (bs.length : Int)
    · have HV : Hid ((getF bs i0).2.2 = 3) := by
        show _ = _
        unfold getF
        rw [if_neg (by omega), if_pos he]
      rw [HV.out]
      have h0 : 0 ≤ i0 := by omega
      have h1 : i0 ≤ (bs.length : Int) := by omega
      have h2 : (i0 == (bs.length : Int)) = true := by rw [beq_iff_eq]; exact he
      clear he h HV
      go_enter Try.func14, Try.ntmps14
      go_wp2
      go_ret3
      exact ⟨rfl, rfl⟩
    · have HV : Hid ((getF bs i0).2.2 = 1) := by
        show _ = _
        unfold getF
        rw [if_pos (.inr (by omega))]
      rw [HV.out]
      have h1 : (bs.length : Int) < i0 := by omega
      have h0 : 0 ≤ i0 := by omega
      clear he h HV
      go_enter Try.func14, Try.ntmps14
      go_wp2
      go_ret3
      exact ⟨rfl, rfl⟩
set_option maxRecDepth 100000 in
set_option maxHeartbeats 1600000 in
theorem fget_nat (A : Option Addr) (bs : List UInt8) (c a : Nat) (w : World) (hl : bs.length ≤ 140737488355328) (hc : bs.length ≤ c) (ha : a < bs.length) (hr : ReadsB w A bs) (m e' err : Nat) (body : List UInt8) (hm : body.length = m) (hF : getF bs (a : Int) = (body, e', err)) :
    Calls Try.prog 14 #[.slice A bs.length c, .int .i64 (a : Int)] w fun e w' => ∃ A' c', e = .returned (.tuple #[.slice A' m c', .int .i64 (e' : Int), .int .i64 (err : Int)]) ∧ OwnB w' w.heap.size (.slice A' m c') body ∧ Below w.heap.size w w' := by
  rw [getF_of ha] at hF
  have HR := Lib.hid hr
  have i1 : (a : Int) < (bs.length : Int) := by omega
  have i2 : ((a : Int) == (bs.length : Int)) = false := by rw [beq_eq_false_iff_ne]; omega
  clear hr
  rcases hg : getAt bs (a : Int) with _ | ⟨n, fr⟩
  · rw [frameAt_num hg] at hF
    simp only [Prod.mk.injEq] at hF
    obtain ⟨rfl, rfl, rfl⟩ := hF
    obtain rfl : m = 0 := by simpa using hm.symm
    have HG := Lib.hid hg
    clear hg hm
    go_enter Try.func14, Try.ntmps14
    go_wp2_with fail
    refine (vget_none A bs bs.length c a _ rfl (by omega) (by omega) (by omega) HR.out HG.out).mono ?_
    rintro e w1 ⟨rfl, rfl⟩
    go_wp2
    go_ret3
    exact ⟨none, 0, rfl, OwnB.nil _ _, Below.refl _ _⟩
  · obtain ⟨k0, k1, k2, k3, _⟩ := getAt_bounds hg
    have HG := Lib.hid hg
    by_cases hb : n < 1 ∨ 1048576 < n ∨ bs.length < fr + (n + 4)
    · rw [frameAt_bad hg hb] at hF
      simp only [Prod.mk.injEq] at hF
      obtain ⟨rfl, rfl, rfl⟩ := hF
      obtain rfl : m = 0 := by simpa using hm.symm
      have hcase : (n : Int) < 1 ∨ (1 : Int) ≤ (n : Int) ∧ ((1048576 : Int) < (n : Int) ∨ (n : Int) ≤ 1048576 ∧ (bs.length : Int) - (fr : Int) < (n : Int) + 4) := by omega
      have HC := Lib.hid hcase
      have j1 : (fr : Int) ≤ (bs.length : Int) := by omega
      have j2 : (bs.length : Int) ≤ 140737488355328 := by omega
      have hn : n < 18446744073709551616 := k3
      clear hg hb hm hcase k0 k1 k2 k3 ha
      rcases HC.out with c1 | ⟨c1, c2 | ⟨c2, c3⟩⟩
      all_goals
        go_enter Try.func14, Try.ntmps14
        go_wp2_with fail
        refine (vget_some A bs bs.length c a n fr _ rfl (by omega) (by omega) (by omega) HR.out HG.out).mono ?_
        rintro e w1 ⟨rfl, rfl⟩
        go_wp2
        go_ret3
        exact ⟨none, 0, rfl, OwnB.nil _ _, Below.refl _ _⟩
    · rw [frameAt_sum hg hb] at hF
      obtain ⟨y0, hy0⟩ : ∃ y, bs.getD fr 0 = y := ⟨_, rfl⟩
      obtain ⟨y1, hy1⟩ : ∃ y, bs.getD (fr + 1) 0 = y := ⟨_, rfl⟩
      obtain ⟨y2, hy2⟩ : ∃ y, bs.getD (fr + 2) 0 = y := ⟨_, rfl⟩
      obtain ⟨y3, hy3⟩ : ∃ y, bs.getD (fr + 3) 0 = y := ⟨_, rfl⟩
      obtain ⟨ad, hA, d0⟩ := HR.out.at (show fr < bs.length by omega)
      obtain ⟨ad1, hA1, d1⟩ := HR.out.at (show fr + 1 < bs.length by omega)
      obtain ⟨ad2, hA2, d2⟩ := HR.out.at (show fr + 2 < bs.length by omega)
      obtain ⟨ad3, hA3, d3⟩ := HR.out.at (show fr + 3 < bs.length by omega)
      obtain rfl : ad = ad1 := by rw [hA] at hA1; injection hA1
      obtain rfl : ad = ad2 := by rw [hA] at hA2; injection hA2
      obtain rfl : ad = ad3 := by rw [hA] at hA3; injection hA3
      rw [hy0] at d0
      rw [hy1] at d1
      rw [hy2] at d2
      rw [hy3] at d3
      have h4 := drop4 (bs := bs) (k := fr) (by omega)
      rw [hy0, hy1, hy2, hy3] at h4
      obtain ⟨B, hB⟩ : ∃ B, (bs.drop (fr + 4)).take n = B := ⟨_, rfl⟩
      rw [hB, h4] at hF
      simp only [le4_eq] at hF
      have hBl : B.length = n := by rw [← hB, List.length_take, List.length_drop]; omega
      subst hA
      clear hA1 hA2 hA3 hy0 hy1 hy2 hy3 h4
      obtain ⟨f1, t1⟩ : ∃ f1, ((fr : Int) + 1).toNat = f1 := ⟨_, rfl⟩
      obtain ⟨f2, t2⟩ : ∃ f2, ((fr : Int) + 2).toNat = f2 := ⟨_, rfl⟩
      obtain ⟨f3, t3⟩ : ∃ f3, ((fr : Int) + 3).toNat = f3 := ⟨_, rfl⟩
      rw [show fr + 1 = f1 by omega] at d1
      rw [show fr + 2 = f2 by omega] at d2
      rw [show fr + 3 = f3 by omega] at d3
      have HT := Lib.hid (⟨t1, t2, t3⟩ : _ ∧ _ ∧ _)
      clear t1 t2 t3
      have j1 : (fr : Int) + 4 + (n : Int) ≤ (bs.length : Int) := by omega
      have j2 : (bs.length : Int) ≤ 140737488355328 := by omega
      have j3 : (1 : Int) ≤ (n : Int) := by omega
      have j4 : (n : Int) ≤ 1048576 := by omega
      have j5 : (n : Int) + 4 ≤ (bs.length : Int) - (fr : Int) := by omega
      obtain ⟨S, hS⟩ : ∃ S, s4 y0 y1 y2 y3 = S := ⟨_, rfl⟩
      rw [hS] at hF
      have HS := Lib.hid hS
      have HF := Lib.hid hF
      have HB := Lib.hid hB
      have HBl := Lib.hid hBl
      have HM := Lib.hid hm
      obtain ⟨f4, t4⟩ : ∃ f4, fr + 4 = f4 := ⟨_, rfl⟩
      obtain ⟨Ac, cc, hcut, hcR, hcc⟩ := cut_midN (some ad) bs.length c f4 n (by omega) hc
      have HT4 := Lib.hid t4
      have e4 : (fr : Int) + 4 = (f4 : Int) := by omega
      have HE4 := Lib.hid e4
      have j6 : (f4 : Int) + (n : Int) ≤ (bs.length : Int) := by omega
      clear hg hb k0 k1 k2 k3 ha hm hB hBl hS hF t4 e4
      go_enter Try.func14, Try.ntmps14
      go_wp2_with fail
      refine (vget_some (some ad) bs bs.length c a n fr _ rfl (by omega) (by omega) (by omega) HR.out HG.out).mono ?_
      rintro e w1 ⟨rfl, rfl⟩
      go_wp2
      have l0 : (fr : Int) < (bs.length : Int) := by omega
      have l1 : (fr : Int) + 1 < (bs.length : Int) := by omega
      have l2 : (fr : Int) + 2 < (bs.length : Int) := by omega
      have l3 : (fr : Int) + 3 < (bs.length : Int) := by omega
      have p1 : (0 : Int) ≤ (fr : Int) + 1 := by omega
      have p2 : (0 : Int) ≤ (fr : Int) + 2 := by omega
      have p3 : (0 : Int) ≤ (fr : Int) + 3 := by omega
      obtain ⟨t1, t2, t3⟩ := HT.out
      have w1 : IntKind.i64.wrap ((fr : Int) + 1) = (fr : Int) + 1 := IntWalk.i64_in _ (by omega)
      have w2 : IntKind.i64.wrap ((fr : Int) + 2) = (fr : Int) + 2 := IntWalk.i64_in _ (by omega)
      have w3 : IntKind.i64.wrap ((fr : Int) + 3) = (fr : Int) + 3 := IntWalk.i64_in _ (by omega)
      go_region_held3 (fun W => W.cell? (ad.add fr) = some (.int .u8 (y0.toNat : Int)) ∧ W.cell? (ad.add f1) = some (.int .u8 (y1.toNat : Int)) ∧ W.cell? (ad.add f2) = some (.int .u8 (y2.toNat : Int)) ∧ W.cell? (ad.add f3) = some (.int .u8 (y3.toNat : Int))) (go_keep) (fail)
      rw [join4, HS.out]
      clear t1 t2 t3 w1 w2 w3 p1 p2 p3 l0 l1 l2 l3
      rw [← HE4.out] at hcut
      have b0 : Below w.heap.size w w.drew := (Below.refl _ _).drew
      by_cases hq : (Sum B).toNat = S
      · have hF := HF.out
        rw [if_pos hq] at hF
        simp only [Prod.mk.injEq] at hF
        obtain ⟨rfl, rfl, rfl⟩ := hF
        have ht : (u32i (Sum B) != (S : Int)) = false := by
          unfold u32i
          rw [hq]
          simp
        have HBr := hcR.out _ bs rfl (HR.out.below b0)
        rw [HT4.out.symm, HB.out] at HBr
        have HBR := Lib.hid HBr
        have HQ := Lib.hid hq
        clear hq HBr HF
        go_upto_region 11 with (at_builtin; refine wpList_append_any _ rfl _ _ 22 rfl w.heap.size 5 _ 1 Try.underlying22 binfo rfl (by omega) (.slice none 0 0) 0 [] rfl (World.ownsRow_nil _ _ _ _) Ac n cc (u8s B) rfl (by rw [u8s_length, HBl.out]) HBR.out (u8s_one B) (by omega) b0.size ?_; intro v3 w3 hown3 hg3 hat3)
        simp only [List.nil_append, Nat.zero_add] at hown3
        have ho4 : OwnB w3 w.heap.size v3 B := by unfold OwnB; rw [HBl.out]; exact hown3
        have hb3 : Below w.heap.size w w3 := b0.grown hg3 b0.size (by simp [Value.ownBlock])
        obtain ⟨A3, c3, hv⟩ := own_slice hown3
        subst hv
        try simp only [Nat.zero_add]
        have HO4 := Lib.hid ho4
        clear hown3 hg3 hat3 ho4
        go_wp2_with fail
        refine (sumOf_m A3 B n c3 _ HBl.out (by omega) HO4.out.reads).mono ?_
        rintro e w4 ⟨rfl, hb4⟩
        have hb5 := below_then hb3 hb4
        go_wp2
        go_ret3
        obtain rfl : m = n := by rw [← HM.out, HBl.out]
        exact ⟨A3, c3, rfl, HO4.out.below hb4, hb5⟩
      · have hF := HF.out
        rw [if_neg hq] at hF
        simp only [Prod.mk.injEq] at hF
        obtain ⟨rfl, rfl, rfl⟩ := hF
        have ht : (u32i (Sum B) != (S : Int)) = true := by
          rw [bne_iff_ne]
          unfold u32i
          omega
        have HBr := hcR.out _ bs rfl (HR.out.below b0)
        rw [HT4.out.symm, HB.out] at HBr
        have HBR := Lib.hid HBr
        have HQ := Lib.hid hq
        clear hq HBr HF
        go_upto_region 11 with (at_builtin; refine wpList_append_any _ rfl _ _ 22 rfl w.heap.size 5 _ 1 Try.underlying22 binfo rfl (by omega) (.slice none 0 0) 0 [] rfl (World.ownsRow_nil _ _ _ _) Ac n cc (u8s B) rfl (by rw [u8s_length, HBl.out]) HBR.out (u8s_one B) (by omega) b0.size ?_; intro v3 w3 hown3 hg3 hat3)
        simp only [List.nil_append, Nat.zero_add] at hown3
        have ho4 : OwnB w3 w.heap.size v3 B := by unfold OwnB; rw [HBl.out]; exact hown3
        have hb3 : Below w.heap.size w w3 := b0.grown hg3 b0.size (by simp [Value.ownBlock])
        obtain ⟨A3, c3, hv⟩ := own_slice hown3
        subst hv
        try simp only [Nat.zero_add]
        have HO4 := Lib.hid ho4
        clear hown3 hg3 hat3 ho4
        go_wp2_with fail
        refine (sumOf_m A3 B n c3 _ HBl.out (by omega) HO4.out.reads).mono ?_
        rintro e w4 ⟨rfl, hb4⟩
        have hb5 := below_then hb3 hb4
        go_wp2
        go_ret3
        exact ⟨none, 0, by rw [← HM.out]; rfl, by rw [← HM.out]; exact OwnB.nil _ _, hb5⟩
end Go.Proofs.Ytimmemkiilblcaa
