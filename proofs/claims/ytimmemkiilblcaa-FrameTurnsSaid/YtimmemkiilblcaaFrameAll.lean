/- frame.All's closure over the statements' own: the walk; then all. -/
import Derived.Test.YtimmemkiilblcaaFrameTell
import Derived.WalkMore
namespace Go.Proofs.Ytimmemkiilblcaa
set_option linter.unusedVariables false
set_option linter.unusedSimpArgs false
open Go.RowKit
/-- what is told of frames, at most so many -/
def toldOf (bs : List UInt8) (most : Int) : List Fr := (frames bs).take most.toNat
structure Told (W : World) (g0 g : Nat) (most : Int) (l : List Fr) (A1 : Option Addr) (c1 : Nat) (A2 : Option Addr) (c2 : Nat) : Prop where
  tell : Tell W g0 g most l.length A1 c1 A2 c2 (intsF l) (textsF l)
set_option maxRecDepth 100000 in
set_option maxHeartbeats 1600000 in
theorem all1_told (g0 g Bn : Nat) (most : Int) (A : Option Addr) (bs : List UInt8) (c : Nat) (w0 W : World) (hg0 : g0 < g) (hBg : Bn < g) (hl : bs.length ≤ 1048576) (hc : bs.length ≤ c) (hr : ReadsB w0 A bs) (hb0 : Below w0.heap.size w0 W) (hng : w0.heap.size ≤ g) (hm : 1 ≤ most)
    (hBn : Blk W Bn 22 #[.slice A bs.length c]) (hT : Told W g0 g most [] none 0 none 0) :
    Calls Try.prog 34 #[.func (.func 28) #[] #[.pointer (some ⟨g, 0, none⟩), .pointer (some ⟨g + 1, 0, none⟩), .pointer (some ⟨g0, 0, none⟩)], .pointer (some ⟨Bn, 0, none⟩)] W fun e W' => ∃ A1 c1 A2 c2, (∃ v, e = .returned v) ∧ Told W' g0 g most (toldOf bs most) A1 c1 A2 c2 ∧ Below g W W' := by
  have HR := Lib.hid hr
  have HB0 := Lib.hid hb0
  have HBn := Lib.hid hBn
  have HT := Lib.hid hT
  have hms : ((([] : List Fr).length : Nat) : Int) < most := by simp; omega
  clear hr hb0 hBn hT
  go_enter Try.func34, Try.ntmps34
  go_wp2
  go_step3
  go_wp2
  go_step3
  go_wp2
  go_loopw [3] (fun i wr => ∃ (k a : Nat) (l : List Fr) (A1 : Option Addr) (c1 : Nat) (A2 : Option Addr) (c2 : Nat), i = .int .i64 (a : Int) ∧ a ≤ bs.length ∧ Hid (bs.length < a + k ∧ l.length ≤ a ∧ frames bs = l ++ framesN k bs a ∧ (l.length : Int) < most) ∧ Hid (Told wr g0 g most l A1 c1 A2 c2) ∧ Hid (Below g W wr))
    (fun i _ => bs.length - (intOf i).toNat)
  case atStart => exact ⟨bs.length + 1, 0, [], none, 0, none, 0, rfl, Nat.zero_le _, ⟨by omega, by simp, by simp [frames], hms⟩, HT.out, Below.refl _ _⟩
  case round =>
    obtain ⟨k, a, l, A1, c1, A2, c2, rfl, ha, HK, HL, HW⟩ := hrel
    have hcell : wr.cell? ⟨Bn, 0, none⟩ = some (.slice A bs.length c) := by rw [(blk_low HBn.out HW.out hBg).cell]; rfl
    have hrd := Lib.hid (HR.out.below (HB0.out.trans (HW.out.mono hng)))
    have hsz : g + 1 < wr.heap.size := HL.out.tell.b2.lt
    rcases hf : frameAt bs a with _ | ⟨B, e'⟩
    · have HF := Lib.hid hf
      clear hf
      go_wp2_with (go_at_call 14; refine (fget_none A bs c a _ (by omega) hc hrd.out ha HF.out).mono ?_; rintro e w1 ⟨A', c', err, rfl, he, hb1⟩; have he2 : ((err : Int) != 0) = true := (by rw [bne_iff_ne]; omega))
      rw [Exit.noGoto_normal]
      go_end0
      refine ⟨A1, c1, A2, c2, ⟨_, rfl⟩, ?_, HW.out.trans (hb1.mono (by omega))⟩
      have h1 : toldOf bs most = l := by
        obtain ⟨_, _, h3, h4⟩ := HK.out
        rw [toldOf, h3, framesN_none HF.out, List.append_nil, List.take_of_length_le (by omega)]
      rw [h1]
      exact ⟨HL.out.tell.below hb1⟩
    · have HF := Lib.hid hf
      obtain ⟨m, hm0⟩ : ∃ m, B.length = m := ⟨_, rfl⟩
      have HB := Lib.hid hm0
      have hlt := (frameAt_in hf).1
      clear hf hm0
      obtain ⟨n, hn⟩ : ∃ n, l.length = n := ⟨_, rfl⟩
      have HN := Lib.hid hn
      have HTL : Hid (Tell wr g0 g most n A1 c1 A2 c2 (intsF l) (textsF l)) := by show Tell _ _ _ _ _ _ _ _ _ _ _; rw [← hn]; exact HL.out.tell
      have hn2 : n ≤ 1048576 := by have := HK.out; omega
      clear hn
      obtain ⟨k', hk', hk2, hfr⟩ := framesN_some HF.out HK.out.1
      have HS : Hid (bs.length < e' + k' ∧ l.length + 1 ≤ e' ∧ frames bs = l ++ (a, B, e') :: framesN k' bs e') := ⟨hk2, by have := (frameAt_in HF.out).2.1; have := HK.out; omega, by rw [HK.out.2.2.1, hfr]⟩
      have hin : e' ≤ bs.length := (frameAt_in HF.out).2.2.1
      have hmea : a < e' := by have := (frameAt_in HF.out).2.1; omega
      clear hk' hk2 hfr
      by_cases hmore : (n : Int) + 1 < most
      · go_wp2_with (first
          | (go_at_call 14; (refine (fget_some A bs c a _ (by omega) hc hrd.out B e' m HF.out HB.out).mono ?_); rintro e w1 ⟨A', c', rfl, hown, hb1⟩; have ho := own_mono (ownB_of hown HB.out) (show g + 2 ≤ wr.heap.size by omega); have HTB := Lib.hid (HTL.out.below hb1); clear hown)
          | (go_at_call 28; (refine (tell_any g0 g most n A1 c1 A2 c2 (intsF l) (textsF l) a A' B m c' _ hg0 hn2 HB.out HTB.out ho).mono ?_); rintro e w2 ⟨A3, c3, A4, c4, rfl, htell, hb2⟩; have HT2 := Lib.hid htell; have HW2 : Hid (Below g W w2) := (HW.out.trans (hb1.mono (by omega))).trans hb2; clear htell hb2))
        all_goals
          refine ⟨⟨k', e', l ++ [(a, B, e')], A3, c3, A4, c4, rfl, hin, ⟨HS.out.1, by have := HS.out.2.1; simp; omega, by rw [HS.out.2.2]; simp, by rw [List.length_append, HN.out]; simp; omega⟩, ⟨by rw [List.length_append, HN.out, intsF_snoc, textsF_snoc]; exact HT2.out⟩, HW2.out⟩, ?_⟩
          simp [intOf]
          omega
      · have hle : most ≤ (n : Int) + 1 := by omega
        have hdec : decide ((n : Int) + 1 < most) = false := by rw [decide_eq_false_iff_not]; omega
        go_wp2_with (first
          | (go_at_call 14; (refine (fget_some A bs c a _ (by omega) hc hrd.out B e' m HF.out HB.out).mono ?_); rintro e w1 ⟨A', c', rfl, hown, hb1⟩; have ho := own_mono (ownB_of hown HB.out) (show g + 2 ≤ wr.heap.size by omega); have HTB := Lib.hid (HTL.out.below hb1); clear hown)
          | (go_at_call 28; (refine (tell_any g0 g most n A1 c1 A2 c2 (intsF l) (textsF l) a A' B m c' _ hg0 hn2 HB.out HTB.out ho).mono ?_); rintro e w2 ⟨A3, c3, A4, c4, rfl, htell, hb2⟩; have HT2 := Lib.hid htell; have HW2 : Hid (Below g W w2) := (HW.out.trans (hb1.mono (by omega))).trans hb2; clear htell hb2))
        rw [Exit.noGoto_normal]
        go_end0
        have h1 : toldOf bs most = l ++ [(a, B, e')] := by
          have h4 := HK.out.2.2.2
          rw [HN.out] at h4
          rw [toldOf, HS.out.2.2, show most.toNat = (l ++ [(a, B, e')]).length by rw [List.length_append, HN.out]; simp; omega, show l ++ (a, B, e') :: framesN k' bs e' = (l ++ [(a, B, e')]) ++ framesN k' bs e' by simp]
          exact List.take_left ..
        refine ⟨A3, c3, A4, c4, ⟨_, rfl⟩, ?_, HW2.out⟩
        rw [h1]
        exact ⟨by rw [List.length_append, HN.out, intsF_snoc, textsF_snoc]; exact HT2.out⟩
end Go.Proofs.Ytimmemkiilblcaa
