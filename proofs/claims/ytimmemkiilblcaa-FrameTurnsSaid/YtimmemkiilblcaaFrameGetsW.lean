/- FrameGets: what it comes to. -/
import Derived.Test.YtimmemkiilblcaaFrameAwake
namespace Go.Proofs.Ytimmemkiilblcaa
set_option linter.unusedVariables false
set_option linter.unusedSimpArgs false
open Go.RowKit
theorem getF_nat {bs : List UInt8} {i : Int} (h0 : ¬ i < 0) (h1 : ¬ (bs.length : Int) ≤ i) : ∃ a : Nat, i = (a : Int) ∧ a < bs.length := ⟨i.toNat, by omega, by omega⟩
theorem fget_all (A : Option Addr) (bs : List UInt8) (n c : Nat) (i0 : Int) (w : World) (hn : bs.length = n) (hl : n ≤ 140737488355328) (hc : n ≤ c) (hr : ReadsB w A bs) (body : List UInt8) (m e' err : Nat) (hm : body.length = m) (hF : getF bs i0 = (body, e', err)) :
    Calls Try.prog 14 #[.slice A n c, .int .i64 i0] w fun e w' => ∃ A' c', e = .returned (.tuple #[.slice A' m c', .int .i64 (e' : Int), .int .i64 (err : Int)]) ∧ OwnB w' w.heap.size (.slice A' m c') body ∧ Below w.heap.size w w' := by
  subst hn
  by_cases h : i0 < 0 ∨ (bs.length : Int) ≤ i0
  · refine (fget_bad A bs c i0 w hl h).mono ?_
    rintro e w' ⟨rfl, rfl⟩
    have h2 : (getF bs i0).1 = [] ∧ (getF bs i0).2.1 = 0 := by
      unfold getF
      split
      · exact ⟨rfl, rfl⟩
      · rw [if_pos (by omega)]; exact ⟨rfl, rfl⟩
    rw [hF] at h2 ⊢
    obtain ⟨rfl, rfl⟩ := h2
    obtain rfl : m = 0 := by simpa using hm.symm
    exact ⟨none, 0, rfl, OwnB.nil _ _, Below.refl _ _⟩
  · obtain ⟨a, rfl, ha⟩ := getF_nat (fun h' => h (.inl h')) (fun h' => h (.inr h'))
    exact fget_nat A bs c a w hl hc ha hr m e' err body hm hF
set_option maxRecDepth 100000 in
set_option maxHeartbeats 1600000 in
theorem rget_all (A : Option Addr) (bs : List UInt8) (c : Nat) (i0 : Int) (w : World) (hl : bs.length ≤ 140737488355328) (hc : bs.length ≤ c) (hr : ReadsB w A bs) (body : List UInt8) (m e' err : Nat) (hm : body.length = m) (hF : getF bs i0 = (body, e', err)) :
    Calls Try.prog 15 #[.slice A bs.length c, .int .i64 i0] w fun e w' => ∃ A' c', e = .returned (.tuple #[.slice A' m c', .int .i64 (e' : Int), .int .i64 (err : Int)]) ∧ OwnB w' w.heap.size (.slice A' m c') body ∧ Below w.heap.size w w' := by
  have HR := Lib.hid hr
  clear hr
  by_cases h0 : i0 < 0
  · have hF' : getF bs i0 = ([], 0, 1) := by unfold getF; rw [if_pos (.inl h0)]
    rw [hF'] at hF
    simp only [Prod.mk.injEq] at hF
    obtain ⟨rfl, rfl, rfl⟩ := hF
    obtain rfl : m = 0 := by simpa using hm.symm
    clear hF' hm
    go_enter Try.func15, Try.ntmps15
    go_wp2
    go_ret3
    exact ⟨none, 0, rfl, OwnB.nil _ _, Below.refl _ _⟩
  by_cases h1 : (bs.length : Int) < i0
  · have hF' : getF bs i0 = ([], 0, 1) := by unfold getF; rw [if_pos (.inr h1)]
    rw [hF'] at hF
    simp only [Prod.mk.injEq] at hF
    obtain ⟨rfl, rfl, rfl⟩ := hF
    obtain rfl : m = 0 := by simpa using hm.symm
    have h2 : 0 ≤ i0 := by omega
    clear hF' hm h0
    go_enter Try.func15, Try.ntmps15
    go_wp2
    go_ret3
    exact ⟨none, 0, rfl, OwnB.nil _ _, Below.refl _ _⟩
  have h2 : 0 ≤ i0 := by omega
  have h3 : i0 ≤ (bs.length : Int) := by omega
  by_cases he : i0 = (bs.length : Int)
  · have hF' : getF bs i0 = ([], 0, 3) := by unfold getF; rw [if_neg (by omega), if_pos he]
    rw [hF'] at hF
    simp only [Prod.mk.injEq] at hF
    obtain ⟨rfl, rfl, rfl⟩ := hF
    obtain rfl : m = 0 := by simpa using hm.symm
    have h4 : (i0 == (bs.length : Int)) = true := by rw [beq_iff_eq]; exact he
    clear hF' hm h0 h1 he
    go_enter Try.func15, Try.ntmps15
    go_wp2
    go_ret3
    exact ⟨none, 0, rfl, OwnB.nil _ _, Below.refl _ _⟩
  have h4 : (i0 == (bs.length : Int)) = false := by rw [beq_eq_false_iff_ne]; exact he
  obtain ⟨a, rfl, ha⟩ := getF_nat (bs := bs) h0 (by omega)
  rw [getF_of ha] at hF
  rcases hf : frameAt bs a with _ | ⟨B, e1⟩
  · rw [hf] at hF
    simp only [Prod.mk.injEq] at hF
    obtain ⟨rfl, rfl, rfl⟩ := hF
    obtain rfl : m = 0 := by simpa using hm.symm
    have HF := Lib.hid hf
    clear hf hm h0 h1 he
    go_enter Try.func15, Try.ntmps15
    go_wp2_with fail
    refine (one_none A bs c a _ hl hc ha HR.out HF.out).mono ?_
    rintro e w1 ⟨rfl, hb1⟩
    go_wp2
    go_ret3
    exact ⟨none, 0, rfl, OwnB.nil _ _, by repeat (first | exact hb1 | (refine Below.alloc ?_ (by have := hb1.size; first | omega | (simp; omega)) _) | (refine Below.setCell ?_ (by have := hb1.size; first | omega | (simp; omega)) _))⟩
  · rw [hf] at hF
    simp only [Prod.mk.injEq] at hF
    obtain ⟨rfl, rfl, rfl⟩ := hF
    have HF := Lib.hid hf
    have HM := Lib.hid hm
    clear hf hm h0 h1 he
    go_enter Try.func15, Try.ntmps15
    go_wp2_with fail
    refine (one_some A bs c a _ hl hc HR.out B e1 m HF.out HM.out).mono ?_
    rintro e w1 ⟨A1, c1, rfl, ho1, hb1⟩
    have HO1 := Lib.hid ho1
    clear ho1
    go_wp2
    go_quiet (fail)
    go_wp2
    go_ret3
    exact ⟨A1, c1, rfl, HO1.out.below (below_drewN (below_new w1 _) _), below_drewN (hb1.alloc hb1.size _) _⟩
set_option maxRecDepth 100000 in
set_option maxHeartbeats 1600000 in
theorem frameGets_walk (A : Option Addr) (bs : List UInt8) (c : Nat) (x1 : Int) (w : World) (hr : ReadsB w A bs) (hc : bs.length ≤ c) (hb : c ≤ 140737488351232) (wf1 : (Lit.int .i64 x1).wf = true) :
    Calls Try.prog 4 #[.slice A bs.length c, .int .i64 x1] w fun e w' => e = .returned (.bool true) ∧ Below w.heap.size w w' := by
  have HR := Lib.hid hr
  obtain ⟨⟨body, e', err⟩, hF⟩ : ∃ q, getF bs x1 = q := ⟨_, rfl⟩
  obtain ⟨m, hm⟩ : ∃ m, body.length = m := ⟨_, rfl⟩
  have HF := Lib.hid hF
  have HM := Lib.hid hm
  clear hr hF hm
  go_enter Try.func4, Try.ntmps4
  go_wp2_with fail
  refine (bytesOwn_any A bs c _ (by omega) HR.out).mono ?_
  rintro e w1 ⟨Ac, cc, rfl, hownc, hb1⟩
  have hcc := own_cap hownc
  have HRC := Lib.hid hownc.reads
  clear hownc
  go_wp2_with fail
  refine (fget_all Ac bs bs.length cc x1 _ rfl (by omega) hcc HRC.out body m e' err HM.out HF.out).mono ?_
  rintro e w2 ⟨A2, c2, rfl, ho2, hb2⟩
  have hb2' := below_then hb1 hb2
  have HO2 := Lib.hid ho2
  clear ho2
  go_wp2_with fail
  refine (rget_all A bs c x1 _ (by omega) hc (HR.out.below hb2') body m e' err HM.out HF.out).mono ?_
  rintro e w3 ⟨A3, c3, rfl, ho3, hb3⟩
  have hb3' := below_then hb2' hb3
  have hs2 := string_rule (HO2.out.below hb3).reads m c2 HM.out w3 (Below.refl _ _)
  have hs3 := string_rule ho3.reads m c3 HM.out w3 (Below.refl _ _)
  clear ho3
  go_wp2_with fail
  refine (awake_any _).mono ?_
  rintro e w4 ⟨rfl, hb4⟩
  have hb4' := below_then hb3' hb4
  go_wp2
  go_ret
  exact ⟨rfl, hb4'⟩
end Go.Proofs.Ytimmemkiilblcaa
