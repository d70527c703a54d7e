/- Texts: what the reference computes. -/
import Derived.Test.YtfgmgmnhelodaaaVintText
namespace Go.Proofs.Ytfgmgmnhelodaaa
set_option linter.unusedVariables false
set_option linter.unusedSimpArgs false
open Go.RowKit
set_option maxRecDepth 100000 in
set_option maxHeartbeats 800000 in
theorem refText_n (s : ByteArray) (x : Nat) (w : World) (hl : 10 + s.size ≤ 140737488355328) (hx : (encText s.data.toList).length = x) :
    Calls Try.prog 24 #[.string s] w fun e w' => ∃ A' c', e = .returned (.slice A' x c') ∧ OwnB w' w.heap.size (.slice A' x c') (encText s.data.toList) ∧ Below w.heap.size w w' := by
  obtain ⟨i0, hi, hz0, hz1, hz2⟩ := info_parts binfo
  have HX := Lib.hid hx
  clear hx
  have hs : (s.size : Int) ≤ 140737488355328 := by omega
  go_enter Try.func24, Try.ntmps24
  go_wp2_with fail
  refine (refPut_any s.size _ (by omega)).mono ?_
  rintro e w1 ⟨A1, c1, rfl, hown1, hb1⟩
  have hlen := enc_le10 (v := s.size) (by omega)
  go_wp2_with (at_builtin; refine Lib.wpList_append_own_string _ rfl _ _ 23 9 rfl w.heap.size 5 i0 Try.underlying23 Try.underlying9 hi hz0 hz1 hz2 (.slice A1 (enc s.size).length c1) (enc s.size).length (u8s (enc s.size)) rfl hown1 s rfl (by simp only [maxLen]; omega) (by omega) hb1.size ?_; intro v2 w2 hown2 hg2 hnil)
  go_ret
  have hd : s.data.toList.length = s.size := by rw [Array.length_toList]; rfl
  have h2 : OwnB w2 w.heap.size v2 (encText s.data.toList) := by
    unfold OwnB
    rw [strCells_u8s, ← u8s_append] at hown2
    unfold encText
    rw [hd, List.length_append, hd]
    exact hown2
  obtain ⟨A', c', hv⟩ := h2.slice
  rw [HX.out] at hv
  subst hv
  exact ⟨A', c', by simp, h2, hb1.grown hg2 hb1.size (by intro k hk; simp [Value.ownBlock] at hk; exact own_base hown1 k (by simpa [Value.ownBlock] using hk))⟩
/-- what reading a text or a list leaves -/
def ReadPost {α : Type} (w : World) (g : Nat) (A : Option Addr) (bs : List UInt8) (c : Nat) (T : Option (α × Nat)) (w' : World) : Prop :=
  ∃ i' : Int, RdAt w' g A bs c i' T.isNone ∧ (∀ p, T = some p → i' = p.2) ∧ w.grownBy w' (some g)
theorem readPost_below {α : Type} {w w1 w2 : World} {g : Nat} {A : Option Addr} {bs : List UInt8} {c : Nat} {T : Option (α × Nat)} (h : ReadPost w1 g A bs c T w2) (hb : Below w.heap.size w w1) (hg : w.heap.size ≤ g) : Below w.heap.size w w2 := by
  obtain ⟨i, _, _, h3⟩ := h
  exact hb.grown h3 hb.size (by intro k hk; injection hk with hk; omega)
theorem grown_trans {a b c : World} {row : Option Nat} (h : a.grownBy b row) (k : b.grownBy c row) : a.grownBy c row := World.grownBy.trans h k
set_option maxRecDepth 100000 in
set_option maxHeartbeats 1600000 in
theorem rtext_none (g : Nat) (A : Option Addr) (bs : List UInt8) (c : Nat) (i0 most : Int) (w : World) (hl : bs.length ≤ 140737488355328) (h0 : -9223372036854775808 ≤ i0) (h1 : i0 ≤ 9223372036854775807) (h2 : -9223372036854775808 ≤ most) (h3 : most ≤ 9223372036854775807) (hr : RdAt w g A bs c i0 false) (hT : getText bs i0 most = none) :
    Calls Try.prog 25 #[.pointer (some ⟨g, 0, none⟩), .int .i64 most] w fun e w' => e = .returned (.string ByteArray.empty) ∧ ReadPost w g A bs c (none : Option (List UInt8 × Nat)) w' := by
  have HR := Lib.hid hr
  clear hr
  rcases getText_none hT with hG | ⟨m, a, hG, hcase⟩
  · have HG := Lib.hid hG
    clear hT hG
    go_enter Try.func25, Try.ntmps25
    go_wp2_with fail
    refine (num_none g A bs c i0 _ hl h0 h1 HR.out HG.out).mono ?_
    rintro e w1 ⟨rfl, i', hrd, _, hg1⟩
    have HRD := Lib.hid hrd
    have HG1 := Lib.hid hg1
    have c0 := hrd.c0
    have c1 := hrd.c1
    have c2 : w1.cell? ⟨g, 2, none⟩ = some (.bool true) := hrd.c2
    have f2 := hrd.blk.frozen 2
    clear hrd hg1
    go_wp2
    go_quiet (fail)
    go_wp2
    go_ret
    exact ⟨rfl, i', (HRD.out.drewN _).setBad true, (fun p hp => by cases hp), only_setCell (p := ⟨g, 2, none⟩) (only_drewN HG1.out _) rfl _⟩
  · have HG := Lib.hid hG
    obtain ⟨_, _, b1, b2, _⟩ := getAt_bounds hG
    have b1' : (a : Int) ≤ (bs.length : Int) := by omega
    have b2' : (m : Int) ≤ 18446744073709551615 := by omega
    have hw1 : IntKind.i64.wrap ((bs.length : Int) - (a : Int)) = (bs.length : Int) - (a : Int) := IntWalk.i64_in _ (by omega)
    have hw2 : IntKind.u64.wrap ((bs.length : Int) - (a : Int)) = (bs.length : Int) - (a : Int) := by rw [IntKind.wrap_u64]; omega
    have HC := Lib.hid hcase
    clear hT hG b1 b2 hcase
    go_enter Try.func25, Try.ntmps25
    go_wp2_with fail
    refine (num_some g A bs c i0 m a _ hl h0 h1 HR.out HG.out).mono ?_
    rintro e w1 ⟨rfl, i', hrd, hi', hg1⟩
    have hi2 : i' = (a : Int) := hi' (m, a) rfl
    subst hi2
    have HRD := Lib.hid hrd
    have HG1 := Lib.hid hg1
    have c0 := hrd.c0
    have c1 := hrd.c1
    have c2 : w1.cell? ⟨g, 2, none⟩ = some (.bool false) := hrd.c2
    have f2 := hrd.blk.frozen 2
    clear hrd hg1 hi'
    rcases HC.out with hc1 | ⟨hc1, hc2⟩ | ⟨hc1, hc2, hc3⟩
    · have d1 : decide (most < 0) = true := by rw [decide_eq_true_iff]; exact hc1
      go_wp2
      go_quiet (fail)
      go_wp2
      go_ret
      exact ⟨rfl, (a : Int), (HRD.out.drewN _).setBad true, (fun p hp => by cases hp), only_setCell (p := ⟨g, 2, none⟩) (only_drewN HG1.out _) rfl _⟩
    · have d1 : decide (most < 0) = false := by rw [decide_eq_false_iff_not]; omega
      have hw3 : IntKind.u64.wrap most = most := by rw [IntKind.wrap_u64]; omega
      have d2 : decide (most < (m : Int)) = true := by rw [decide_eq_true_iff]; exact hc2
      go_wp2
      go_quiet (fail)
      go_wp2
      go_ret
      exact ⟨rfl, (a : Int), (HRD.out.drewN _).setBad true, (fun p hp => by cases hp), only_setCell (p := ⟨g, 2, none⟩) (only_drewN HG1.out _) rfl _⟩
    · have d1 : decide (most < 0) = false := by rw [decide_eq_false_iff_not]; omega
      have hw3 : IntKind.u64.wrap most = most := by rw [IntKind.wrap_u64]; omega
      have d2 : decide (most < (m : Int)) = false := by rw [decide_eq_false_iff_not]; omega
      have d3 : decide ((bs.length : Int) - (a : Int) < (m : Int)) = true := by rw [decide_eq_true_iff]; omega
      go_wp2
      go_quiet (fail)
      go_wp2
      go_ret
      exact ⟨rfl, (a : Int), (HRD.out.drewN _).setBad true, (fun p hp => by cases hp), only_setCell (p := ⟨g, 2, none⟩) (only_drewN HG1.out _) rfl _⟩
set_option maxRecDepth 100000 in
set_option maxHeartbeats 1600000 in
theorem rtext_some (g : Nat) (A : Option Addr) (bs : List UInt8) (c : Nat) (i0 most : Int) (s : List UInt8) (e' : Nat) (w : World) (hl : bs.length ≤ 140737488355328) (hcap : bs.length ≤ c) (h0 : -9223372036854775808 ≤ i0) (h1 : i0 ≤ 9223372036854775807) (h2 : -9223372036854775808 ≤ most) (h3 : most ≤ 9223372036854775807) (hr : RdAt w g A bs c i0 false) (hT : getText bs i0 most = some (s, e')) :
    Calls Try.prog 25 #[.pointer (some ⟨g, 0, none⟩), .int .i64 most] w fun e w' => e = .returned (.string (strOf s)) ∧ ReadPost w g A bs c (some (s, e')) w' := by
  have HR := Lib.hid hr
  clear hr
  obtain ⟨m, a, hG, hc1, hc2, hc3, rfl, rfl⟩ := getText_some hT
  have HG := Lib.hid hG
  obtain ⟨_, _, b1, b2, _⟩ := getAt_bounds hG
  have b1' : (a : Int) ≤ (bs.length : Int) := by omega
  have b2' : (m : Int) ≤ 18446744073709551615 := by omega
  have b3' : (a : Int) + (m : Int) ≤ (bs.length : Int) := by omega
  have hw1 : IntKind.i64.wrap ((bs.length : Int) - (a : Int)) = (bs.length : Int) - (a : Int) := IntWalk.i64_in _ (by omega)
  have hw2 : IntKind.u64.wrap ((bs.length : Int) - (a : Int)) = (bs.length : Int) - (a : Int) := by rw [IntKind.wrap_u64]; omega
  have hw3 : IntKind.u64.wrap most = most := by rw [IntKind.wrap_u64]; omega
  have hw4 : IntKind.i64.wrap (m : Int) = (m : Int) := IntWalk.i64_in _ (by omega)
  have hw5 : IntKind.i64.wrap ((a : Int) + (m : Int)) = (a : Int) + (m : Int) := IntWalk.i64_in _ (by omega)
  have d1 : decide (most < 0) = false := by rw [decide_eq_false_iff_not]; omega
  have d2 : decide (most < (m : Int)) = false := by rw [decide_eq_false_iff_not]; omega
  have d3 : decide ((bs.length : Int) - (a : Int) < (m : Int)) = false := by rw [decide_eq_false_iff_not]; omega
  obtain ⟨A2, hcut, HA2⟩ := cut_midB (P := Try.prog) 23 5 Try.underlying23 binfo A bs.length c a (a + m) (a : Int) ((a : Int) + (m : Int)) rfl (by omega) (by omega) hc3 hcap
  rw [Nat.add_sub_cancel_left] at hcut
  clear hT hG b1 b2
  go_enter Try.func25, Try.ntmps25
  go_wp2_with fail
  refine (num_some g A bs c i0 m a _ hl h0 h1 HR.out HG.out).mono ?_
  rintro e w1 ⟨rfl, i', hrd, hi', hg1⟩
  have hi2 : i' = (a : Int) := hi' (m, a) rfl
  subst hi2
  have HRD := Lib.hid hrd
  have HG1 := Lib.hid hg1
  have c0 := hrd.c0
  have c1 := hrd.c1
  have c2 : w1.cell? ⟨g, 2, none⟩ = some (.bool false) := hrd.c2
  have f1 := hrd.blk.frozen 1
  have hs : ∀ k : Nat, (convert 23 9 (.slice A2 m (c - a))).run Try.prog (w1.drewN k) = .ok (.string (strOf ((bs.drop a).take m))) (w1.drewN k) := by
    intro k
    have := string_rule (HA2.out (w1.drewN k) bs rfl (hrd.rd.drewN k)) m (c - a) (by rw [List.length_take, List.length_drop]; omega) _ (Below.refl _ _)
    rwa [Nat.add_sub_cancel_left] at this
  clear hrd hg1 hi'
  go_wp2
  go_quiet (fail)
  go_wp2
  go_quiet (fail)
  go_wp2
  go_ret
  refine ⟨rfl, (a : Int) + (m : Int), ?_, ?_, ?_⟩
  · repeat (first | exact HRD.out | apply RdAt.drewN | apply RdAt.drew | apply RdAt.setAt)
  · intro p hp
    cases hp
    simp
  · repeat (first | exact HG1.out | apply only_drewN | apply only_drew | (refine only_setCell ?_ rfl _))
end Go.Proofs.Ytfgmgmnhelodaaa
