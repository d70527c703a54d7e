/- Lists that rise: what the reference's reader computes of their length. -/
import Derived.Test.YtfgmgmnhelodaaaRefRise
import Derived.Test.YtfgmgmnhelodaaaRefText
namespace Go.Proofs.Ytfgmgmnhelodaaa
set_option linter.unusedVariables false
set_option linter.unusedSimpArgs false
open Go.RowKit
/-- a length that fits -/
def countAt (bs : List UInt8) (i most : Int) : Option (Nat × Nat) :=
  match getAt bs i with
  | none => none
  | some (n, a) => if most < 0 ∨ most < (n : Int) ∨ bs.length < a + n then none else some (n, a)
theorem getRise_count (bs : List UInt8) (i most : Int) : getRise bs i most = match countAt bs i most with | none => none | some (n, a) => riseAt bs n none a := by
  unfold getRise countAt
  rcases getAt bs i with _ | ⟨n, a⟩
  · rfl
  · simp only
    split <;> rfl
theorem countAt_none {bs : List UInt8} {i most : Int} (h : countAt bs i most = none) :
    getAt bs i = none ∨ ∃ n a, getAt bs i = some (n, a) ∧ (most < 0 ∨ (0 ≤ most ∧ most < (n : Int)) ∨ (0 ≤ most ∧ (n : Int) ≤ most ∧ bs.length < a + n)) := by
  unfold countAt at h
  rcases hT : getAt bs i with _ | ⟨n, a⟩
  · exact .inl rfl
  · rw [hT] at h
    simp only at h
    refine .inr ⟨n, a, rfl, ?_⟩
    split at h
    · omega
    · cases h
theorem countAt_some {bs : List UInt8} {i most : Int} {n a : Nat} (h : countAt bs i most = some (n, a)) :
    getAt bs i = some (n, a) ∧ 0 ≤ most ∧ (n : Int) ≤ most ∧ a + n ≤ bs.length := by
  unfold countAt at h
  rcases hT : getAt bs i with _ | ⟨n', a'⟩
  · rw [hT] at h; cases h
  · rw [hT] at h
    simp only at h
    split at h
    · cases h
    · cases h
      exact ⟨rfl, by omega, by omega, by omega⟩
set_option maxRecDepth 100000 in
set_option maxHeartbeats 1600000 in
theorem rcount_none (g : Nat) (A : Option Addr) (bs : List UInt8) (c : Nat) (i0 most : Int) (w : World) (hl : bs.length ≤ 140737488355328) (h0 : -9223372036854775808 ≤ i0) (h1 : i0 ≤ 9223372036854775807) (h2 : -9223372036854775808 ≤ most) (h3 : most ≤ 9223372036854775807) (hr : RdAt w g A bs c i0 false) (hT : countAt bs i0 most = none) :
    Calls Try.prog 35 #[.pointer (some ⟨g, 0, none⟩), .int .i64 most] w fun e w' => e = .returned (.int .i64 0) ∧ NumPost w g A bs c none w' := by
  have HR := Lib.hid hr
  clear hr
  rcases countAt_none hT with hG | ⟨m, a, hG, hcase⟩
  · have HG := Lib.hid hG
    clear hT hG
    go_enter Try.func35, Try.ntmps35
    go_wp2_with fail
    refine (num_none g A bs c i0 _ hl h0 h1 HR.out HG.out).mono ?_
    rintro e w1 ⟨rfl, i', hrd, _, hg1⟩
    have HRD := Lib.hid hrd
    have HG1 := Lib.hid hg1
    have c0 := hrd.c0
    have c1 := hrd.c1
    have c2 : w1.cell? ⟨g, 2, none⟩ = some (.bool true) := hrd.c2
    have f2 := hrd.blk.frozen 2
    clear hrd hg1
    go_wp2
    go_quiet (fail)
    go_wp2
    go_ret
    exact ⟨rfl, i', (HRD.out.drewN _).setBad true, (fun p hp => by cases hp), only_setCell (p := ⟨g, 2, none⟩) (only_drewN HG1.out _) rfl _⟩
  · have HG := Lib.hid hG
    obtain ⟨_, _, b1, b2, _⟩ := getAt_bounds hG
    have b1' : (a : Int) ≤ (bs.length : Int) := by omega
    have b2' : (m : Int) ≤ 18446744073709551615 := by omega
    have hw1 : IntKind.i64.wrap ((bs.length : Int) - (a : Int)) = (bs.length : Int) - (a : Int) := IntWalk.i64_in _ (by omega)
    have hw2 : IntKind.u64.wrap ((bs.length : Int) - (a : Int)) = (bs.length : Int) - (a : Int) := by rw [IntKind.wrap_u64]; omega
    have HC := Lib.hid hcase
    clear hT hG b1 b2 hcase
    go_enter Try.func35, Try.ntmps35
    go_wp2_with fail
    refine (num_some g A bs c i0 m a _ hl h0 h1 HR.out HG.out).mono ?_
    rintro e w1 ⟨rfl, i', hrd, hi', hg1⟩
    have hi2 : i' = (a : Int) := hi' (m, a) rfl
    subst hi2
    have HRD := Lib.hid hrd
    have HG1 := Lib.hid hg1
    have c0 := hrd.c0
    have c1 := hrd.c1
    have c2 : w1.cell? ⟨g, 2, none⟩ = some (.bool false) := hrd.c2
    have f2 := hrd.blk.frozen 2
    clear hrd hg1 hi'
    rcases HC.out with hc1 | ⟨hc1, hc2⟩ | ⟨hc1, hc2, hc3⟩
    · have d1 : decide (most < 0) = true := by rw [decide_eq_true_iff]; exact hc1
      go_wp2
      go_quiet (fail)
      go_wp2
      go_ret
      exact ⟨rfl, (a : Int), (HRD.out.drewN _).setBad true, (fun p hp => by cases hp), only_setCell (p := ⟨g, 2, none⟩) (only_drewN HG1.out _) rfl _⟩
    · have d1 : decide (most < 0) = false := by rw [decide_eq_false_iff_not]; omega
      have hw3 : IntKind.u64.wrap most = most := by rw [IntKind.wrap_u64]; omega
      have d2 : decide (most < (m : Int)) = true := by rw [decide_eq_true_iff]; exact hc2
      go_wp2
      go_quiet (fail)
      go_wp2
      go_ret
      exact ⟨rfl, (a : Int), (HRD.out.drewN _).setBad true, (fun p hp => by cases hp), only_setCell (p := ⟨g, 2, none⟩) (only_drewN HG1.out _) rfl _⟩
    · have d1 : decide (most < 0) = false := by rw [decide_eq_false_iff_not]; omega
      have hw3 : IntKind.u64.wrap most = most := by rw [IntKind.wrap_u64]; omega
      have d2 : decide (most < (m : Int)) = false := by rw [decide_eq_false_iff_not]; omega
      have d3 : decide ((bs.length : Int) - (a : Int) < (m : Int)) = true := by rw [decide_eq_true_iff]; omega
      go_wp2
      go_quiet (fail)
      go_wp2
      go_ret
      exact ⟨rfl, (a : Int), (HRD.out.drewN _).setBad true, (fun p hp => by cases hp), only_setCell (p := ⟨g, 2, none⟩) (only_drewN HG1.out _) rfl _⟩
set_option maxRecDepth 100000 in
set_option maxHeartbeats 1600000 in
theorem rcount_some (g : Nat) (A : Option Addr) (bs : List UInt8) (c : Nat) (i0 most : Int) (m a : Nat) (w : World) (hl : bs.length ≤ 140737488355328) (h0 : -9223372036854775808 ≤ i0) (h1 : i0 ≤ 9223372036854775807) (h2 : -9223372036854775808 ≤ most) (h3 : most ≤ 9223372036854775807) (hr : RdAt w g A bs c i0 false) (hT : countAt bs i0 most = some (m, a)) :
    Calls Try.prog 35 #[.pointer (some ⟨g, 0, none⟩), .int .i64 most] w fun e w' => e = .returned (.int .i64 (m : Int)) ∧ NumPost w g A bs c (some (m, a)) w' := by
  have HR := Lib.hid hr
  clear hr
  obtain ⟨hG, hc1, hc2, hc3⟩ := countAt_some hT
  have HG := Lib.hid hG
  obtain ⟨_, _, b1, b2, _⟩ := getAt_bounds hG
  have b1' : (a : Int) ≤ (bs.length : Int) := by omega
  have b2' : (m : Int) ≤ 18446744073709551615 := by omega
  have b3' : (a : Int) + (m : Int) ≤ (bs.length : Int) := by omega
  have hw1 : IntKind.i64.wrap ((bs.length : Int) - (a : Int)) = (bs.length : Int) - (a : Int) := IntWalk.i64_in _ (by omega)
  have hw2 : IntKind.u64.wrap ((bs.length : Int) - (a : Int)) = (bs.length : Int) - (a : Int) := by rw [IntKind.wrap_u64]; omega
  have hw3 : IntKind.u64.wrap most = most := by rw [IntKind.wrap_u64]; omega
  have hw4 : IntKind.i64.wrap (m : Int) = (m : Int) := IntWalk.i64_in _ (by omega)
  have d1 : decide (most < 0) = false := by rw [decide_eq_false_iff_not]; omega
  have d2 : decide (most < (m : Int)) = false := by rw [decide_eq_false_iff_not]; omega
  have d3 : decide ((bs.length : Int) - (a : Int) < (m : Int)) = false := by rw [decide_eq_false_iff_not]; omega
  clear hT hG b1 b2
  go_enter Try.func35, Try.ntmps35
  go_wp2_with fail
  refine (num_some g A bs c i0 m a _ hl h0 h1 HR.out HG.out).mono ?_
  rintro e w1 ⟨rfl, i', hrd, hi', hg1⟩
  have hi2 : i' = (a : Int) := hi' (m, a) rfl
  subst hi2
  have HRD := Lib.hid hrd
  have HG1 := Lib.hid hg1
  have c0 := hrd.c0
  have c1 := hrd.c1
  have c2 : w1.cell? ⟨g, 2, none⟩ = some (.bool false) := hrd.c2
  clear hrd hg1 hi'
  go_wp2
  go_quiet (fail)
  go_wp2
  go_ret
  refine ⟨rfl, (a : Int), ?_, ?_, ?_⟩
  · repeat (first | exact HRD.out | apply RdAt.drewN | apply RdAt.drew | apply RdAt.setAt)
  · intro p hp
    cases hp
    simp
  · repeat (first | exact HG1.out | apply only_drewN | apply only_drew | (refine only_setCell ?_ rfl _))
end Go.Proofs.Ytfgmgmnhelodaaa
