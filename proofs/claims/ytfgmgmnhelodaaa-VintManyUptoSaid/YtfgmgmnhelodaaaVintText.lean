/- Texts: what vint.GetText and the reference compute. -/
import Derived.Test.YtfgmgmnhelodaaaVintInt
namespace Go.Proofs.Ytfgmgmnhelodaaa
set_option linter.unusedVariables false
set_option linter.unusedSimpArgs false
open Go.RowKit
/-- a cut out of the middle -/
theorem cut_midB {P : Program} (t e : TypeId) (ht : P.underlying t = some (.slice e)) {z : Value} {bytes : Nat} (hinfo : (P.info? e).map (fun i => (i.zero, i.size, i.bytes)) = some (some z, 1, bytes)) (A : Option Addr) (n c l h : Nat) (i j : Int) (hi : i = l) (hj : j = h) (hlh : l ≤ h) (hn : h ≤ n) (hc : n ≤ c) :
    ∃ A' : Option Addr, (∀ W : World, (Instr.slice t (.slice A n c) (some (.int .i64 i)) (some (.int .i64 j)) none).run P W = .ok (.slice A' (h - l) (c - l)) W) ∧
      Hid (∀ (w : World) (bs : List UInt8), bs.length = n → ReadsB w A bs → ReadsB w A' ((bs.drop l).take (h - l))) := by
  subst hi hj
  obtain ⟨ti, hti, hsz⟩ := info_size hinfo
  refine ⟨if c = l then A else A.map (·.add l), fun W => ?_, fun w bs hl hr => ?_⟩
  · have hel : P.elem t = e := by simp [Program.elem, ht]
    have hu : P.underlying t = some (.slice (P.elem t)) := by rw [hel]; exact ht
    rw [run_slice_lh W t A n c hu .i64 .i64 (l : Int) (h : Int) (Int.natCast_nonneg _) (by omega) (by omega), hel]
    simp [sizeOf, typeInfo, hti, hsz, sliced, Result.andThen]
  · exact ReadsB.take (ReadsB.drop hr l c (by omega) (by omega)) _
theorem getText_some {bs : List UInt8} {i most : Int} {s : List UInt8} {e : Nat} (h : getText bs i most = some (s, e)) :
    ∃ n a, getAt bs i = some (n, a) ∧ 0 ≤ most ∧ (n : Int) ≤ most ∧ a + n ≤ bs.length ∧ s = (bs.drop a).take n ∧ e = a + n := by
  unfold getText at h
  rcases hT : getAt bs i with _ | ⟨n, a⟩
  · rw [hT] at h; cases h
  · rw [hT] at h
    simp only at h
    split at h
    · cases h
    · simp only [Option.some.injEq, Prod.mk.injEq] at h
      exact ⟨n, a, rfl, by omega, by omega, by omega, h.1.symm, h.2.symm⟩
theorem getText_none {bs : List UInt8} {i most : Int} (h : getText bs i most = none) :
    getAt bs i = none ∨ ∃ n a, getAt bs i = some (n, a) ∧ (most < 0 ∨ (0 ≤ most ∧ most < (n : Int)) ∨ (0 ≤ most ∧ (n : Int) ≤ most ∧ bs.length < a + n)) := by
  unfold getText at h
  rcases hT : getAt bs i with _ | ⟨n, a⟩
  · exact .inl rfl
  · rw [hT] at h
    simp only at h
    split at h
    · refine .inr ⟨n, a, rfl, ?_⟩
      omega
    · cases h
set_option maxRecDepth 100000 in
set_option maxHeartbeats 800000 in
theorem vgetText_none (A : Option Addr) (bs : List UInt8) (n c : Nat) (i0 most : Int) (w : World) (hn : bs.length = n) (hl : n ≤ 140737488355328) (h0 : -9223372036854775808 ≤ i0) (h1 : i0 ≤ 9223372036854775807) (h2 : -9223372036854775808 ≤ most) (h3 : most ≤ 9223372036854775807) (hr : ReadsB w A bs) (hT : getText bs i0 most = none) :
    Calls Try.prog 23 #[.slice A n c, .int .i64 i0, .int .i64 most] w fun e w' => e = .returned (.tuple #[.string ByteArray.empty, .int .i64 0, .bool false]) ∧ w = w' := by
  subst hn
  have HR := Lib.hid hr
  clear hr
  rcases getText_none hT with hG | ⟨m, a, hG, hcase⟩
  · have HG := Lib.hid hG
    clear hT hG
    go_enter Try.func23, Try.ntmps23
    go_wp2_with fail
    refine (vget_none A bs bs.length c i0 _ rfl hl h0 h1 HR.out HG.out).mono ?_
    rintro e w1 ⟨rfl, rfl⟩
    go_wp2
    go_ret3
    exact ⟨rfl, rfl⟩
  · have HG := Lib.hid hG
    obtain ⟨_, _, b1, b2, _⟩ := getAt_bounds hG
    have b1' : (a : Int) ≤ (bs.length : Int) := by omega
    have b2' : (m : Int) ≤ 18446744073709551615 := by omega
    clear hT hG b1 b2
    rcases hcase with hc1 | ⟨hc1, hc2⟩ | ⟨hc1, hc2, hc3⟩
    · go_enter Try.func23, Try.ntmps23
      go_wp2_with fail
      refine (vget_some A bs bs.length c i0 m a _ rfl hl h0 h1 HR.out HG.out).mono ?_
      rintro e w1 ⟨rfl, rfl⟩
      go_wp2
      go_ret3
      exact ⟨rfl, rfl⟩
    · go_enter Try.func23, Try.ntmps23
      go_wp2_with fail
      refine (vget_some A bs bs.length c i0 m a _ rfl hl h0 h1 HR.out HG.out).mono ?_
      rintro e w1 ⟨rfl, rfl⟩
      go_wp2
      go_ret3
      exact ⟨rfl, rfl⟩
    · have hc4 : (bs.length : Int) - (a : Int) < (m : Int) := by omega
      clear hc3
      go_enter Try.func23, Try.ntmps23
      go_wp2_with fail
      refine (vget_some A bs bs.length c i0 m a _ rfl hl h0 h1 HR.out HG.out).mono ?_
      rintro e w1 ⟨rfl, rfl⟩
      go_wp2
      go_ret3
      exact ⟨rfl, rfl⟩
set_option maxRecDepth 100000 in
set_option maxHeartbeats 800000 in
theorem vgetText_some (A : Option Addr) (bs : List UInt8) (n c : Nat) (i0 most : Int) (s : List UInt8) (e' : Nat) (w : World) (hn : bs.length = n) (hl : n ≤ 140737488355328) (hcap : n ≤ c) (h0 : -9223372036854775808 ≤ i0) (h1 : i0 ≤ 9223372036854775807) (h2 : -9223372036854775808 ≤ most) (h3 : most ≤ 9223372036854775807) (hr : ReadsB w A bs) (hT : getText bs i0 most = some (s, e')) :
    Calls Try.prog 23 #[.slice A n c, .int .i64 i0, .int .i64 most] w fun e w' => e = .returned (.tuple #[.string (strOf s), .int .i64 (e' : Int), .bool true]) ∧ w = w' := by
  subst hn
  have HR := Lib.hid hr
  clear hr
  obtain ⟨m, a, hG, hc1, hc2, hc3, rfl, rfl⟩ := getText_some hT
  have HG := Lib.hid hG
  obtain ⟨_, _, b1, b2, _⟩ := getAt_bounds hG
  have b1' : (a : Int) ≤ (bs.length : Int) := by omega
  have b2' : (m : Int) ≤ 18446744073709551615 := by omega
  have b3' : (a : Int) + (m : Int) ≤ (bs.length : Int) := by omega
  have b4' : (m : Int) ≤ (bs.length : Int) - (a : Int) := by omega
  obtain ⟨A2, hcut, HA2⟩ := cut_midB (P := Try.prog) 23 5 Try.underlying23 binfo A bs.length c a (a + m) (a : Int) ((a : Int) + (m : Int)) rfl (by omega) (by omega) hc3 hcap
  have hs := string_rule (HA2.out w bs rfl HR.out) (a + m - a) (c - a) (by rw [List.length_take, List.length_drop]; omega) w (Below.refl _ _)
  rw [Nat.add_sub_cancel_left] at hs hcut
  clear hT hG b1 b2
  go_enter Try.func23, Try.ntmps23
  go_wp2_with fail
  refine (vget_some A bs bs.length c i0 m a _ rfl hl h0 h1 HR.out HG.out).mono ?_
  rintro e w1 ⟨rfl, rfl⟩
  go_wp2
  go_ret3
  refine ⟨?_, rfl⟩
  simp
end Go.Proofs.Ytfgmgmnhelodaaa
