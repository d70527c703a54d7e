/- The reference's reading of a gauge: the walks. -/
import Derived.Test.YteohmcjclmaanaaGaugeRef
namespace Go.Proofs.Yteohmcjclmaanaa
set_option linter.unusedVariables false
set_option linter.unusedSimpArgs false
open Go.RowKit
theorem add_num (k v : Nat) (x : UInt8) (hv : v < 2 ^ (8 * k)) (hk : k < 8) : IntKind.u64.wrap ((v : Int) + IntKind.u64.wrap (IntKind.u64.wrap (x.toNat : Int) * 2 ^ (8 * k))) = ((v + x.toNat * 2 ^ (8 * k) : Nat) : Int) := by
  have hx := x.toNat_lt
  have h1 : 2 ^ (8 * k) ≤ 2 ^ 56 := Nat.pow_le_pow_right (by decide) (by omega)
  have h2 : x.toNat * 2 ^ (8 * k) ≤ 255 * 2 ^ 56 := Nat.mul_le_mul (by omega) h1
  have e : (x.toNat : Int) * 2 ^ (8 * k) = ((x.toNat * 2 ^ (8 * k) : Nat) : Int) := by simp
  have hw0 : IntKind.u64.wrap (x.toNat : Int) = (x.toNat : Int) := by rw [IntKind.wrap_u64]; omega
  rw [hw0, e]
  generalize x.toNat * 2 ^ (8 * k) = z at h2
  rw [IntKind.wrap_u64, IntKind.wrap_u64]
  omega
/-- what reading eight bytes leaves -/
def FixPost (w : World) (g : Nat) (A : Option Addr) (bs : List UInt8) (c : Nat) (i' : Int) (bad : Bool) (w' : World) : Prop := RdAt w' g A bs c i' bad ∧ w.grownBy w' (some g)
set_option maxRecDepth 100000 in
set_option maxHeartbeats 1600000 in
theorem fixed_short (g : Nat) (A : Option Addr) (bs : List UInt8) (c a : Nat) (w : World) (hl : bs.length ≤ 140737488355328) (hs : bs.length < a + 8) (ha : a ≤ bs.length) (hr : RdAt w g A bs c (a : Int) false) :
    Calls Try.prog 42 #[.pointer (some ⟨g, 0, none⟩)] w fun e w' => e = .returned (.int .u64 0) ∧ FixPost w g A bs c (a : Int) true w' := by
  have c0 := hr.c0
  have c1 := hr.c1
  have c2 := hr.c2
  have f2 := hr.blk.frozen 2
  have HR := Lib.hid hr
  have q1 : (bs.length : Int) - (a : Int) < 8 := by omega
  clear hr
  go_enter Try.func42, Try.ntmps42
  go_wp2_with fail
  go_quiet (fail)
  go_wp2
  go_ret
  exact ⟨rfl, (HR.out.drewN _).setBad true, only_setCell (only_drewN (World.grownBy.refl _ _) _) rfl _⟩
set_option maxRecDepth 100000 in
set_option maxHeartbeats 1600000 in
theorem fixed_bad (g : Nat) (A : Option Addr) (bs : List UInt8) (c : Nat) (i0 : Int) (w : World) (hr : RdAt w g A bs c i0 true) :
    Calls Try.prog 42 #[.pointer (some ⟨g, 0, none⟩)] w fun e w' => e = .returned (.int .u64 0) ∧ FixPost w g A bs c i0 true w' := by
  have c0 := hr.c0
  have c1 := hr.c1
  have c2 := hr.c2
  have f2 := hr.blk.frozen 2
  have HR := Lib.hid hr
  clear hr
  go_enter Try.func42, Try.ntmps42
  go_wp2_with fail
  go_quiet (fail)
  go_wp2
  go_ret
  exact ⟨rfl, (HR.out.drewN _).setBad true, only_setCell (only_drewN (World.grownBy.refl _ _) _) rfl _⟩
set_option maxRecDepth 100000 in
set_option maxHeartbeats 1600000 in
theorem fixed_ok (g : Nat) (A : Option Addr) (bs : List UInt8) (c a v : Nat) (w : World) (hl : bs.length ≤ 140737488355328) (hs : a + 8 ≤ bs.length) (hr : RdAt w g A bs c (a : Int) false) (hv : numN 8 (bs.drop a) = v) :
    Calls Try.prog 42 #[.pointer (some ⟨g, 0, none⟩)] w fun e w' => e = .returned (.int .u64 (v : Int)) ∧ FixPost w g A bs c ((a + 8 : Nat) : Int) false w' := by
  have c0 := hr.c0
  have c1 := hr.c1
  have c2 := hr.c2
  have HR := Lib.hid hr
  have HV := Lib.hid hv
  have q1 : (8 : Int) ≤ (bs.length : Int) - (a : Int) := by omega
  clear hr hv
  go_enter Try.func42, Try.ntmps42
  go_wp2_with fail
  go_quiet (fail)
  go_wp2
  go_loopw [3, 4] (fun u i wr => ∃ (j : Nat), u = .int .u64 (numN j (bs.drop a) : Int) ∧ i = .int .i64 (j : Int) ∧ j ≤ 8 ∧ Hid (RdAt wr g A bs c (a : Int) false) ∧ Hid (w.grownBy wr (some g))) (fun _ i _ => 8 - (intOf i).toNat)
  case atStart => exact ⟨0, rfl, rfl, by omega, HR.out.drewN _, only_drewN (World.grownBy.refl _ _) _⟩
  case round =>
    obtain ⟨j, rfl, rfl, hj, HRD, HG⟩ := hrel
    clear c0 c1 c2
    have d0 := HRD.out.c0
    have d1 := HRD.out.c1
    by_cases hj8 : j < 8
    · have i1 : (j : Int) < 8 := by omega
      obtain ⟨ad, hA, hc⟩ := HRD.out.rd.at (k := a + j) (by omega)
      subst hA
      obtain ⟨x, hx⟩ : ∃ x, bs.getD (a + j) 0 = x := ⟨_, rfl⟩
      rw [hx] at hc
      obtain ⟨u, hu⟩ : ∃ u, numN j (bs.drop a) = u := ⟨_, rfl⟩
      have HU : Hid (numN (j + 1) (bs.drop a) = u + x.toNat * 2 ^ (8 * j) ∧ u < 2 ^ (8 * j)) := by
        refine ⟨?_, by rw [← hu]; exact numN_lt _ _⟩
        rw [numN, hu, ← hx]
        congr 3
        simp [List.getD_eq_getElem?_getD]
      have i2 : (a : Int) + (j : Int) < (bs.length : Int) := by omega
      rw [hu]
      clear hx hu
      go_wp2_with fail
      go_quiet (fail)
      go_wp2
      go_roundw
      case rel =>
        refine ⟨j + 1, ?_, by go_num, by omega, HRD.out.drewN _, only_drewN HG.out _⟩
        rw [HU.out.1]
        exact vint (add_num j u x HU.out.2 hj8)
      case measure => simp [intOf]; omega
    · have i1 : (8 : Int) ≤ (j : Int) := by omega
      obtain rfl : j = 8 := by omega
      have f1 := HRD.out.blk.frozen 1
      have i3 : (a : Int) + 8 ≤ 140737488355328 := by omega
      rw [HV.out]
      clear hj8 i1
      go_wp2
      go_ret
      refine ⟨rfl, ?_, only_setCell HG.out rfl _⟩
      have h := HRD.out.setAt ((a : Int) + 8)
      rw [show (((a + 8 : Nat)) : Int) = (a : Int) + 8 by omega]
      exact h
end Go.Proofs.Yteohmcjclmaanaa
