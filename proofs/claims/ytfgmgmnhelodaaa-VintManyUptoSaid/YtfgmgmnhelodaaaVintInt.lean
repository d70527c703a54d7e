/- Numbers with signs: what vint.GetInt and the reference compute. -/
import Derived.Test.YtfgmgmnhelodaaaVintNumbersW
import Derived.Laws.DeepNot64
namespace Go.Proofs.Ytfgmgmnhelodaaa
set_option linter.unusedVariables false
set_option linter.unusedSimpArgs false
open Go.RowKit
theorem xor_i64_comm (a b : Int) : bits .xor .i64 a b = bits .xor .i64 b a := by
  show IntKind.i64.wrap ((BitVec.ofInt 64 a ^^^ BitVec.ofInt 64 b).toNat : Int) = IntKind.i64.wrap ((BitVec.ofInt 64 b ^^^ BitVec.ofInt 64 a).toNat : Int)
  rw [BitVec.xor_comm]
theorem xor_i64_zero (a : Nat) (ha : a < 9223372036854775808) : bits .xor .i64 (a : Int) 0 = (a : Int) := by
  have h : a % 2 ^ 64 = a := Nat.mod_eq_of_lt (by omega)
  show IntKind.i64.wrap ((BitVec.ofInt 64 (a : Int) ^^^ BitVec.ofInt 64 0).toNat : Int) = _
  rw [show BitVec.ofInt 64 0 = 0#64 by decide, BitVec.xor_zero, BitVec.ofInt_natCast, BitVec.toNat_ofNat, h, IntKind.wrap_i64]
  omega
theorem and1_u64 (v : Nat) (hv : v < 18446744073709551616) : bits .and .u64 (v : Int) 1 = ((v % 2 : Nat) : Int) := by
  have := bits_mask .u64 64 (by decide) (fun n h0 h1 => by rw [IntKind.wrap_u64]; omega) 1 (by decide) (v : Int) (by omega) (by omega)
  simpa using this
theorem zag_walk (v : Nat) (hv : v < 18446744073709551616) : bits .xor .i64 (wrap64 ((v : Int) / 2)) (wrap64 (-wrap64 (bits .and .u64 (v : Int) 1))) = zag v := by
  have e1 : wrap64 ((v : Int) / 2) = ((v / 2 : Nat) : Int) := by unfold wrap64; omega
  rw [and1_u64 v hv, e1]
  rcases Nat.mod_two_eq_zero_or_one v with h | h
  · rw [h, show wrap64 (-wrap64 ((0 : Nat) : Int)) = 0 by unfold wrap64; omega, xor_i64_zero _ (by omega)]
    unfold zag
    rw [if_neg (by omega)]
  · rw [h, show wrap64 (-wrap64 ((1 : Nat) : Int)) = -1 by unfold wrap64; omega, xor_i64_comm, i64_not _ (by omega)]
    unfold zag
    rw [if_pos h]
    omega
theorem zero_walk : bits .xor .i64 0 (wrap64 (-wrap64 (bits .and .u64 0 1))) = 0 := by
  have h : bits .and .u64 0 1 = 0 := by have := and1_u64 0 (by decide); simpa using this
  have h2 : bits .xor .i64 0 0 = 0 := by have := xor_i64_zero 0 (by decide); simpa using this
  rw [h, show wrap64 (-wrap64 0) = 0 by unfold wrap64; omega, h2]
set_option maxRecDepth 100000 in
set_option maxHeartbeats 800000 in
theorem vgetInt_some (A : Option Addr) (bs : List UInt8) (n c : Nat) (i0 : Int) (v e' : Nat) (w : World) (hn : bs.length = n) (hl : n ≤ 140737488355328) (h0 : -9223372036854775808 ≤ i0) (h1 : i0 ≤ 9223372036854775807) (hr : ReadsB w A bs) (hT : getAt bs i0 = some (v, e')) :
    Calls Try.prog 19 #[.slice A n c, .int .i64 i0] w fun e w' => e = .returned (.tuple #[.int .i64 (zag v), .int .i64 (e' : Int), .bool true]) ∧ w = w' := by
  have HR := Lib.hid hr
  have HT := Lib.hid hT
  have HN := Lib.hid hn
  have HV := Lib.hid (getAt_bounds hT).2.2.2.1
  clear hr hT hn
  go_enter Try.func19, Try.ntmps19
  go_wp2_with fail
  refine (vget_some A bs n c i0 v e' _ HN.out hl h0 h1 HR.out HT.out).mono ?_
  rintro e w1 ⟨rfl, rfl⟩
  go_wp2
  go_ret3
  refine ⟨?_, rfl⟩
  rw [← zag_walk v HV.out]
  rfl
set_option maxRecDepth 100000 in
set_option maxHeartbeats 800000 in
theorem vgetInt_none (A : Option Addr) (bs : List UInt8) (n c : Nat) (i0 : Int) (w : World) (hn : bs.length = n) (hl : n ≤ 140737488355328) (h0 : -9223372036854775808 ≤ i0) (h1 : i0 ≤ 9223372036854775807) (hr : ReadsB w A bs) (hT : getAt bs i0 = none) :
    Calls Try.prog 19 #[.slice A n c, .int .i64 i0] w fun e w' => e = .returned (.tuple #[.int .i64 0, .int .i64 0, .bool false]) ∧ w = w' := by
  have HR := Lib.hid hr
  have HT := Lib.hid hT
  have HN := Lib.hid hn
  clear hr hT hn
  go_enter Try.func19, Try.ntmps19
  go_wp2_with fail
  refine (vget_none A bs n c i0 _ HN.out hl h0 h1 HR.out HT.out).mono ?_
  rintro e w1 ⟨rfl, rfl⟩
  go_wp2
  go_ret3
  refine ⟨?_, rfl⟩
  rw [zero_walk]
  rfl
set_option maxRecDepth 100000 in
set_option maxHeartbeats 800000 in
theorem refInt_n (v : Int) (x : Nat) (w : World) (h0 : -9223372036854775808 ≤ v) (h1 : v ≤ 9223372036854775807) (hx : (enc (zig v)).length = x) :
    Calls Try.prog 20 #[.int .i64 v] w fun e w' => ∃ A' c', e = .returned (.slice A' x c') ∧ OwnB w' w.heap.size (.slice A' x c') (enc (zig v)) ∧ Below w.heap.size w w' := by
  have HX := Lib.hid hx
  have HZ := Lib.hid (zig_lt v h0 h1)
  clear hx
  by_cases hv : v < 0
  · go_enter Try.func20, Try.ntmps20
    go_wp2_with fail
    rw [show (-(v + 1) * 2 + 1) = ((zig v : Nat) : Int) by unfold zig; rw [if_pos hv]; omega]
    refine (refPut_n (zig v) x _ HZ.out HX.out).mono ?_
    rintro e w1 ⟨A1, c1, rfl, hown1, hb1⟩
    go_wp2
    go_ret
    exact ⟨A1, c1, by simp, hown1, hb1⟩
  · have hv' : 0 ≤ v := by omega
    go_enter Try.func20, Try.ntmps20
    go_wp2_with fail
    rw [show (v * 2) = ((zig v : Nat) : Int) by unfold zig; rw [if_neg (by omega)]; omega]
    refine (refPut_n (zig v) x _ HZ.out HX.out).mono ?_
    rintro e w1 ⟨A1, c1, rfl, hown1, hb1⟩
    go_wp2
    go_ret
    exact ⟨A1, c1, by simp, hown1, hb1⟩
theorem num_none (g : Nat) (A : Option Addr) (bs : List UInt8) (c : Nat) (i0 : Int) (w : World) (hl : bs.length ≤ 140737488355328) (h0 : -9223372036854775808 ≤ i0) (h1 : i0 ≤ 9223372036854775807) (hr : RdAt w g A bs c i0 false) (hT : getAt bs i0 = none) :
    Calls Try.prog 16 #[.pointer (some ⟨g, 0, none⟩)] w fun e w' => e = .returned (.int .u64 0) ∧ NumPost w g A bs c none w' := by
  have := num_any g A bs c i0 w hl h0 h1 hr
  rw [hT] at this
  exact this
theorem num_some (g : Nat) (A : Option Addr) (bs : List UInt8) (c : Nat) (i0 : Int) (v e' : Nat) (w : World) (hl : bs.length ≤ 140737488355328) (h0 : -9223372036854775808 ≤ i0) (h1 : i0 ≤ 9223372036854775807) (hr : RdAt w g A bs c i0 false) (hT : getAt bs i0 = some (v, e')) :
    Calls Try.prog 16 #[.pointer (some ⟨g, 0, none⟩)] w fun e w' => e = .returned (.int .u64 (v : Int)) ∧ NumPost w g A bs c (some (v, e')) w' := by
  have := num_any g A bs c i0 w hl h0 h1 hr
  rw [hT] at this
  exact this
set_option maxRecDepth 100000 in
set_option maxHeartbeats 800000 in
theorem rint_none (g : Nat) (A : Option Addr) (bs : List UInt8) (c : Nat) (i0 : Int) (w : World) (hl : bs.length ≤ 140737488355328) (h0 : -9223372036854775808 ≤ i0) (h1 : i0 ≤ 9223372036854775807) (hr : RdAt w g A bs c i0 false) (hT : getAt bs i0 = none) :
    Calls Try.prog 21 #[.pointer (some ⟨g, 0, none⟩)] w fun e w' => e = .returned (.int .i64 0) ∧ NumPost w g A bs c none w' := by
  have HR := Lib.hid hr
  have HT := Lib.hid hT
  clear hr hT
  go_enter Try.func21, Try.ntmps21
  go_wp2_with fail
  refine (num_none g A bs c i0 _ hl h0 h1 HR.out HT.out).mono ?_
  rintro e w1 ⟨rfl, hpost⟩
  have HP := Lib.hid hpost
  clear hpost
  go_wp2
  go_ret
  exact ⟨rfl, HP.out⟩
set_option maxRecDepth 100000 in
set_option maxHeartbeats 800000 in
theorem rint_some (g : Nat) (A : Option Addr) (bs : List UInt8) (c : Nat) (i0 : Int) (v e' : Nat) (w : World) (hl : bs.length ≤ 140737488355328) (h0 : -9223372036854775808 ≤ i0) (h1 : i0 ≤ 9223372036854775807) (hr : RdAt w g A bs c i0 false) (hT : getAt bs i0 = some (v, e')) :
    Calls Try.prog 21 #[.pointer (some ⟨g, 0, none⟩)] w fun e w' => e = .returned (.int .i64 (zag v)) ∧ NumPost w g A bs c (some (v, e')) w' := by
  have HR := Lib.hid hr
  have HT := Lib.hid hT
  have hv := (getAt_bounds hT).2.2.2.1
  clear hr hT
  rcases Nat.mod_two_eq_zero_or_one v with hu | hu
  · have q : (((v : Int) % 2) == 1) = false := by rw [beq_eq_false_iff_ne]; omega
    have HZ : Hid (zag v = ((v / 2 : Nat) : Int)) := by show zag v = _; unfold zag; rw [if_neg (by omega)]
    have q2 : (v : Int) / 2 ≤ 9223372036854775807 := by omega
    clear hu hv
    go_enter Try.func21, Try.ntmps21
    go_wp2_with fail
    refine (num_some g A bs c i0 v e' _ hl h0 h1 HR.out HT.out).mono ?_
    rintro e w1 ⟨rfl, hpost⟩
    have HP := Lib.hid hpost
    clear hpost
    go_wp2
    go_ret
    refine ⟨ret_int ?_, HP.out⟩
    rw [HZ.out]
    omega
  · have q : (((v : Int) % 2) == 1) = true := by rw [beq_iff_eq]; omega
    have HZ : Hid (zag v = -((v / 2 : Nat) : Int) - 1) := by show zag v = _; unfold zag; rw [if_pos hu]
    have q2 : (v : Int) / 2 ≤ 9223372036854775807 := by omega
    clear hu hv
    go_enter Try.func21, Try.ntmps21
    go_wp2_with fail
    refine (num_some g A bs c i0 v e' _ hl h0 h1 HR.out HT.out).mono ?_
    rintro e w1 ⟨rfl, hpost⟩
    have HP := Lib.hid hpost
    clear hpost
    go_wp2
    go_ret
    refine ⟨ret_int ?_, HP.out⟩
    rw [HZ.out]
    omega
end Go.Proofs.Ytfgmgmnhelodaaa
