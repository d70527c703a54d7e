/- The statements on the sum: what each comes to, by the contracts of what it calls. -/
import Derived.Test.YtldmpbaplfjnbaaSumAwake
import Derived.Test.YtldmpbaplfjnbaaPlace
namespace Go.Proofs.Ytldmpbaplfjnbaa
set_option linter.unusedVariables false
set_option linter.unusedSimpArgs false
open Go.RowKit
set_option maxHeartbeats 400000 in
theorem sumMore_walk (x0 : Int) (A : Option Addr) (bs : List UInt8) (c : Nat) (w : World) (wf : (Lit.int .u32 x0).wf = true) (hr : ReadsB w A bs) (hc : bs.length ≤ c) (hb : c ≤ 140737488351232) :
    Calls Try.prog 4 #[.int .u32 x0, .slice A bs.length c] w fun e w' => e = .returned (.bool true) ∧ Below w.heap.size w w' := by
  obtain ⟨s, rfl⟩ := u32i_of x0 wf
  clear wf
  have HR := Lib.hid hr
  clear hr
  go_enter Try.func4, Try.ntmps4
  go_wp2_with fail
  refine (bytes_any A bs c _ (by omega) HR.out).mono ?_
  rintro e w1 ⟨A1, c1, rfl, hown1, hb1⟩
  have HR1 := Lib.hid (show ReadsB w1 A1 bs from Reads.of_own hown1)
  have HO := Lib.hid (HR.out.below hb1)
  clear hown1
  go_wp2_with fail
  refine (more_any s A1 bs c1 _ (by omega) HR1.out).mono ?_
  rintro e w2 ⟨rfl, hb2⟩
  have HO2 := Lib.hid (HO.out.below hb2)
  go_wp2_with fail
  refine (refMore_any s A bs c _ (by omega) HO2.out).mono ?_
  rintro e w3 ⟨rfl, hb3⟩
  go_wp2_with fail
  refine (awake_any _).mono ?_
  rintro e w4 ⟨rfl, hb4⟩
  go_wp2
  go_ret
  exact ⟨rfl, below_then (below_then (below_then hb1 hb2) hb3) hb4⟩
set_option maxHeartbeats 400000 in
theorem sumOf_walk (A : Option Addr) (bs : List UInt8) (c : Nat) (w : World) (hr : ReadsB w A bs) (hc : bs.length ≤ c) (hb : c ≤ 140737488351232) :
    Calls Try.prog 3 #[.slice A bs.length c] w fun e w' => e = .returned (.bool true) ∧ Below w.heap.size w w' := by
  have HR := Lib.hid hr
  clear hr
  go_enter Try.func3, Try.ntmps3
  go_wp2_with fail
  refine (bytes_any A bs c _ (by omega) HR.out).mono ?_
  rintro e w1 ⟨A1, c1, rfl, hown1, hb1⟩
  have HR1 := Lib.hid (show ReadsB w1 A1 bs from Reads.of_own hown1)
  clear hown1
  go_wp2_with fail
  refine (sumOf_n A1 bs bs.length c1 _ rfl (by omega) HR1.out).mono ?_
  rintro e w2 ⟨rfl, hb2'⟩
  have HR2 := Lib.hid (HR1.out.below hb2')
  have hb2 := below_then hb1 hb2'
  go_wp2_with fail
  refine (refOf_any A bs c _ (by omega) (HR.out.below hb2)).mono ?_
  rintro e w3 ⟨rfl, hb3'⟩
  have hs1 := string_of (P := Try.prog) (HR2.out.below hb3') 22 9 5 Try.underlying22 Try.underlying5 Try.underlying9 c1
  have hb3 := below_then hb2 hb3'
  have hs2 := string_of (P := Try.prog) (HR.out.below hb3) 22 9 5 Try.underlying22 Try.underlying5 Try.underlying9 c
  go_wp2_with fail
  refine (awake_any _).mono ?_
  rintro e w4 ⟨rfl, hb4'⟩
  have hb4 := below_then hb3 hb4'
  go_wp2
  go_ret
  exact ⟨rfl, hb4⟩
set_option maxHeartbeats 800000 in
theorem sumParts_walk (A : Option Addr) (bs : List UInt8) (c : Nat) (x1 : Int) (w : World) (hr : ReadsB w A bs) (hc : bs.length ≤ c) (hb : c ≤ 140737488351232) (wf : (Lit.int .i64 x1).wf = true) :
    Calls Try.prog 5 #[.slice A bs.length c, .int .i64 x1] w fun e w' => e = .returned (.bool true) ∧ Below w.heap.size w w' := by
  have HR := Lib.hid hr
  clear hr
  have ⟨hx0, hx1⟩ : -9223372036854775808 ≤ x1 ∧ x1 ≤ 9223372036854775807 := by
    simp [Lit.wf, IntKind.min, IntKind.max, IntKind.signed, IntKind.bits] at wf
    exact wf
  clear wf
  go_enter Try.func5, Try.ntmps5
  go_wp2_with fail
  refine (place_any x1 (bs.length + 1) _ hx0 hx1 (by omega) (by omega)).mono ?_
  rintro e w1 ⟨rfl, rfl⟩
  obtain ⟨k, hk⟩ : ∃ k : Nat, x1 % ((bs.length : Int) + 1) = k := ⟨(x1 % ((bs.length : Int) + 1)).toNat, by have := Int.emod_nonneg x1 (show ((bs.length : Int) + 1) ≠ 0 by omega); omega⟩
  have hk1 : k ≤ bs.length := by have := Int.emod_lt_of_pos x1 (show 0 < ((bs.length : Int) + 1) by omega); omega
  rw [hk]
  clear hk
  have hk2 : (k : Int) ≤ (bs.length : Int) := by omega
  have hk3 : (k : Int) ≤ (c : Int) := by omega
  obtain ⟨A2, hcut, HA2⟩ := cut_fromB (P := Try.prog) 22 5 Try.underlying22 info8 A bs.length c k hk1 hc
  have HT : Hid ((bs.take k).length = k) := by show (bs.take k).length = k; rw [List.length_take]; omega
  have HD : Hid ((bs.drop k).length = bs.length - k) := by show (bs.drop k).length = bs.length - k; rw [List.length_drop]
  have HM : (u32i (More (Sum (bs.take k)) (bs.drop k)) == u32i (Sum bs)) = true := by rw [sum_more, List.take_append_drop]; simp
  go_wp2
  go_region_with (first
    | (go_at_call 9; (with_reducible refine (sumOf_n A (bs.take k) k c _ HT.out (by omega) (by exact ReadsB.drew (HR.out.take k))).mono ?_); rintro e w2 ⟨rfl, hb2'⟩; have hb2 := below_drew hb2')
    | (go_at_call 12; (with_reducible refine (more_n (Sum (bs.take k)) A2 (bs.drop k) (bs.length - k) (c - k) _ HD.out (by omega) (by exact (HA2.out _ _ rfl HR.out).below hb2)).mono ?_); rintro e w3 ⟨rfl, hb3'⟩; have hb3 := below_then hb2 hb3')
    | (go_at_call 9; (with_reducible refine (sumOf_n A bs bs.length c _ rfl (by omega) (by exact HR.out.below hb5)).mono ?_); rintro e w6 ⟨rfl, hb6'⟩; have hb6 := below_then hb5 hb6')
    | (go_at_call 9; (with_reducible refine (sumOf_n A bs bs.length c _ rfl (by omega) (by exact HR.out.below hb3)).mono ?_); rintro e w4 ⟨rfl, hb4'⟩; have hb4 := below_then hb3 hb4')
    | (go_at_call 12; (with_reducible refine (more_zero A bs bs.length c _ rfl (by omega) (by exact HR.out.below hb4)).mono ?_); rintro e w5 ⟨rfl, hb5'⟩; have hb5 := below_then hb4 hb5')
    | (go_at_call 11; (with_reducible refine (awake_any _).mono ?_); rintro e w7 ⟨rfl, hb7'⟩; have hb7 := below_then hb6 hb7'))
  go_wp2
  go_ret
  exact ⟨rfl, hb7⟩
end Go.Proofs.Ytldmpbaplfjnbaa
