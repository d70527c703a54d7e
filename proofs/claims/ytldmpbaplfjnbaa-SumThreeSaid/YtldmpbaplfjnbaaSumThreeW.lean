/- SumThree: what it comes to. -/
import Derived.Test.YtldmpbaplfjnbaaSumLaws
namespace Go.Proofs.Ytldmpbaplfjnbaa
set_option linter.unusedVariables false
set_option linter.unusedSimpArgs false
open Go.RowKit
set_option maxHeartbeats 400000 in
theorem sumThree_walk (A0 : Option Addr) (a : List UInt8) (c0 : Nat) (A1 : Option Addr) (b : List UInt8) (c1 : Nat) (A2 : Option Addr) (c : List UInt8) (c2 : Nat) (w : World)
    (hr0 : ReadsB w A0 a) (hc0 : a.length ≤ c0) (hb0 : c0 ≤ 140737488351232) (hr1 : ReadsB w A1 b) (hc1 : b.length ≤ c1) (hb1 : c1 ≤ 140737488351232) (hr2 : ReadsB w A2 c) (hc2 : c.length ≤ c2) (hb2 : c2 ≤ 140737488351232) :
    Calls Try.prog 7 #[.slice A0 a.length c0, .slice A1 b.length c1, .slice A2 c.length c2] w fun e w' => e = .returned (.bool true) ∧ Below w.heap.size w w' := by
  have HR0 := Lib.hid hr0
  have HR1 := Lib.hid hr1
  have HR2 := Lib.hid hr2
  clear hr0 hr1 hr2
  obtain ⟨n, hn⟩ : ∃ n, n = min a.length (min b.length c.length) := ⟨_, rfl⟩
  have hna : n ≤ a.length := by omega
  have hnb : n ≤ b.length := by omega
  have hnc : n ≤ c.length := by omega
  have hmin : ∀ (W : World) (ts : Array TypeId) (t : TypeId), (Builtin.min_ ts t #[.int .i64 (a.length : Int), .int .i64 (b.length : Int), .int .i64 (c.length : Int)]).run Try.prog W = .ok (.int .i64 (n : Int)) W := by
    intro W ts t
    rw [run_min_int3]
    congr 2
    split <;> split at * <;> omega
  clear hn
  have hmk := run_make_ints (P := Try.prog) 22 5 .u8 1 Try.underlying22 info8 (by omega) n (by omega)
  have HM := Lib.hid (made_u8s n)
  go_enter Try.func7, Try.ntmps7
  go_wp2
  obtain ⟨X, hX⟩ : ∃ X, xor3 (a.take n) (b.take n) (c.take n) = X := ⟨_, rfl⟩
  have HL : Hid (X.length = n) := by
    show X.length = n
    rw [← hX, xor3_length _ _ _ (by simp; omega) (by simp; omega), List.length_take]
    omega
  have HE : Hid (∀ k, k < n → X.getD k 0 = a.getD k 0 ^^^ b.getD k 0 ^^^ c.getD k 0) := by
    intro k hk
    rw [← hX]
    exact xor3_at a b c k n hna hnb hnc hk
  have HS : (bits .xor .u32 (bits .xor .u32 (u32i (Sum (a.take n))) (u32i (Sum (b.take n)))) (u32i (Sum (c.take n))) == u32i (Sum X)) = true := by
    rw [xor_u32, xor_u32, more_xor3 _ _ _ (by simp; omega) (by simp; omega), hX]
    simp
  clear hX
  go_loopw [9] (fun i wr => ∃ k : Nat, k ≤ n ∧ i = .int .i64 k ∧ Hid (Blk wr w.heap.size 5 (u8s (part X n k)).toArray) ∧ Hid (Below w.heap.size w wr)) (fun i _ => n - (intOf i).toNat)
  case atStart => exact ⟨0, Nat.zero_le _, rfl, by rw [HM.out, part_zero]; exact Blk.new _ _ _, below_new _ _⟩
  case round =>
    obtain ⟨k, hk, rfl, HB, HW⟩ := hrel
    by_cases hlt : k < n
    · obtain ⟨ad0, hA0, g0⟩ := (HR0.out.below HW.out).at (show k < a.length by omega)
      obtain ⟨ad1, hA1, g1⟩ := (HR1.out.below HW.out).at (show k < b.length by omega)
      obtain ⟨ad2, hA2, g2⟩ := (HR2.out.below HW.out).at (show k < c.length by omega)
      subst hA0 hA1 hA2
      obtain ⟨x0, hx0⟩ : ∃ x, a.getD k 0 = x := ⟨_, rfl⟩
      obtain ⟨x1, hx1⟩ : ∃ x, b.getD k 0 = x := ⟨_, rfl⟩
      obtain ⟨x2, hx2⟩ : ∃ x, c.getD k 0 = x := ⟨_, rfl⟩
      rw [hx0] at g0
      rw [hx1] at g1
      rw [hx2] at g2
      have HX0 := Lib.hid hx0
      have HX1 := Lib.hid hx1
      have HX2 := Lib.hid hx2
      clear hx0 hx1 hx2
      have f0 := HB.out.frozen k
      obtain ⟨old, f1⟩ : ∃ v, wr.cell? ⟨w.heap.size, k, none⟩ = some v := by
        rw [HB.out.cell]
        refine ⟨_, Array.getElem?_eq_getElem (by simp [u8s, part_length X n k HL.out hk]; exact hlt)⟩
      have i0 : (k : Int) < (a.length : Int) := by omega
      have i1 : (k : Int) < (b.length : Int) := by omega
      have i2 : (k : Int) < (c.length : Int) := by omega
      have i3 : (k : Int) < (n : Int) := by omega
      go_wp2
      go_region
      go_wp2
      go_roundw
      case rel =>
        refine ⟨k + 1, by omega, by go_num, ?_, ?_⟩
        · have hv : bits .xor .u8 (bits .xor .u8 (x0.toNat : Int) (x1.toNat : Int)) (x2.toNat : Int) = (((X.getD k 0).toNat : Nat) : Int) := by
            rw [xor_u8, xor_u8, HE.out k hlt, HX0.out, HX1.out, HX2.out]
          show Blk _ _ _ _
          rw [hv, ← part_set X n k HL.out hlt, ← u8s_set]
          exact HB.out.drew.set_ k _
        · exact Below.setCell (Below.drew HW.out) (Nat.le_refl _) _
      case measure => simp [intOf]; omega
    · have hkn : k = n := by omega
      subst hkn
      have HR3 := Lib.hid (show ReadsB wr (some ⟨w.heap.size, 0, none⟩) X from HB.out.reads _ (by rw [part_all X k HL.out]))
      have e0 : (k : Int) ≤ (c0 : Int) := by omega
      have e1 : (k : Int) ≤ (c1 : Int) := by omega
      have e2 : (k : Int) ≤ (c2 : Int) := by omega
      have T0 : Hid ((a.take k).length = k) := by show (a.take k).length = k; rw [List.length_take]; omega
      have T1 : Hid ((b.take k).length = k) := by show (b.take k).length = k; rw [List.length_take]; omega
      have T2 : Hid ((c.take k).length = k) := by show (c.take k).length = k; rw [List.length_take]; omega
      have Q0 := Lib.hid (ReadsB.take (HR0.out.below HW.out) k)
      have Q1 := Lib.hid (ReadsB.take (HR1.out.below HW.out) k)
      have Q2 := Lib.hid (ReadsB.take (HR2.out.below HW.out) k)
      clear HR0 HR1 HR2
      have hWW := HW.out
      clear HM HB HW
      go_wp2
      go_region_with (first
        | (go_at_call 9; (with_reducible refine (sumOf_n (some ⟨w.heap.size, 0, none⟩) X k k _ HL.out (by omega) (by exact HR3.out.below hd3)).mono ?_); rintro e w4 ⟨rfl, hd4'⟩; have hd4 := below_then hd3 hd4')
        | (go_at_call 9; (with_reducible refine (sumOf_n A2 (c.take k) k c2 _ T2.out (by omega) (by exact Q2.out.below hd2)).mono ?_); rintro e w3 ⟨rfl, hd3'⟩; have hd3 := below_then hd2 hd3')
        | (go_at_call 9; (with_reducible refine (sumOf_n A1 (b.take k) k c1 _ T1.out (by omega) (by exact Q1.out.below hd1)).mono ?_); rintro e w2 ⟨rfl, hd2'⟩; have hd2 := below_then hd1 hd2')
        | (go_at_call 9; (with_reducible refine (sumOf_n A0 (a.take k) k c0 _ T0.out (by omega) (by exact ReadsB.drew Q0.out)).mono ?_); rintro e w1 ⟨rfl, hd1'⟩; have hd1 := below_drew hd1')
        | (go_at_call 11; (with_reducible refine (awake_any _).mono ?_); rintro e w5 ⟨rfl, hd5'⟩; have hd5 := below_then hd4 hd5'))
      go_wp2
      go_ret
      exact ⟨rfl, hWW.trans (hd5.mono hWW.size)⟩
end Go.Proofs.Ytldmpbaplfjnbaa
