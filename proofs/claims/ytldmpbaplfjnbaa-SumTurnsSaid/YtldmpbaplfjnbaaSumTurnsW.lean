/- SumTurns: what it comes to. -/
import Derived.Test.YtldmpbaplfjnbaaSumLaws
import Derived.Test.YtldmpbaplfjnbaaSumBurst
namespace Go.Proofs.Ytldmpbaplfjnbaa
set_option linter.unusedVariables false
set_option linter.unusedSimpArgs false
open Go.RowKit
theorem strOf_list (bs : List UInt8) : (strOf bs).toList = bs := by rw [ByteArray.toList_eq]; rfl
theorem u8s_setL (bs : List UInt8) (i : Nat) (x : UInt8) : (u8s bs).set i (.int .u8 (x.toNat : Int)) = u8s (bs.set i x) := by simp [u8s, List.map_set]
theorem bit_and (s : BitVec 32) (j : Nat) : bits .and .u32 (u32i s / 2 ^ j) 1 = ((s.toNat / 2 ^ j % 2 : Nat) : Int) := by
  have e : u32i s / 2 ^ j = u32i (s >>> j) := by
    unfold u32i
    rw [BitVec.toNat_ushiftRight, Nat.shiftRight_eq_div_pow]
    simp
  rw [e, show (1 : Int) = u32i 1#32 by decide, and_u32]
  unfold u32i
  rw [BitVec.toNat_and, BitVec.toNat_ushiftRight, Nat.shiftRight_eq_div_pow]
  simp [Nat.and_one_is_mod]
set_option maxHeartbeats 400000 in
theorem sumTurns_walk (A : Option Addr) (bs : List UInt8) (c : Nat) (x1 x2 : Int) (w : World) (hr : ReadsB w A bs) (hc : bs.length ≤ c) (hb : c ≤ 140737488351232) (wf1 : (Lit.int .i64 x1).wf = true) (wf2 : (Lit.int .u32 x2).wf = true) :
    Calls Try.prog 6 #[.slice A bs.length c, .int .i64 x1, .int .u32 x2] w fun e w' => e = .returned (.bool true) ∧ Below w.heap.size w w' := by
  have HR := Lib.hid hr
  clear hr
  have ⟨hx0, hx1⟩ : -9223372036854775808 ≤ x1 ∧ x1 ≤ 9223372036854775807 := by
    simp [Lit.wf, IntKind.min, IntKind.max, IntKind.signed, IntKind.bits] at wf1
    exact wf1
  obtain ⟨s2, rfl⟩ := u32i_of x2 wf2
  clear wf1 wf2
  by_cases hz : bs.length = 0
  · obtain rfl : bs = [] := List.eq_nil_of_length_eq_zero hz
    clear hz
    go_enter Try.func6, Try.ntmps6
    go_wp2_with (go_at_call 11; (with_reducible refine (awake_any _).mono ?_); rintro e w1 ⟨rfl, hb1⟩)
    go_ret
    exact ⟨rfl, hb1⟩
  by_cases hbig : 1048576 < bs.length
  · have hz1 : ((bs.length : Int) == 0) = false := by rw [beq_eq_false_iff_ne]; omega
    have hz2 : (1048576 : Int) < (bs.length : Int) := by omega
    go_enter Try.func6, Try.ntmps6
    go_wp2_with (go_at_call 11; (with_reducible refine (awake_any _).mono ?_); rintro e w1 ⟨rfl, hb1⟩)
    go_ret
    exact ⟨rfl, hb1⟩
  · have hz1 : ((bs.length : Int) == 0) = false := by rw [beq_eq_false_iff_ne]; omega
    have hz2 : (bs.length : Int) ≤ (1048576 : Int) := by omega
    go_enter Try.func6, Try.ntmps6
    go_wp2_with fail
    refine (bytes_any A bs c _ (by omega) HR.out).mono ?_
    rintro e w1 ⟨A1, c1, rfl, hown1, hb1⟩
    go_wp2_with fail
    refine (place_any x1 (8 * bs.length) _ hx0 hx1 (by omega) (by omega)).mono ?_
    rintro e w2 ⟨rfl, rfl⟩
    obtain ⟨k, hk⟩ : ∃ k : Nat, x1 % (8 * (bs.length : Int)) = k := ⟨(x1 % (8 * (bs.length : Int))).toNat, by have := Int.emod_nonneg x1 (show (8 * (bs.length : Int)) ≠ 0 by omega); omega⟩
    have hk1 : k < 8 * bs.length := by have := Int.emod_lt_of_pos x1 (show 0 < (8 * (bs.length : Int)) by omega); omega
    rw [hk]
    clear hk
    obtain ⟨g, cap, hA1, hg1, hg2⟩ := hown1.form (show 0 < bs.length by omega)
    have hA1' : A1 = some ⟨g, 0, none⟩ := by injection hA1
    subst hA1'
    clear hA1
    go_wp2
    go_loopw [9] (fun i wr => ∃ j : Nat, j ≤ 32 ∧ k + j ≤ 8 * bs.length ∧ i = .int .i64 j ∧ Hid (wr.ownsRow w.heap.size 5 1 (.slice (some ⟨g, 0, none⟩) bs.length c1) bs.length (u8s (flips bs k s2.toNat j))) ∧ Hid (Below w.heap.size w wr)) (fun i _ => 32 - (intOf i).toNat)
    case atStart => exact ⟨0, by omega, by omega, rfl, hown1, hb1⟩
    case round =>
      obtain ⟨j, hj, hj2, rfl, HO, HW⟩ := hrel
      by_cases hlt : j < 32 ∧ k + j < 8 * bs.length
      · obtain ⟨hlt1, hlt2⟩ := hlt
        have i1 : (j : Int) < (32 : Int) := by omega
        have i2 : (k : Int) + (j : Int) < 8 * (bs.length : Int) := by omega
        by_cases hbit : s2.toNat / 2 ^ j % 2 = 1
        · have t1 : (bits .and .u32 (u32i s2 / 2 ^ j) 1 == 1) = true := by rw [bit_and, hbit]; rfl
          have HF : Hid (flips bs k s2.toNat (j + 1) = flipAt (flips bs k s2.toNat j) (k + j)) := by show flips bs k s2.toNat (j + 1) = _; rw [flips, if_pos hbit]
          have HL : Hid ((flips bs k s2.toNat j).length = bs.length) := flips_length _ _ _ _
          generalize flips bs k s2.toNat j = F at HO HF HL
          have f0 := HO.out.frozenAt ((k + j) / 8)
          have f1 : wr.cell? ⟨g, (k + j) / 8, none⟩ = some (.int .u8 ((F.getD ((k + j) / 8) 0).toNat : Int)) := by
            have hlt3 : (k + j) / 8 < F.length := by rw [HL.out]; omega
            rw [HO.out.cellAt _ (by omega)]
            simp [u8s, List.getElem?_eq_getElem hlt3]
          obtain ⟨x, hx⟩ : ∃ x, F.getD ((k + j) / 8) 0 = x := ⟨_, rfl⟩
          rw [hx] at f1
          have HX := Lib.hid hx
          clear hx
          clear hbit
          go_wp2
          go_roundw
          case rel =>
            refine ⟨j + 1, by omega, by omega, by go_num, ?_, ?_⟩
            · show World.ownsRow _ _ _ _ _ _ _
              rw [HF.out]
              have he : bits .xor .u8 (x.toNat : Int) ((2 : Int) ^ ((k + j) % 8) % 256) = ((x ^^^ UInt8.ofNat (2 ^ ((k + j) % 8))).toNat : Int) := by
                rw [← xor_u8, UInt8.toNat_ofNat']
                congr 1
              rw [he]
              have h1 := HO.out.stored ((k + j) / 8) (.int .u8 ((x ^^^ UInt8.ofNat (2 ^ ((k + j) % 8))).toNat : Int))
              rw [u8s_setL] at h1
              rw [flipAt, HX.out]
              exact h1.1
            · exact Below.setCell HW.out hg1 _
          case measure => simp [intOf]; omega
        · have t1 : (bits .and .u32 (u32i s2 / 2 ^ j) 1 == 1) = false := by
            rw [bit_and]
            rw [beq_eq_false_iff_ne]
            omega
          have HF : Hid (flips bs k s2.toNat (j + 1) = flips bs k s2.toNat j) := by show flips bs k s2.toNat (j + 1) = _; rw [flips, if_neg hbit]
          clear hbit
          go_wp2
          go_roundw
          case rel => exact ⟨j + 1, by omega, by omega, by go_num, by rw [HF.out]; exact HO, HW⟩
          case measure => simp [intOf]; omega
      · have HB : Hid ((Sum (flips bs k s2.toNat j) = Sum bs) ↔ (flips bs k s2.toNat j = bs)) := burst bs k s2.toNat j hj2 hj
        have HL : Hid ((flips bs k s2.toNat j).length = bs.length) := flips_length _ _ _ _
        generalize flips bs k s2.toNat j = F at HO HB HL
        have HRF := Lib.hid (show ReadsB wr (some ⟨g, 0, none⟩) F from Reads.of_own HO.out)
        have HRB := Lib.hid (HR.out.below HW.out)
        have hs1 : ∀ W : World, Below wr.heap.size wr W → (convert 22 9 (.slice (some ⟨g, 0, none⟩) bs.length c1)).run Try.prog W = .ok (.string (strOf F)) W := fun W h => by
          have := string_of (P := Try.prog) (HRF.out.below h) 22 9 5 Try.underlying22 Try.underlying5 Try.underlying9 c1
          rwa [HL.out] at this
        have hs2 : ∀ W : World, Below wr.heap.size wr W → (convert 22 9 (.slice A bs.length c)).run Try.prog W = .ok (.string (strOf bs)) W := fun W h =>
          string_of (P := Try.prog) (HRB.out.below h) 22 9 5 Try.underlying22 Try.underlying5 Try.underlying9 c
        have HW' := HW.out
        clear HR HO HW
        have hcase : F = bs ∨ ((u32i (Sum F) == u32i (Sum bs)) = false ∧ ((strOf F).toList == (strOf bs).toList) = false) := by
          by_cases hF : F = bs
          · exact .inl hF
          · refine .inr ⟨?_, ?_⟩
            · rw [u32i_beq, beq_eq_false_iff_ne]
              exact fun h => hF (HB.out.1 h)
            · rw [beq_eq_false_iff_ne, strOf_list, strOf_list]
              exact hF
        clear HB
        rcases hcase with hF | ⟨q1, q2⟩
        · subst hF
          by_cases hlt1 : j < 32
          · have i1 : (j : Int) < (32 : Int) := by omega
            have i2 : 8 * (F.length : Int) ≤ (k : Int) + (j : Int) := by omega
            go_wp2
            go_region_held3 (fun w' => Below wr.heap.size wr w') (first | exact (Below.refl _ _).drew | exact below_then (by assumption) (by assumption))
              (first
                | (go_at_call 9; (with_reducible refine (sumOf_n (some ⟨g, 0, none⟩) F F.length c1 _ rfl (by omega) (by exact HRF.out.below (by assumption))).mono ?_); rintro e w2 ⟨rfl, hb2⟩)
                | (go_at_call 9; (with_reducible refine (sumOf_n A F F.length c _ rfl (by omega) (by exact HRB.out.below (by assumption))).mono ?_); rintro e w2 ⟨rfl, hb2⟩)
                | (go_at_call 11; (with_reducible refine (awake_any _).mono ?_); rintro e w2 ⟨rfl, hb2⟩))
            go_wp2
            go_ret
            exact ⟨rfl, HW'.trans (Below.mono (by assumption) HW'.size)⟩
          · have i1 : (32 : Int) ≤ (j : Int) := by omega
            go_wp2
            go_region_held3 (fun w' => Below wr.heap.size wr w') (first | exact (Below.refl _ _).drew | exact below_then (by assumption) (by assumption))
              (first
                | (go_at_call 9; (with_reducible refine (sumOf_n (some ⟨g, 0, none⟩) F F.length c1 _ rfl (by omega) (by exact HRF.out.below (by assumption))).mono ?_); rintro e w2 ⟨rfl, hb2⟩)
                | (go_at_call 9; (with_reducible refine (sumOf_n A F F.length c _ rfl (by omega) (by exact HRB.out.below (by assumption))).mono ?_); rintro e w2 ⟨rfl, hb2⟩)
                | (go_at_call 11; (with_reducible refine (awake_any _).mono ?_); rintro e w2 ⟨rfl, hb2⟩))
            go_wp2
            go_ret
            exact ⟨rfl, HW'.trans (Below.mono (by assumption) HW'.size)⟩
        · by_cases hlt1 : j < 32
          · have i1 : (j : Int) < (32 : Int) := by omega
            have i2 : 8 * (bs.length : Int) ≤ (k : Int) + (j : Int) := by omega
            go_wp2
            go_region_held3 (fun w' => Below wr.heap.size wr w') (first | exact (Below.refl _ _).drew | exact below_then (by assumption) (by assumption))
              (first
                | (go_at_call 9; (with_reducible refine (sumOf_n (some ⟨g, 0, none⟩) F _ c1 _ HL.out (by omega) (by exact HRF.out.below (by assumption))).mono ?_); rintro e w2 ⟨rfl, hb2⟩)
                | (go_at_call 9; (with_reducible refine (sumOf_n A bs bs.length c _ rfl (by omega) (by exact HRB.out.below (by assumption))).mono ?_); rintro e w2 ⟨rfl, hb2⟩)
                | (go_at_call 11; (with_reducible refine (awake_any _).mono ?_); rintro e w2 ⟨rfl, hb2⟩))
            go_wp2
            go_ret
            exact ⟨rfl, HW'.trans (Below.mono (by assumption) HW'.size)⟩
          · have i1 : (32 : Int) ≤ (j : Int) := by omega
            go_wp2
            go_region_held3 (fun w' => Below wr.heap.size wr w') (first | exact (Below.refl _ _).drew | exact below_then (by assumption) (by assumption))
              (first
                | (go_at_call 9; (with_reducible refine (sumOf_n (some ⟨g, 0, none⟩) F _ c1 _ HL.out (by omega) (by exact HRF.out.below (by assumption))).mono ?_); rintro e w2 ⟨rfl, hb2⟩)
                | (go_at_call 9; (with_reducible refine (sumOf_n A bs bs.length c _ rfl (by omega) (by exact HRB.out.below (by assumption))).mono ?_); rintro e w2 ⟨rfl, hb2⟩)
                | (go_at_call 11; (with_reducible refine (awake_any _).mono ?_); rintro e w2 ⟨rfl, hb2⟩))
            go_wp2
            go_ret
            exact ⟨rfl, HW'.trans (Below.mono (by assumption) HW'.size)⟩
end Go.Proofs.Ytldmpbaplfjnbaa
