/- What gauge.Put computes: the walk. -/
import Derived.Test.YteohmcjclmaanaaGaugePut
namespace Go.Proofs.Yteohmcjclmaanaa
set_option linter.unusedVariables false
set_option linter.unusedSimpArgs false
open Go.RowKit
theorem byte_shr (v i : Nat) : (v : Int) / 2 ^ (8 * i) % 256 = ((UInt8.ofNat (v / 2 ^ (8 * i) % 256)).toNat : Int) := by
  rw [UInt8.toNat_ofNat', Nat.mod_mod_of_dvd _ (by decide : 2 ^ 8 ∣ 256)]
  simp
theorem index_two (a b : Value) (i : Int) (u : Value) (h0 : 0 ≤ i) (h2 : i < 2) (hu : #[a, b][i.toNat]? = some u) (W : World) : (Instr.index 58 (.agg #[a, b]) (.int .i64 i)).run Try.prog W = .ok u W := by
  have hn : 0 ≤ i ∧ i < ((2 : Nat) : Int) := by omega
  simp [Instr.index, run_underlying Try.underlying58, asIntOf, hn, go_sem]
  rw [if_pos h2, show [a, b][i.toNat]? = some u by simpa using hu]
  rfl
set_option maxRecDepth 100000 in
set_option maxHeartbeats 1600000 in
theorem gput_any (A : Option Addr) (bs : List UInt8) (n c gn gm lo hi x : Nat) (w : World) (hn : bs.length = n) (hl : n + 40 ≤ 140737488355328) (hc : n ≤ c) (hr : ReadsB w A bs) (hw : G4.wf ⟨gn, gm, lo, hi⟩) (hx : (bs ++ encG ⟨gn, gm, lo, hi⟩).length = x) :
    Calls Try.prog 24 #[.slice A n c, .agg #[.int .u64 (gn : Int), .int .u64 (gm : Int), .int .u64 (lo : Int), .int .u64 (hi : Int)]] w fun e w' => ∃ A' c', e = .returned (.slice A' x c') ∧ OwnB w' w.heap.size (.slice A' x c') (bs ++ encG ⟨gn, gm, lo, hi⟩) ∧ Below w.heap.size w w' := by
  obtain ⟨w1', w2', w3', w4'⟩ := hw
  simp only at w1' w2' w3' w4'
  obtain ⟨la, hla⟩ : ∃ la, (enc gm).length = la := ⟨_, rfl⟩
  obtain ⟨lb, hlb⟩ : ∃ lb, (enc gn).length = lb := ⟨_, rfl⟩
  have la1 := enc_le10 w2'
  have lb1 := enc_le10 w1'
  rw [hla] at la1
  rw [hlb] at lb1
  have HR := Lib.hid hr
  have HN := Lib.hid hn
  have HLA := Lib.hid hla
  have HLB := Lib.hid hlb
  have HW1 := Lib.hid w1'
  have HW2 := Lib.hid w2'
  have HX := Lib.hid hx
  have w3i : (lo : Int) ≤ 18446744073709551615 := by omega
  have w4i : (hi : Int) ≤ 18446744073709551615 := by omega
  clear hr hn hla hlb hx w1' w2' w3' w4'
  go_enter Try.func24, Try.ntmps24
  go_wp2_with fail
  have hB0 : Below w.heap.size w ((w.alloc (.cells #[.int .u64 (gn : Int), .int .u64 (gm : Int), .int .u64 (lo : Int), .int .u64 (hi : Int)] 24)).alloc (.cells #[.int .u64 (gm : Int), .int .u64 (gn : Int)] 22)) := (below_new _ _).alloc (by simp) _
  have kb : Blk ((w.alloc (.cells #[.int .u64 (gn : Int), .int .u64 (gm : Int), .int .u64 (lo : Int), .int .u64 (hi : Int)] 24)).alloc (.cells #[.int .u64 (gm : Int), .int .u64 (gn : Int)] 22)) (w.heap.size + 1) 22 #[.int .u64 (gm : Int), .int .u64 (gn : Int)] := by
    have h := Blk.new (w.alloc (.cells #[.int .u64 (gn : Int), .int .u64 (gm : Int), .int .u64 (lo : Int), .int .u64 (hi : Int)] 24)) 22 #[.int .u64 (gm : Int), .int .u64 (gn : Int)]
    rwa [show (w.alloc (.cells #[.int .u64 (gn : Int), .int .u64 (gm : Int), .int .u64 (lo : Int), .int .u64 (hi : Int)] 24)).heap.size = w.heap.size + 1 by simp] at h
  refine (plput_any A bs n c (w.heap.size + 1) 2 gm gn la lb _ HN.out (by omega) hc (HR.out.below hB0) HW2.out HW1.out HLA.out HLB.out (by rw [kb.cell]; rfl) (by rw [kb.cell]; rfl)).mono ?_
  rintro e w5 ⟨A5, c5, rfl, ho5, hb5⟩
  have hb5' : Below w.heap.size w w5 := below_then hB0 hb5
  have HO5 := Lib.hid (ho5.mono hB0.size)
  have hGB : GB w5 w.heap.size gn gm lo hi := by
    have h : GB ((w.alloc (.cells #[.int .u64 (gn : Int), .int .u64 (gm : Int), .int .u64 (lo : Int), .int .u64 (hi : Int)] 24)).alloc (.cells #[.int .u64 (gm : Int), .int .u64 (gn : Int)] 22)) w.heap.size gn gm lo hi := (Blk.new _ _ _).alloc _
    exact h.below hb5
  obtain ⟨p0, p1, p2, p3⟩ := hGB.cells
  clear hB0 kb hb5 ho5 hGB
  by_cases h0 : gn = 0
  · have v0 : ((gn : Int) == 0) = true := by rw [beq_iff_eq]; omega
    have HX2 : Hid (n + la + lb = x ∧ bs ++ enc gm ++ enc gn = bs ++ encG ⟨gn, gm, lo, hi⟩) := by
      have e : bs ++ enc gm ++ enc gn = bs ++ encG ⟨gn, gm, lo, hi⟩ := by simp [encG, h0]
      refine ⟨?_, e⟩
      rw [← HX.out, ← e, List.length_append, List.length_append, HN.out, HLA.out, HLB.out]
    clear h0
    go_wp2
    go_ret
    have h := HO5.out
    rw [HX2.out.1, HX2.out.2] at h
    rw [HX2.out.1]
    exact ⟨A5, c5, rfl, h, hb5'⟩
  · have v0 : ((gn : Int) == 0) = false := by rw [beq_eq_false_iff_ne]; omega
    obtain ⟨P, hP⟩ : ∃ P, bs ++ enc gm ++ enc gn = P := ⟨_, rfl⟩
    obtain ⟨p, hp⟩ : ∃ p, n + la + lb = p := ⟨_, rfl⟩
    have HPL : Hid (P.length = p) := by show _ = _; rw [← hP, ← hp, List.length_append, List.length_append, HN.out, HLA.out, HLB.out]
    have HX2 : Hid (p + 8 + 8 = x ∧ P ++ leN 8 lo ++ leN 8 hi = bs ++ encG ⟨gn, gm, lo, hi⟩) := by
      have e : P ++ leN 8 lo ++ leN 8 hi = bs ++ encG ⟨gn, gm, lo, hi⟩ := by rw [← hP]; simp [encG, h0]
      refine ⟨?_, e⟩
      rw [← HX.out, ← e, List.length_append, List.length_append, leN_length, leN_length, HPL.out]
    have hpb : p ≤ 140737488355308 := by omega
    rw [hP, hp] at HO5
    rw [hp]
    clear h0 hP hp
    have ix0 := index_two (.int .u64 (lo : Int)) (.int .u64 (hi : Int)) 0 (.int .u64 (lo : Int)) (by decide) (by decide) rfl
    have ix1 := index_two (.int .u64 (lo : Int)) (.int .u64 (hi : Int)) 1 (.int .u64 (hi : Int)) (by decide) (by decide) rfl
    go_wp2
    refine wp_loop_rounds 3 ?_
    rw [rounds_succ]
    go_wp2
    go_loopw [0, 27] (fun b i wr => ∃ (j : Nat) (A7 : Option Addr) (c7 : Nat), b = .slice A7 (p + j) c7 ∧ i = .int .i64 (j : Int) ∧ j ≤ 8 ∧ Hid (OwnB wr w.heap.size (.slice A7 (p + j) c7) (P ++ leN j lo)) ∧ Hid (Below w.heap.size w wr)) (fun _ i _ => 8 - (intOf i).toNat)
    case atStart => exact ⟨0, A5, c5, rfl, rfl, by omega, by rw [leN_zero, List.append_nil]; exact HO5.out, hb5'⟩
    case round =>
      obtain ⟨j, A7, c7, rfl, rfl, hj, HO, HW⟩ := hrel
      by_cases hj8 : j < 8
      · have i1 : (j : Int) < 8 := by omega
        have HPL2 : Hid ((P ++ leN j lo).length = p + j) := by show _ = _; rw [List.length_append, leN_length, HPL.out]
        have hbase : w.heap.size ≤ wr.heap.size := HW.out.size
        go_wp2_with (at_builtin; refine wpList_append_full w.heap.size rfl _ _ 42 5 _ 1 rfl Try.underlying42 binfo rfl (by omega) (.slice A7 (p + j) c7) (u8s (P ++ leN j lo)) _ rfl rfl rfl HO.out.full hbase (by rw [u8s_length, HPL2.out]; omega) ?_; intro v1 w1 hown hbl hg; (obtain ⟨A8, c8, hv8⟩ := own_slice hown); subst hv8)
        go_roundw
        case rel =>
          rw [byte_shr, u8s_snoc, u8s_length, List.append_assoc, ← leN_succ] at hown
          have hlen : (P ++ leN (j + 1) lo).length = p + (j + 1) := by rw [List.length_append, leN_length, HPL.out]
          have h2 := ownB_up hown rfl
          refine ⟨j + 1, A8, c8, ?_, by go_num, by omega, ?_, HW.out.trans hbl⟩
          · rw [u8s_length, HPL2.out]; rfl
          · rw [hlen] at h2
            exact h2
        case measure => simp [intOf]; omega
      · have i1 : (8 : Int) ≤ (j : Int) := by omega
        obtain rfl : j = 8 := by omega
        clear hj8 i1
        have HO6 := Lib.hid HO.out
        have HB6 := Lib.hid HW.out
        obtain ⟨P2, hP2⟩ : ∃ P2, P ++ leN 8 lo = P2 := ⟨_, rfl⟩
        rw [hP2] at HO6
        have HPL3 : Hid (P2.length = p + 8) := by show _ = _; rw [← hP2, List.length_append, leN_length, HPL.out]
        have HX3 := HX2
        rw [hP2] at HX3
        clear HO HW hP2
        go_wp2
        rw [rounds_succ]
        go_wp2
        go_loopw [0, 27] (fun b i wr => ∃ (j : Nat) (A7 : Option Addr) (c7 : Nat), b = .slice A7 (p + 8 + j) c7 ∧ i = .int .i64 (j : Int) ∧ j ≤ 8 ∧ Hid (OwnB wr w.heap.size (.slice A7 (p + 8 + j) c7) (P2 ++ leN j hi)) ∧ Hid (Below w.heap.size w wr)) (fun _ i _ => 8 - (intOf i).toNat)
        case atStart => exact ⟨0, A7, c7, rfl, rfl, by omega, by rw [leN_zero, List.append_nil]; exact HO6.out, HB6.out⟩
        case round =>
          obtain ⟨j, A7, c7, rfl, rfl, hj, HO, HW⟩ := hrel
          by_cases hj8 : j < 8
          · have i1 : (j : Int) < 8 := by omega
            have HPL2 : Hid ((P2 ++ leN j hi).length = p + 8 + j) := by show _ = _; rw [List.length_append, leN_length, HPL3.out]
            have hbase : w.heap.size ≤ wr.heap.size := HW.out.size
            go_wp2_with (at_builtin; refine wpList_append_full w.heap.size rfl _ _ 42 5 _ 1 rfl Try.underlying42 binfo rfl (by omega) (.slice A7 (p + 8 + j) c7) (u8s (P2 ++ leN j hi)) _ rfl rfl rfl HO.out.full hbase (by rw [u8s_length, HPL2.out]; omega) ?_; intro v1 w1 hown hbl hg; (obtain ⟨A8, c8, hv8⟩ := own_slice hown); subst hv8)
            go_roundw
            case rel =>
              rw [byte_shr, u8s_snoc, u8s_length, List.append_assoc, ← leN_succ] at hown
              have hlen : (P2 ++ leN (j + 1) hi).length = p + 8 + (j + 1) := by rw [List.length_append, leN_length, HPL3.out]
              have h2 := ownB_up hown rfl
              refine ⟨j + 1, A8, c8, ?_, by go_num, by omega, ?_, HW.out.trans hbl⟩
              · rw [u8s_length, HPL2.out]; rfl
              · rw [hlen] at h2
                exact h2
            case measure => simp [intOf]; omega
          · have i1 : (8 : Int) ≤ (j : Int) := by omega
            obtain rfl : j = 8 := by omega
            clear hj8 i1
            go_wp2
            rw [rounds_succ]
            go_wp2
            go_ret
            have h := HO.out
            rw [HX3.out.1, HX3.out.2] at h
            rw [HX3.out.1]
            exact ⟨A7, c7, rfl, h, HW.out⟩
end Go.Proofs.Yteohmcjclmaanaa
