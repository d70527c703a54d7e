/- FrameLimits: what it comes to. -/
import Derived.Test.YtimmemkiilblcaaFrameMath
namespace Go.Proofs.Ytimmemkiilblcaa
set_option linter.unusedVariables false
set_option linter.unusedSimpArgs false
open Go.RowKit
theorem made_any (m : Nat) (x : Int) (hx : (m : Int) = x) (hm : m * 1 ≤ 281474976710656) (Z : List UInt8) (hZ : List.replicate m 0 = Z) : ∀ W : World, (Instr.makeSlice 22 (.int .i64 x) (.int .i64 x)).run Try.prog W = .ok (.slice (some ⟨W.heap.size, 0, none⟩) m m) (W.alloc (.cells (u8s Z).toArray 5)) := by
  subst hx hZ
  intro W
  rw [← made_u8s]
  exact run_make_ints 22 5 .u8 1 Try.underlying22 binfo (by decide) m hm W
theorem made_reads (w : World) (Z : List UInt8) : ReadsB (w.alloc (.cells (u8s Z).toArray 5)) (some ⟨w.heap.size, 0, none⟩) Z := (Blk.new w 5 (u8s Z).toArray).reads _ rfl
set_option maxRecDepth 100000 in
set_option maxHeartbeats 400000 in
theorem frameLimits_walk (w : World) : Calls Try.prog 8 #[] w fun e w' => e = .returned (.bool true) ∧ Below w.heap.size w w' := by
  obtain ⟨n, hn⟩ : ∃ n : Nat, n = 1048576 := ⟨_, rfl⟩
  obtain ⟨n2, hn2⟩ : ∃ n : Nat, n = 1048577 := ⟨_, rfl⟩
  obtain ⟨Z, hZ⟩ : ∃ Z, List.replicate n (0 : UInt8) = Z := ⟨_, rfl⟩
  obtain ⟨Z2, hZ2⟩ : ∃ Z, List.replicate n2 (0 : UInt8) = Z := ⟨_, rfl⟩
  obtain ⟨X, hX⟩ : ∃ X, [] ++ frameEnc Z = X := ⟨_, rfl⟩
  have hl : Z.length = n := by rw [← hZ, List.length_replicate]
  obtain ⟨x, hx⟩ : ∃ x, X.length = x := ⟨_, rfl⟩
  have hxl : x ≤ 1048700 := by
    rw [← hx, ← hX, List.nil_append, frameEnc_length, hl]
    have := enc_le10 (v := n) (by omega)
    omega
  have hfr : frameAt X 0 = some (Z, x) := by
    have h := frameAt_enc [] Z [] (by omega) (by omega)
    rw [List.append_nil] at h
    rw [hX] at h
    rw [← hx, ← hX]
    rw [← hX] at h
    simpa using h
  have hm1 := made_any n 1048576 (by omega) (by omega) Z hZ
  have hm2 := made_any n2 1048577 (by omega) (by omega) Z2 hZ2
  have HL := Lib.hid hl
  have HX := Lib.hid hX
  have HXX := Lib.hid hx
  have HFR := Lib.hid hfr
  have hni : (n : Int) = 1048576 := by omega
  have hq : ((n : Int) == 1048576) = true := by rw [beq_iff_eq]; exact hni
  have HN := Lib.hid hn
  have HN2 := Lib.hid hn2
  have HXL := Lib.hid hxl
  have HQ := Lib.hid hq
  clear hZ hZ2 hX hx hl hfr hn hn2 hni hq hxl
  go_enter Try.func8, Try.ntmps8
  go_wp2_with fail
  refine (fput_n none [] 0 0 (some ⟨w.heap.size, 0, none⟩) Z n n X x _ rfl HL.out HX.out HXX.out (by omega) (by omega) (readsB_nil _ _) (by have := HN.out; omega) (by have := HN.out; omega) (made_reads w Z)).mono ?_
  rintro e w1 ⟨A1, c1, rfl, ho1, hc1, hb1⟩
  have hb1' : Below w.heap.size w w1 := below_then (below_new w _) hb1
  have HO1 := Lib.hid ho1.reads
  clear ho1 hb1
  go_wp2_with fail
  refine (fput_bad _ _ n2 n2 _ 1 1 _ rfl (.inr (by have := HN2.out; omega))).mono ?_
  rintro e w2 ⟨rfl, rfl⟩
  have hb2 := below_two w1 (.cells #[.int .u8 7] 5) (.cells (u8s Z2).toArray 5)
  have hb2' := below_then hb1' hb2
  go_wp2_with fail
  refine (fget_at A1 X x c1 0 _ HXX.out (by have := HXL.out; omega) hc1 (HO1.out.below hb2) Z x n HFR.out HL.out).mono ?_
  rintro e w3 ⟨A3, c3, rfl, ho3, hb3⟩
  have hb3' := below_then hb2' hb3
  have hq := HQ.out
  clear ho3 hb2
  go_wp2_with fail
  refine (awake_any _).mono ?_
  rintro e w4 ⟨rfl, hb4⟩
  have hb4' := below_then hb3' hb4
  go_wp2
  go_ret
  exact ⟨rfl, hb4'⟩
end Go.Proofs.Ytimmemkiilblcaa
