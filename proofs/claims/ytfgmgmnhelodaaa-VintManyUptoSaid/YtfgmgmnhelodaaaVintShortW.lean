/- VintShort: what it comes to. -/
import Derived.Test.YtfgmgmnhelodaaaShortLaw
namespace Go.Proofs.Ytfgmgmnhelodaaa
set_option linter.unusedVariables false
set_option linter.unusedSimpArgs false
open Go.RowKit
/-- a cut from the start on -/
theorem cut_toB {P : Program} (t e : TypeId) (ht : P.underlying t = some (.slice e)) {z : Value} {bytes : Nat} (hinfo : (P.info? e).map (fun i => (i.zero, i.size, i.bytes)) = some (some z, 1, bytes)) (A : Option Addr) (n c h : Nat) (j : Int) (hj : j = h) (hn : h ≤ n) (hc : n ≤ c) :
    ∃ A' : Option Addr, (∀ W : World, (Instr.slice t (.slice A n c) none (some (.int .i64 j)) none).run P W = .ok (.slice A' h c) W) ∧
      Hid (∀ (w : World) (bs : List UInt8), bs.length = n → ReadsB w A bs → ReadsB w A' (bs.take h)) := by
  subst hj
  obtain ⟨ti, hti, hsz⟩ := info_size hinfo
  refine ⟨if c = 0 then A else A.map (·.add 0), fun W => ?_, fun w bs hl hr => ?_⟩
  · have hel : P.elem t = e := by simp [Program.elem, ht]
    have hu : P.underlying t = some (.slice (P.elem t)) := by rw [hel]; exact ht
    rw [run_slice_h W t A n c hu .i64 (h : Int) (Int.natCast_nonneg _) (by omega), hel]
    simp [sizeOf, typeInfo, hti, hsz, sliced, Result.andThen]
  · have := ReadsB.take (ReadsB.drop hr 0 c (by omega) (by omega)) h
    simpa using this
theorem vputText_nil (s : ByteArray) (x : Nat) (w : World) (hx : (encText s.data.toList).length = x) (hl : 10 + s.size ≤ 140737488355328) :
    Calls Try.prog 22 #[.slice none 0 0, .string s] w fun e w' => ∃ A' c', e = .returned (.slice A' x c') ∧ OwnB w' w.heap.size (.slice A' x c') (encText s.data.toList) ∧ Below w.heap.size w w' := by
  have := vputText_n none [] 0 0 s x w rfl (by omega) (by omega) (Nat.le_refl _) (Reads.nil _ _)
  simpa using this
theorem vputRise_nil (A2 : Option Addr) (l : List Nat) (k c2 x : Nat) (w : World) (hk : l.length = k) (hx : (encRise l).length = x) (hl : 20 + 10 * k ≤ 140737488355328) (hr2 : ReadsN w A2 l) (hlt : ∀ n ∈ l, n < 18446744073709551616) :
    Calls Try.prog 26 #[.slice none 0 0, .slice A2 k c2] w fun e w' => ∃ A' c', e = .returned (.slice A' x c') ∧ OwnB w' w.heap.size (.slice A' x c') (encRise l) ∧ Below w.heap.size w w' := by
  have := vputRise_n none [] 0 0 A2 l k c2 x w rfl hk (by omega) (by omega) (Nat.le_refl _) (Reads.nil _ _) hr2 hlt
  simpa using this
theorem encText_pos (s : List UInt8) : 1 ≤ (encText s).length := by
  have := enc_pos s.length
  simp only [encText, List.length_append]
  omega
theorem encRise_pos (l : List Nat) : 1 ≤ (encRise l).length := by
  have := enc_pos l.length
  simp only [encRise, List.length_append]
  omega
theorem own_cut {w : World} {A A' : Option Addr} {bs : List UInt8} {n : Nat} (hl : bs.length = n) (h1 : 1 ≤ n) (h : Hid (∀ (w : World) (b : List UInt8), b.length = n → ReadsB w A b → ReadsB w A' (b.take (n - 1)))) (hr : ReadsB w A bs) : ReadsB w A' bs.dropLast ∧ bs.dropLast.length = n - 1 := by
  have := h.out w bs hl hr
  rw [← hl, ← List.dropLast_eq_take] at this
  exact ⟨this, by rw [List.length_dropLast, hl]⟩
set_option maxRecDepth 100000 in
set_option maxHeartbeats 3200000 in
theorem vintShort_walk (v : Int) (s : ByteArray) (A0 : Option Addr) (l : List Nat) (c0 : Nat) (w : World) (wf0 : (Lit.int .u64 v).wf = true) (hsz : s.size ≤ 1048576) (hr0 : ReadsN w A0 l) (hlt : ∀ n ∈ l, n < 18446744073709551616) (hc0 : l.length ≤ c0) (hb0 : c0 ≤ 1048576) :
    Calls Try.prog 10 #[.int .u64 v, .string s, .slice A0 l.length c0] w fun e w' => e = .returned (.bool true) ∧ Below w.heap.size w w' := by
  obtain ⟨v, rfl, hv⟩ := wf_u64 wf0
  have HR0 := Lib.hid hr0
  have HL := Lib.hid hlt
  clear wf0 hr0 hlt
  have q2 : (l.length : Int) ≤ 1048576 := by omega
  have q3 : (s.size : Int) ≤ 1048576 := by omega
  have hd : s.data.toList.length = s.size := by rw [Array.length_toList]; rfl
  have G1 := Lib.hid (getAt_short0 v hv)
  have G2 := Lib.hid (getText_short s.data.toList (by omega))
  have G3 := Lib.hid (getRise_short l (by omega))
  rw [hd] at G2
  have l1 := enc_le10 hv
  have l2 : (encText s.data.toList).length ≤ 10 + s.size := by
    have := enc_le10 (v := s.data.toList.length) (by omega)
    simp only [encText, List.length_append]
    omega
  have l3 := encRise_le l (by omega)
  have p1 := enc_pos v
  have p2 := encText_pos s.data.toList
  have p3 := encRise_pos l
  obtain ⟨m1, hm1⟩ : ∃ m, (enc v).length = m := ⟨_, rfl⟩
  obtain ⟨m2, hm2⟩ : ∃ m, (encText s.data.toList).length = m := ⟨_, rfl⟩
  obtain ⟨m3, hm3⟩ : ∃ m, (encRise l).length = m := ⟨_, rfl⟩
  rw [hm1] at l1 p1
  rw [hm2] at l2 p2
  rw [hm3] at l3 p3
  have M1 := Lib.hid hm1
  have M2 := Lib.hid hm2
  have M3 := Lib.hid hm3
  have n1 : ((m1 : Int) == 0) = false := by rw [beq_eq_false_iff_ne]; omega
  have n2 : ((m2 : Int) == 0) = false := by rw [beq_eq_false_iff_ne]; omega
  have n3 : ((m3 : Int) == 0) = false := by rw [beq_eq_false_iff_ne]; omega
  have w1' : IntKind.i64.wrap ((m1 : Int) - 1) = ((m1 - 1 : Nat) : Int) := by rw [IntWalk.i64_in] <;> omega
  have w2' : IntKind.i64.wrap ((m2 : Int) - 1) = ((m2 - 1 : Nat) : Int) := by rw [IntWalk.i64_in] <;> omega
  have w3' : IntKind.i64.wrap ((m3 : Int) - 1) = ((m3 - 1 : Nat) : Int) := by rw [IntWalk.i64_in] <;> omega
  have HV := Lib.hid hv
  clear hm1 hm2 hm3 hd hv
  go_enter Try.func10, Try.ntmps10
  go_wp2_with fail
  refine (vawake_any _).mono ?_
  rintro e w0 ⟨rfl, hb0'⟩
  go_wp2_with fail
  refine (vput_nil v m1 _ HV.out M1.out).mono ?_
  rintro e w1 ⟨A1, c1, rfl, hown1, hb1'⟩
  have hb1 := below_then hb0' hb1'
  have k1 := ownB_cap hown1
  have R1 := Lib.hid hown1.reads
  obtain ⟨B1, cut1, HB1⟩ := cut_toB (P := Try.prog) 23 5 Try.underlying23 binfo A1 m1 c1 (m1 - 1) _ rfl (by omega) k1
  have S1 := own_cut M1.out p1 HB1 R1.out
  have D1 := Lib.hid S1.1
  have E1 := Lib.hid S1.2
  clear S1 HB1 R1 hown1
  go_wp2_with fail
  refine (vputText_nil s m2 _ M2.out (by omega)).mono ?_
  rintro e w2 ⟨A2, c2, rfl, hown2, hb2'⟩
  have hb2 := below_then hb1 hb2'
  have k2 := ownB_cap hown2
  have R2 := Lib.hid hown2.reads
  obtain ⟨B2, cut2, HB2⟩ := cut_toB (P := Try.prog) 23 5 Try.underlying23 binfo A2 m2 c2 (m2 - 1) _ rfl (by omega) k2
  have S2 := own_cut M2.out p2 HB2 R2.out
  have D2 := Lib.hid S2.1
  have E2 := Lib.hid S2.2
  have D1b := Lib.hid (D1.out.below hb2')
  clear S2 HB2 R2 hown2 D1
  go_wp2_with fail
  refine (nums_any A0 l c0 _ (by omega) (HR0.out.below hb2)).mono ?_
  rintro e w3 ⟨A3, c3, rfl, hown3, hb3'⟩
  have hb3 := below_then hb2 hb3'
  have R3 := Lib.hid hown3.reads
  have D1c := Lib.hid (D1b.out.below hb3')
  have D2c := Lib.hid (D2.out.below hb3')
  clear hown3 D1b D2
  go_wp2_with fail
  refine (vputRise_nil A3 l l.length c3 m3 _ rfl M3.out (by omega) R3.out HL.out).mono ?_
  rintro e w4 ⟨A4, c4, rfl, hown4, hb4'⟩
  have hb4 := below_then hb3 hb4'
  have k4 := ownB_cap hown4
  have R4 := Lib.hid hown4.reads
  obtain ⟨B4, cut4, HB4⟩ := cut_toB (P := Try.prog) 23 5 Try.underlying23 binfo A4 m3 c4 (m3 - 1) _ rfl (by omega) k4
  have S4 := own_cut M3.out p3 HB4 R4.out
  have D4 := Lib.hid S4.1
  have E4 := Lib.hid S4.2
  have D1d := Lib.hid (D1c.out.below hb4')
  have D2d := Lib.hid (D2c.out.below hb4')
  clear S4 HB4 R4 hown4 D1c D2c
  go_wp2_with fail
  refine (vget_none B1 _ (m1 - 1) c1 0 _ E1.out (by omega) (by omega) (by omega) D1d.out G1.out).mono ?_
  rintro e w5 ⟨rfl, rfl⟩
  go_wp2_with fail
  refine (vgetText_none B2 _ (m2 - 1) c2 0 s.size _ E2.out (by omega) (by omega) (by omega) (by omega) (by omega) D2d.out G2.out).mono ?_
  rintro e w5 ⟨rfl, rfl⟩
  go_wp2_with fail
  refine (vgetRise_none B4 _ (m3 - 1) c4 0 l.length _ E4.out (by omega) (.inl (by omega)) (by omega) (by omega) (by omega) (by omega) D4.out G3.out).mono ?_
  rintro e w6 ⟨rfl, hb6'⟩
  have hb6 := below_then hb4 hb6'
  go_wp2
  go_ret
  exact ⟨rfl, hb6⟩
end Go.Proofs.Ytfgmgmnhelodaaa
