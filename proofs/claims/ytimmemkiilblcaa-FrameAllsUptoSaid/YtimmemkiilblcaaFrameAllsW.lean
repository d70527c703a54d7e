/- FrameAlls: what it comes to. -/
import Derived.Test.YtimmemkiilblcaaFrameAllR
import Derived.Test.YtimmemkiilblcaaFrameAllW
import Derived.Test.YtimmemkiilblcaaPlace
import Derived.Test.YtimmemkiilblcaaBulk
namespace Go.Proofs.Ytimmemkiilblcaa
set_option linter.unusedVariables false
set_option linter.unusedSimpArgs false
open Go.RowKit
theorem rall_n (A : Option Addr) (bs : List UInt8) (c : Nat) (N z : Nat) (w : World) (hN : (frames bs).length = N) (hz : endOf (frames bs) = z) (hl : bs.length ≤ 1048576) (hc : bs.length ≤ c) (hr : ReadsB w A bs) :
    Calls Try.prog 16 #[.slice A bs.length c] w fun e w' => ∃ Al cl xs, e = .returned (.tuple #[.slice Al N cl, .int .i64 (z : Int)]) ∧ w'.ownsRow w.heap.size 43 3 (.slice Al N cl) N xs ∧ FsOk w' w.heap.size (frames bs) xs ∧ Below w.heap.size w w' := by
  subst hN hz
  exact rall_any A bs c w hl hc hr
theorem ends_q (A : Option Addr) (bs : List UInt8) (n c z : Nat) (b : Bool) (w : World) (hn : bs.length = n) (hl : n ≤ 140737488355328) (hc : n ≤ c) (hr : ReadsB w A bs) (hz : endOf (frames bs) = z) (hb : ((z : Int) == (n : Int)) = b) :
    Calls Try.prog 17 #[.slice A n c] w fun e w' => e = .returned (.tuple #[.int .i64 (z : Int), .bool b]) ∧ Below w.heap.size w w' := by
  subst hz hb
  exact ends_any A bs n c w hn hl hc hr
theorem told_len {bs : List UInt8} {N : Nat} (k : Nat) (hN : (frames bs).length = N) : (toldOf bs (k : Int)).length = min k N := by
  rw [toldOf, List.length_take, hN, Int.toNat_natCast]
theorem told_at {bs : List UInt8} {most : Int} {i : Nat} (h : i < (toldOf bs most).length) : ∃ f, (frames bs)[i]? = some f ∧ (toldOf bs most)[i]? = some f := by
  have hl := h
  rw [toldOf, List.length_take] at hl
  refine ⟨(frames bs)[i], List.getElem?_eq_getElem (by omega), ?_⟩
  rw [toldOf, List.getElem?_take, if_pos (by omega), List.getElem?_eq_getElem (by omega)]
theorem row_atN {w : World} {base s : Nat} {e : TypeId} {A : Option Addr} {n c : Nat} {xs : List Value} (h : w.ownsRow base e s (.slice A n c) n xs) (hn : 0 < n) : ∃ g, A = some ⟨g, 0, none⟩ ∧ ∀ q u, xs[q]? = some u → w.cell? ⟨g, q, none⟩ = some u := by
  obtain ⟨g, cap, hv, _, _⟩ := h.form hn
  have hA : A = some ⟨g, 0, none⟩ := by injection hv
  subst hA
  refine ⟨g, rfl, fun q u hu => ?_⟩
  have := h.cells (g := g) rfl q u hu
  rwa [add_plain] at this
theorem row_at3 {w : World} {base : Nat} {e : TypeId} {A : Option Addr} {n c : Nat} {xs : List Value} {q : Nat} {u : Value} (h : w.ownsRow base e 1 (.slice A n c) n xs) (hu : xs[q]? = some u) : ∃ ad, A = some ad ∧ w.cell? (ad.add q) = some u := by
  have hlt := (List.getElem?_eq_some_iff.1 hu).1
  obtain ⟨ad, e, hc⟩ := Reads.of_own h (by omega)
  exact ⟨ad, e, hc q u hu⟩
theorem frames_short {bs : List UInt8} : (frames bs).length ≤ bs.length := by
  have h : ∀ (k a : Nat), (framesN k bs a).length ≤ bs.length - a := by
    intro k
    induction k with
    | zero => intro a; simp [framesN]
    | succ k ih =>
      intro a
      rcases hf : frameAt bs a with _ | ⟨B, e⟩
      · rw [framesN_none hf]; simp
      · obtain ⟨h1, h2, h3, _⟩ := frameAt_in hf
        simp only [framesN, hf, List.length_cons]
        have := ih e
        omega
  exact h _ 0
set_option maxRecDepth 100000 in
set_option maxHeartbeats 6400000 in
theorem frameAlls_walk (A : Option Addr) (bs : List UInt8) (c : Nat) (x1 : Int) (w : World) (hr : ReadsB w A bs) (hc : bs.length ≤ c) (hb : c ≤ 1048576) (wf1 : (Lit.int .i64 x1).wf = true) :
    Calls Try.prog 5 #[.slice A bs.length c, .int .i64 x1] w fun e w' => e = .returned (.bool true) ∧ Below w.heap.size w w' := by
  have HR := Lib.hid hr
  have wfb : -9223372036854775808 ≤ x1 ∧ x1 ≤ 9223372036854775807 := by
    simp [Lit.wf, IntKind.min, IntKind.max, IntKind.signed, IntKind.bits] at wf1
    omega
  obtain ⟨N, hN⟩ : ∃ N, (frames bs).length = N := ⟨_, rfl⟩
  obtain ⟨z, hz⟩ : ∃ z, endOf (frames bs) = z := ⟨_, rfl⟩
  obtain ⟨b, hbv⟩ : ∃ b, ((z : Int) == (bs.length : Int)) = b := ⟨_, rfl⟩
  have v2 : (b != b) = false := by simp
  have hNl : N ≤ bs.length := by rw [← hN]; exact frames_short
  obtain ⟨k0, hk0⟩ : ∃ k : Nat, x1 % (20 : Int) = (k : Int) := ⟨(x1 % (20 : Int)).toNat, by have := Int.emod_nonneg x1 (show (20 : Int) ≠ 0 by omega); omega⟩
  have hk20 : k0 < 20 := by
    have := Int.emod_lt_of_pos x1 (show (0 : Int) < 20 by omega)
    omega
  have HN := Lib.hid hN
  have HZ := Lib.hid hz
  have HWF := Lib.hid wfb
  have HKK := Lib.hid hk0
  clear hr hN hz wf1 wfb hk0
  go_enter Try.func5, Try.ntmps5
  go_wp2_with fail
  refine (rall_n A bs c N z _ HN.out HZ.out (by omega) hc HR.out).mono ?_
  rintro e w1 ⟨Al, cl, xs, rfl, ho1, hf1, hb1⟩
  have HO1 := Lib.hid ho1
  have HF1 := Lib.hid hf1
  clear ho1 hf1
  go_wp2_with fail
  refine (bytesOwn_any A bs c _ (by omega) (HR.out.below hb1)).mono ?_
  rintro e w2 ⟨Ac, cc, rfl, hownc, hb2⟩
  have hcc := own_cap hownc
  have HRC := Lib.hid hownc.reads
  have hb2' := below_then hb1 hb2
  clear hownc
  go_wp2_with fail
  refine (ends_q Ac bs bs.length cc z b _ rfl (by omega) hcc HRC.out HZ.out hbv).mono ?_
  rintro e w3 ⟨rfl, hb3⟩
  have hb3' := below_then hb2' hb3
  have HO3 := Lib.hid (own_below (own_below HO1.out hb2) hb3)
  have HF3 := Lib.hid ((HF1.out.below hb2).below hb3)
  clear HRC
  go_wp2_with fail
  refine (place_any x1 20 _ HWF.out.1 HWF.out.2 (by omega) (by omega)).mono ?_
  rintro e w3' ⟨rfl, rfl⟩
  rw [HKK.out]
  go_wp2
  go_loopw [9, 10] (fun kq r wr => ∃ k j : Nat, kq = .int .i64 (k : Int) ∧ r = .int .i64 (j : Int) ∧ j ≤ 2 ∧ 1 ≤ k ∧ k ≤ 1048577 ∧ Hid (Below w3.heap.size w3 wr)) (fun _ r _ => 2 - (intOf r).toNat)
  case atStart => exact ⟨1 + k0, 0, by go_num, rfl, by omega, by omega, by omega, Below.refl _ _⟩
  case round =>
    obtain ⟨k, j, rfl, rfl, hj, hk1, hk2, HW⟩ := hrel
    by_cases hin : j < 2
    · have q1 : (j : Int) < 2 := by omega
      by_cases hj1 : j = 1
      · have v1 : ((j : Int) == 1) = true := by rw [beq_iff_eq]; omega
        clear hj1
        have q2 : (N : Int) < (bs.length : Int) + 1 := by omega
        go_wp2_with fail
        refine (bytesOwn_any A bs c _ (by omega) (HR.out.below (below_then hb3' HW.out))).mono ?_
        rintro e w4 ⟨A4, c4, rfl, hown4, hb4⟩
        have hcc4 := own_cap hown4
        have HR4 := Lib.hid hown4.reads
        have hW4 := below_then HW.out hb4
        clear hown4
        have HQ : Hid ((toldOf bs (((bs.length : Int) + 1) : Int)).length = N) := by show _ = _; rw [show (((bs.length : Int) + 1) : Int) = (((bs.length + 1 : Nat) : Nat) : Int) by omega, told_len (bs.length + 1 : Nat) HN.out]; omega
        go_wp2_with fail
        refine (all_told (((bs.length : Int) + 1) : Int) A4 bs bs.length c4 N _ rfl (by omega) hcc4 HR4.out (by omega) HQ.out).mono ?_
        rintro e w5 ⟨A5, c5, A6, c6, rfl, ho5, ho6, hb5⟩
        have hW5 := below_then hW4 hb5
        have HO5 := Lib.hid ho5
        have HO6 := Lib.hid ho6
        clear ho5 ho6 HR4
        go_wp2
        have HO3r := Lib.hid (own_below HO3.out hW5)
        have HF3r := Lib.hid (HF3.out.below hW5)
        go_loopw [13] (fun i wi => ∃ t : Nat, i = .int .i64 (t : Int) ∧ t ≤ N ∧ Hid (Below w5.heap.size w5 wi)) (fun i _ => N - (intOf i).toNat)
        case atStart => exact ⟨0, rfl, by omega, Below.refl _ _⟩
        case round =>
          obtain ⟨t, rfl, ht, HI⟩ := hrel
          by_cases hin2 : t < N
          · have q3 : (t : Int) < (N : Int) := by omega
            have q4 : (t : Int) < (N : Int) := by omega
            obtain ⟨f, hf1, hf2⟩ := told_at (bs := bs) (most := (((bs.length : Int) + 1) : Int)) (i := t) (by rw [HQ.out]; exact hin2)
            obtain ⟨Af, cf, x1', x2', x3', x4'⟩ := (HF3r.out.below HI.out).2 t f hf1
            obtain ⟨a, B, e'⟩ := f
            obtain ⟨m, hm⟩ : ∃ m, B.length = m := ⟨_, rfl⟩
            dsimp only at x1' x2' x3' x4'
            rw [hm] at x2' x4'
            obtain ⟨g, hg, hcl⟩ := row_atN (own_below HO3r.out HI.out) (by omega)
            subst hg
            have y1 := hcl _ _ x1'
            have y2 := hcl _ _ x2'
            rw [Nat.mul_comm 3 t] at y1 y2
            obtain ⟨ad5, hA5, hc5⟩ := row_at3 (own_below HO5.out HI.out) (u := .int .i64 (a : Int)) (q := t) (by simp [intsF, hf2])
            obtain ⟨ad6, hA6, hc6⟩ := row_at3 (own_below HO6.out HI.out) (u := .string (strOf B)) (q := t) (by simp [textsF, hf2])
            subst hA5 hA6
            have hs : ∀ nn : Nat, (convert 22 9 (.slice Af m cf)).run Try.prog (wr.drewN nn) = .ok (.string (strOf B)) (wr.drewN nn) := fun nn =>
              string_rule x4'.reads m cf hm (wr.drewN nn) (below_drewN (Below.refl _ _) nn)
            have hW6 := HI.out
            clear hf1 hf2 x1' x2' x3' x4' hcl hm
            go_wp2_with fail
            go_quiet (fail)
            go_wp2
            go_roundw
            case rel => exact ⟨t + 1, by go_num, by omega, below_drewN hW6 _⟩
            case measure => simp [intOf]; omega
          · have q3 : (N : Int) ≤ (t : Int) := by omega
            have hW7 := below_then hW5 HI.out
            go_wp2
            go_roundw
            case rel => exact ⟨(bs.length + 1 : Nat), j + 1, by go_num, by go_num, by omega, by omega, by omega, hW7⟩
            case measure => simp [intOf]; omega
      · have v1 : ((j : Int) == 1) = false := by rw [beq_eq_false_iff_ne]; omega
        clear hj1
        by_cases hNk : N < k
        · have q2 : (N : Int) < (k : Int) := by omega
          go_wp2_with fail
          refine (bytesOwn_any A bs c _ (by omega) (HR.out.below (below_then hb3' HW.out))).mono ?_
          rintro e w4 ⟨A4, c4, rfl, hown4, hb4⟩
          have hcc4 := own_cap hown4
          have HR4 := Lib.hid hown4.reads
          have hW4 := below_then HW.out hb4
          clear hown4
          have HQ : Hid ((toldOf bs (k : Int)).length = N) := by show _ = _; rw [show (k : Int) = ((k : Nat) : Int) by omega, told_len k HN.out]; omega
          go_wp2_with fail
          refine (all_told (k : Int) A4 bs bs.length c4 N _ rfl (by omega) hcc4 HR4.out (by omega) HQ.out).mono ?_
          rintro e w5 ⟨A5, c5, A6, c6, rfl, ho5, ho6, hb5⟩
          have hW5 := below_then hW4 hb5
          have HO5 := Lib.hid ho5
          have HO6 := Lib.hid ho6
          clear ho5 ho6 HR4
          go_wp2
          have HO3r := Lib.hid (own_below HO3.out hW5)
          have HF3r := Lib.hid (HF3.out.below hW5)
          go_loopw [13] (fun i wi => ∃ t : Nat, i = .int .i64 (t : Int) ∧ t ≤ N ∧ Hid (Below w5.heap.size w5 wi)) (fun i _ => N - (intOf i).toNat)
          case atStart => exact ⟨0, rfl, by omega, Below.refl _ _⟩
          case round =>
            obtain ⟨t, rfl, ht, HI⟩ := hrel
            by_cases hin2 : t < N
            · have q3 : (t : Int) < (N : Int) := by omega
              have q4 : (t : Int) < (N : Int) := by omega
              obtain ⟨f, hf1, hf2⟩ := told_at (bs := bs) (most := (k : Int)) (i := t) (by rw [HQ.out]; exact hin2)
              obtain ⟨Af, cf, x1', x2', x3', x4'⟩ := (HF3r.out.below HI.out).2 t f hf1
              obtain ⟨a, B, e'⟩ := f
              obtain ⟨m, hm⟩ : ∃ m, B.length = m := ⟨_, rfl⟩
              dsimp only at x1' x2' x3' x4'
              rw [hm] at x2' x4'
              obtain ⟨g, hg, hcl⟩ := row_atN (own_below HO3r.out HI.out) (by omega)
              subst hg
              have y1 := hcl _ _ x1'
              have y2 := hcl _ _ x2'
              rw [Nat.mul_comm 3 t] at y1 y2
              obtain ⟨ad5, hA5, hc5⟩ := row_at3 (own_below HO5.out HI.out) (u := .int .i64 (a : Int)) (q := t) (by simp [intsF, hf2])
              obtain ⟨ad6, hA6, hc6⟩ := row_at3 (own_below HO6.out HI.out) (u := .string (strOf B)) (q := t) (by simp [textsF, hf2])
              subst hA5 hA6
              have hs : ∀ nn : Nat, (convert 22 9 (.slice Af m cf)).run Try.prog (wr.drewN nn) = .ok (.string (strOf B)) (wr.drewN nn) := fun nn =>
                string_rule x4'.reads m cf hm (wr.drewN nn) (below_drewN (Below.refl _ _) nn)
              have hW6 := HI.out
              clear hf1 hf2 x1' x2' x3' x4' hcl hm
              go_wp2_with fail
              go_quiet (fail)
              go_wp2
              go_roundw
              case rel => exact ⟨t + 1, by go_num, by omega, below_drewN hW6 _⟩
              case measure => simp [intOf]; omega
            · have q3 : (N : Int) ≤ (t : Int) := by omega
              have hW7 := below_then hW5 HI.out
              go_wp2
              go_roundw
              case rel => exact ⟨k, j + 1, by go_num, by go_num, by omega, by omega, by omega, hW7⟩
              case measure => simp [intOf]; omega
        · have q2 : (k : Int) ≤ (N : Int) := by omega
          go_wp2_with fail
          refine (bytesOwn_any A bs c _ (by omega) (HR.out.below (below_then hb3' HW.out))).mono ?_
          rintro e w4 ⟨A4, c4, rfl, hown4, hb4⟩
          have hcc4 := own_cap hown4
          have HR4 := Lib.hid hown4.reads
          have hW4 := below_then HW.out hb4
          clear hown4
          have HQ : Hid ((toldOf bs (k : Int)).length = k) := by show _ = _; rw [show (k : Int) = ((k : Nat) : Int) by omega, told_len k HN.out]; omega
          go_wp2_with fail
          refine (all_told (k : Int) A4 bs bs.length c4 k _ rfl (by omega) hcc4 HR4.out (by omega) HQ.out).mono ?_
          rintro e w5 ⟨A5, c5, A6, c6, rfl, ho5, ho6, hb5⟩
          have hW5 := below_then hW4 hb5
          have HO5 := Lib.hid ho5
          have HO6 := Lib.hid ho6
          clear ho5 ho6 HR4
          go_wp2
          have HO3r := Lib.hid (own_below HO3.out hW5)
          have HF3r := Lib.hid (HF3.out.below hW5)
          go_loopw [13] (fun i wi => ∃ t : Nat, i = .int .i64 (t : Int) ∧ t ≤ k ∧ Hid (Below w5.heap.size w5 wi)) (fun i _ => k - (intOf i).toNat)
          case atStart => exact ⟨0, rfl, by omega, Below.refl _ _⟩
          case round =>
            obtain ⟨t, rfl, ht, HI⟩ := hrel
            by_cases hin2 : t < k
            · have q3 : (t : Int) < (k : Int) := by omega
              have q4 : (t : Int) < (N : Int) := by omega
              obtain ⟨f, hf1, hf2⟩ := told_at (bs := bs) (most := (k : Int)) (i := t) (by rw [HQ.out]; exact hin2)
              obtain ⟨Af, cf, x1', x2', x3', x4'⟩ := (HF3r.out.below HI.out).2 t f hf1
              obtain ⟨a, B, e'⟩ := f
              obtain ⟨m, hm⟩ : ∃ m, B.length = m := ⟨_, rfl⟩
              dsimp only at x1' x2' x3' x4'
              rw [hm] at x2' x4'
              obtain ⟨g, hg, hcl⟩ := row_atN (own_below HO3r.out HI.out) (by omega)
              subst hg
              have y1 := hcl _ _ x1'
              have y2 := hcl _ _ x2'
              rw [Nat.mul_comm 3 t] at y1 y2
              obtain ⟨ad5, hA5, hc5⟩ := row_at3 (own_below HO5.out HI.out) (u := .int .i64 (a : Int)) (q := t) (by simp [intsF, hf2])
              obtain ⟨ad6, hA6, hc6⟩ := row_at3 (own_below HO6.out HI.out) (u := .string (strOf B)) (q := t) (by simp [textsF, hf2])
              subst hA5 hA6
              have hs : ∀ nn : Nat, (convert 22 9 (.slice Af m cf)).run Try.prog (wr.drewN nn) = .ok (.string (strOf B)) (wr.drewN nn) := fun nn =>
                string_rule x4'.reads m cf hm (wr.drewN nn) (below_drewN (Below.refl _ _) nn)
              have hW6 := HI.out
              clear hf1 hf2 x1' x2' x3' x4' hcl hm
              go_wp2_with fail
              go_quiet (fail)
              go_wp2
              go_roundw
              case rel => exact ⟨t + 1, by go_num, by omega, below_drewN hW6 _⟩
              case measure => simp [intOf]; omega
            · have q3 : (k : Int) ≤ (t : Int) := by omega
              have hW7 := below_then hW5 HI.out
              go_wp2
              go_roundw
              case rel => exact ⟨k, j + 1, by go_num, by go_num, by omega, by omega, by omega, hW7⟩
              case measure => simp [intOf]; omega
    · have q1 : (2 : Int) ≤ (j : Int) := by omega
      go_wp2_with fail
      refine (awake_any _).mono ?_
      rintro e w4 ⟨rfl, hb4⟩
      have hb4' := below_then (below_then hb3' HW.out) hb4
      go_wp2
      go_ret
      exact ⟨rfl, hb4'⟩
end Go.Proofs.Ytimmemkiilblcaa
