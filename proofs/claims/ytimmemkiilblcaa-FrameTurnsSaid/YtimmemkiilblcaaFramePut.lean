/- What frame.Put and the reference's compute: the walks. -/
import Derived.Test.YtimmemkiilblcaaFrameBase
import Derived.Deep.Cut
namespace Go.Proofs.Ytimmemkiilblcaa
set_option linter.unusedVariables false
set_option linter.unusedSimpArgs false
open Go.RowKit
/-- a sum's four bytes -/
def le4 (q : BitVec 32) : List UInt8 := [UInt8.ofNat (q.toNat % 256), UInt8.ofNat (q.toNat / 256 % 256), UInt8.ofNat (q.toNat / 65536 % 256), UInt8.ofNat (q.toNat / 16777216 % 256)]
theorem le4_length (q : BitVec 32) : (le4 q).length = 4 := rfl
/-- a body's frame -/
def frameEnc (body : List UInt8) : List UInt8 := enc body.length ++ le4 (Sum body) ++ body
theorem byte_of (n : Nat) (h : n < 256) : ((UInt8.ofNat n).toNat : Int) = (n : Int) := by
  rw [UInt8.toNat_ofNat']
  omega
theorem le4_bytes (q : BitVec 32) : ∃ b0 b1 b2 b3 : UInt8, le4 q = [b0, b1, b2, b3] ∧ u32i q % 256 = (b0.toNat : Int) ∧ u32i q / 256 % 256 = (b1.toNat : Int) ∧ u32i q / 65536 % 256 = (b2.toNat : Int) ∧ u32i q / 16777216 % 256 = (b3.toNat : Int) := by
  refine ⟨_, _, _, _, rfl, ?_, ?_, ?_, ?_⟩
  all_goals
    rw [byte_of _ (by omega)]
    unfold u32i
    omega
theorem u8s_four (b0 b1 b2 b3 : UInt8) : u8s [b0, b1, b2, b3] = [.int .u8 (b0.toNat : Int), .int .u8 (b1.toNat : Int), .int .u8 (b2.toNat : Int), .int .u8 (b3.toNat : Int)] := rfl
theorem ownB_of {w : World} {base n : Nat} {v : Value} {bs : List UInt8} (h : OwnB w base v bs) (hn : bs.length = n) : w.ownsRow base 5 1 v n (u8s bs) := by subst hn; exact h
theorem ownB_mk {w : World} {base n : Nat} {v : Value} {a b bs : List UInt8} (h : w.ownsRow base 5 1 v n (u8s a ++ u8s b)) (hn : bs.length = n) (he : a ++ b = bs) : OwnB w base v bs := by
  subst hn he
  unfold OwnB
  rw [u8s_append]
  exact h
set_option maxRecDepth 100000 in
set_option maxHeartbeats 800000 in
theorem fput_any (A : Option Addr) (bs : List UInt8) (c : Nat) (A2 : Option Addr) (body : List UInt8) (c2 : Nat) (x : Nat) (w : World) (hx : (bs ++ frameEnc body).length = x) (hl : bs.length ≤ 140737487300000) (hc : bs.length ≤ c) (hr : ReadsB w A bs) (h1 : 1 ≤ body.length) (h2 : body.length ≤ 1048576) (hr2 : ReadsB w A2 body) :
    Calls Try.prog 10 #[.slice A bs.length c, .slice A2 body.length c2] w fun e w' => ∃ A' c', e = .returned (.tuple #[.slice A' x c', .int .i64 0]) ∧ OwnB w' w.heap.size (.slice A' x c') (bs ++ frameEnc body) ∧ Below w.heap.size w w' := by
  have HR := Lib.hid hr
  have HR2 := Lib.hid hr2
  obtain ⟨b0, b1, b2, b3, hle, e0, e1, e2, e3⟩ := le4_bytes (Sum body)
  have HL := Lib.hid hle
  have i1 : (1 : Int) ≤ (body.length : Int) := by omega
  have i2 : (body.length : Int) ≤ 1048576 := by omega
  have hen := enc_le10 (show body.length < 18446744073709551616 by omega)
  obtain ⟨q, hq⟩ : ∃ q, (enc body.length).length = q := ⟨_, rfl⟩
  obtain ⟨x0, hx0⟩ : ∃ x0, bs.length + q = x0 := ⟨_, rfl⟩
  have hx1 : x0 + 4 + body.length = x := by
    rw [← hx, ← hx0, ← hq]
    simp [frameEnc, le4_length]
    omega
  have HX := Lib.hid hx
  have HX0 : Hid ((bs ++ enc body.length).length = x0) := by
    show _ = _
    rw [List.length_append, hq, hx0]
  have HE : Hid (enc body.length ++ le4 (Sum body) ++ body = frameEnc body) := rfl
  rw [hq] at hen
  have HQ := Lib.hid hq
  have HXX := Lib.hid hx0
  have hx00 : x0 ≤ bs.length + 10 := by omega
  have HX1 := Lib.hid hx1
  clear hr hr2 hle hq hx0 hx hx1
  go_enter Try.func10, Try.ntmps10
  go_wp2_with fail
  refine (sumOf_m A2 body body.length c2 _ rfl (by omega) HR2.out).mono ?_
  rintro e w1 ⟨rfl, hb1⟩
  go_wp2_with fail
  refine (vput_n A bs bs.length c body.length x0 _ rfl (by omega) (by rw [HQ.out, HXX.out]) (by omega) hc (HR.out.below hb1)).mono ?_
  rintro e w2 ⟨Av, cv, rfl, hown, hb2⟩
  have hb3 := below_then hb1 hb2
  have HO := Lib.hid (ownB_of (hown.mono hb1.size) HX0.out)
  clear hown
  go_upto_region 5 with (at_builtin; refine wpList_append_any _ rfl _ _ 22 rfl w.heap.size 5 _ 1 Try.underlying22 binfo rfl (by omega) (.slice Av x0 cv) x0 (u8s (bs ++ enc body.length)) rfl (HO.out.alloc _) (some ⟨w2.heap.size, 0, none⟩) 4 4 (u8s [b0, b1, b2, b3]) rfl rfl (Reads.lit _ _ _ _ _ rfl) (u8s_one _) (by omega) (by have := hb3.size; simp; omega) ?_; intro v3 w3 hown3 hg3 hat3)
  have ho4 := ownB_mk hown3 (bs := bs ++ enc body.length ++ le4 (Sum body)) (by rw [List.length_append, HX0.out]; rfl) (by rw [HL.out])
  have hbg : Below w.heap.size w w3 := (hb3.alloc hb3.size _).grown hg3 (by have := hb3.size; simp; omega) (fun k hk => own_base HO.out k hk)
  obtain ⟨A3, c3, hv⟩ := own_slice hown3
  subst hv
  have HO4 := Lib.hid (ownB_of ho4 (n := x0 + 4) (by rw [List.length_append, HX0.out]; rfl))
  clear hown3 hg3 hat3 ho4 HO
  go_wp2_with (at_builtin; refine wpList_append_any _ rfl _ _ 22 rfl w.heap.size 5 _ 1 Try.underlying22 binfo rfl (by omega) (.slice A3 (x0 + 4) c3) (x0 + 4) (u8s (bs ++ enc body.length ++ le4 (Sum body))) rfl HO4.out A2 body.length c2 (u8s body) rfl (u8s_length _) (HR2.out.below hbg) (u8s_one _) (by omega) hbg.size ?_; intro v5 w5 hown5 hg5 hat5)
  have ho6 := ownB_mk hown5 (bs := bs ++ frameEnc body) (by rw [HX.out, HX1.out]) (by rw [← HE.out]; simp)
  have hbg6 : Below w.heap.size w w5 := hbg.grown hg5 hbg.size (fun k hk => own_base HO4.out k hk)
  obtain ⟨A5, c5, hv⟩ := own_slice hown5
  subst hv
  rw [HX1.out] at ho6 ⊢
  go_ret2
  exact ⟨A5, c5, rfl, ho6, hbg6⟩
theorem fput_bad (v : Value) (A2 : Option Addr) (m c2 : Nat) (A : Option Addr) (n c : Nat) (w : World) (hv : v = .slice A n c) (h : m < 1 ∨ 1048576 < m) :
    Calls Try.prog 10 #[v, .slice A2 m c2] w fun e w' => e = .returned (.tuple #[v, .int .i64 1]) ∧ w = w' := by
  subst hv
  rcases h with h | h
  · have i1 : (m : Int) < 1 := by omega
    have HM := Lib.hid h
    clear h
    go_enter Try.func10, Try.ntmps10
    go_wp2
    go_ret2
    exact ⟨rfl, rfl⟩
  · have i1 : (1 : Int) ≤ (m : Int) := by omega
    have i2 : (1048576 : Int) < (m : Int) := by omega
    have HM := Lib.hid h
    clear h
    go_enter Try.func10, Try.ntmps10
    go_wp2
    go_ret2
    exact ⟨rfl, rfl⟩
set_option maxRecDepth 100000 in
set_option maxHeartbeats 800000 in
theorem rfput_any (A2 : Option Addr) (body : List UInt8) (c2 : Nat) (x : Nat) (w : World) (hx : (frameEnc body).length = x) (h2 : body.length ≤ 1048576) (hr2 : ReadsB w A2 body) :
    Calls Try.prog 13 #[.slice A2 body.length c2] w fun e w' => ∃ A' c', e = .returned (.slice A' x c') ∧ OwnB w' w.heap.size (.slice A' x c') (frameEnc body) ∧ Below w.heap.size w w' := by
  have HR2 := Lib.hid hr2
  obtain ⟨b0, b1, b2, b3, hle, e0, e1, e2, e3⟩ := le4_bytes (Sum body)
  have HL := Lib.hid hle
  have i2 : (body.length : Int) ≤ 1048576 := by omega
  have hen := enc_le10 (show body.length < 18446744073709551616 by omega)
  obtain ⟨q, hq⟩ : ∃ q, (enc body.length).length = q := ⟨_, rfl⟩
  have hx1 : q + 4 + body.length = x := by
    rw [← hx, ← hq]
    simp [frameEnc, le4_length]
    omega
  have HX := Lib.hid hx
  have HE : Hid (enc body.length ++ le4 (Sum body) ++ body = frameEnc body) := rfl
  rw [hq] at hen
  have HQ := Lib.hid hq
  have HX1 := Lib.hid hx1
  clear hr2 hle hq hx hx1
  go_enter Try.func13, Try.ntmps13
  go_wp2_with fail
  refine (refOf_m A2 body body.length c2 _ rfl (by omega) HR2.out).mono ?_
  rintro e w1 ⟨rfl, hb1⟩
  go_wp2_with fail
  refine (refPut_n body.length q _ (by omega) HQ.out).mono ?_
  rintro e w2 ⟨Av, cv, rfl, hown, hb2⟩
  have hb3 := below_then hb1 hb2
  have HO := Lib.hid (ownB_of (hown.mono hb1.size) HQ.out)
  clear hown
  go_upto_region 4 with (at_builtin; refine wpList_append_any _ rfl _ _ 22 rfl w.heap.size 5 _ 1 Try.underlying22 binfo rfl (by omega) (.slice Av q cv) q (u8s (enc body.length)) rfl (HO.out.alloc _) (some ⟨w2.heap.size, 0, none⟩) 4 4 (u8s [b0, b1, b2, b3]) rfl rfl (Reads.lit _ _ _ _ _ rfl) (u8s_one _) (by omega) (by have := hb3.size; simp; omega) ?_; intro v3 w3 hown3 hg3 hat3)
  have ho4 := ownB_mk hown3 (bs := enc body.length ++ le4 (Sum body)) (by rw [List.length_append, HQ.out]; rfl) (by rw [HL.out])
  have hbg : Below w.heap.size w w3 := (hb3.alloc hb3.size _).grown hg3 (by have := hb3.size; simp; omega) (fun k hk => own_base HO.out k hk)
  obtain ⟨A3, c3, hv⟩ := own_slice hown3
  subst hv
  have HO4 := Lib.hid (ownB_of ho4 (n := q + 4) (by rw [List.length_append, HQ.out]; rfl))
  clear hown3 hg3 hat3 ho4 HO
  go_wp2_with (at_builtin; refine wpList_append_any _ rfl _ _ 22 rfl w.heap.size 5 _ 1 Try.underlying22 binfo rfl (by omega) (.slice A3 (q + 4) c3) (q + 4) (u8s (enc body.length ++ le4 (Sum body))) rfl HO4.out A2 body.length c2 (u8s body) rfl (u8s_length _) (HR2.out.below hbg) (u8s_one _) (by omega) hbg.size ?_; intro v5 w5 hown5 hg5 hat5)
  have ho6 := ownB_mk hown5 (bs := frameEnc body) (by rw [HX.out, HX1.out]) (by rw [← HE.out])
  have hbg6 : Below w.heap.size w w5 := hbg.grown hg5 hbg.size (fun k hk => own_base HO4.out k hk)
  obtain ⟨A5, c5, hv⟩ := own_slice hown5
  subst hv
  rw [HX1.out] at ho6 ⊢
  go_ret
  exact ⟨A5, c5, rfl, ho6, hbg6⟩
end Go.Proofs.Ytimmemkiilblcaa
