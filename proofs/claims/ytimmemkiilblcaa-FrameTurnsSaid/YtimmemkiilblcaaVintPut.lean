/- What vint.put, vint.Put and the reference's Put compute: the walks. -/
import Derived.Test.YtimmemkiilblcaaOwn
import Derived.Test.YtimmemkiilblcaaVintMath
namespace Go.Proofs.Ytimmemkiilblcaa
set_option linter.unusedVariables false
set_option linter.unusedSimpArgs false
open Go.RowKit
theorem or128 : ∀ x : Nat, x < 256 → x ||| 128 = x % 128 + 128 := by decide +kernel
theorem bits_or_u8 (a b : Nat) (ha : a < 256) (hb : b < 256) : bits .or .u8 (a : Int) (b : Int) = ((a ||| b : Nat) : Int) := by
  have hz : a ||| b < 2 ^ 8 := Nat.or_lt_two_pow ha hb
  show IntKind.u8.wrap ((BitVec.ofInt 8 (a : Int) ||| BitVec.ofInt 8 (b : Int)).toNat : Int) = _
  rw [BitVec.toNat_or, BitVec.ofInt_natCast, BitVec.ofInt_natCast, BitVec.toNat_ofNat, BitVec.toNat_ofNat, Nat.mod_eq_of_lt ha, Nat.mod_eq_of_lt hb, IntKind.wrap_u8]
  omega
theorem cont_byte (n : Nat) : bits .or .u8 ((n : Int) % 256) 128 = ((UInt8.ofNat (n % 128 + 128)).toNat : Int) := by
  have e : ((n : Int) % 256) = ((n % 256 : Nat) : Int) := by omega
  rw [e, show (128 : Int) = ((128 : Nat) : Int) by rfl, bits_or_u8 _ _ (by omega) (by omega), or128 _ (by omega), UInt8.toNat_ofNat']
  omega
theorem last_byte (n : Nat) (h : n < 128) : (n : Int) = ((UInt8.ofNat n).toNat : Int) := by
  rw [UInt8.toNat_ofNat']
  omega
set_option maxRecDepth 100000 in
set_option maxHeartbeats 400000 in
theorem put_any (v : Value) (bs : List UInt8) (n : Nat) (base : Nat) (w : World) (hn : n < 18446744073709551616) (hl : bs.length + 10 ≤ 140737488355328) (hb : base ≤ w.heap.size) (hf : Full w base 5 v (u8s bs)) :
    Calls Try.prog 30 #[v, .int .u64 (n : Int)] w fun e w' => ∃ v', e = .returned v' ∧ OwnB w' base v' (bs ++ enc n) ∧ Below base w w' := by
  have HF := Lib.hid hf
  have HN := Lib.hid (enc_le10 hn)
  clear hf
  have hn' : (n : Int) ≤ 18446744073709551615 := by omega
  clear hn
  go_enter Try.func30, Try.ntmps30
  go_wp2
  go_loopw [0, 1] (fun b x wr => ∃ (m : Nat) (pre : List UInt8), x = .int .u64 (m : Int) ∧ m ≤ n ∧ Hid (enc n = pre ++ enc m) ∧ Hid (Full wr base 5 b (u8s (bs ++ pre))) ∧ Hid (Below base w wr)) (fun _ x _ => (intOf x).toNat)
  case atStart => exact ⟨n, [], rfl, Nat.le_refl _, rfl, by rw [List.append_nil]; exact HF.out, Below.refl _ _⟩
  case round =>
    obtain ⟨m, pre, rfl, hm, HE, HB, HW⟩ := hrel
    have hpre : pre.length + 1 ≤ 10 := by
      have h1 := congrArg List.length HE.out
      have h2 := enc_pos m
      have h3 := HN.out
      rw [List.length_append] at h1
      omega
    have hlen : (u8s (bs ++ pre)).length + 1 ≤ 140737488355328 := by rw [u8s_length, List.length_append]; omega
    have hbase : base ≤ wr.heap.size := Nat.le_trans hb HW.out.size
    by_cases hlt : m < 128
    · have i1 : (m : Int) < 128 := by omega
      go_wp2_with (at_builtin; refine wpList_append_full base rfl _ _ 22 5 _ 1 rfl Try.underlying22 binfo rfl (by omega) u0 (u8s (bs ++ pre)) _ rfl rfl rfl HB.out hbase (by omega) ?_; intro v1 w1 hown hbl hg)
      go_ret
      refine ⟨v1, by simp, ?_, HW.out.trans hbl⟩
      rw [last_byte m hlt, u8s_snoc] at hown
      rw [HE.out, enc_small hlt, ← List.append_assoc]
      unfold OwnB
      rwa [u8s_length] at hown
    · have i1 : (128 : Int) ≤ (m : Int) := by omega
      go_wp2_with (at_builtin; refine wpList_append_full base rfl _ _ 22 5 _ 1 rfl Try.underlying22 binfo rfl (by omega) u0 (u8s (bs ++ pre)) _ rfl rfl rfl HB.out hbase (by omega) ?_; intro v1 w1 hown hbl hg)
      go_roundw
      case rel =>
        rw [cont_byte m, u8s_snoc, u8s_length] at hown
        refine ⟨m / 128, pre ++ [UInt8.ofNat (m % 128 + 128)], ?_, by omega, ?_, ?_, HW.out.trans hbl⟩
        · exact vint (by simp)
        · show enc n = _
          rw [HE.out, enc_large hlt]
          simp
        · rw [← List.append_assoc]
          exact OwnB.full hown
      case measure => simp [intOf]; omega
set_option maxRecDepth 100000 in
set_option maxHeartbeats 400000 in
theorem vown_any (A : Option Addr) (n c : Nat) (w : World) (hc : n ≤ c) :
    Calls Try.prog 31 #[.slice A n c] w fun e w' => e = .returned (.slice A n n) ∧ w = w' := by
  have h0 : (n : Int) ≤ (c : Int) := by omega
  go_enter Try.func31, Try.ntmps31
  go_wp2
  go_ret
  exact ⟨rfl, rfl⟩
/-- vint.Put: the number's bytes behind b's, in new memory -/
theorem vput_any (A : Option Addr) (bs : List UInt8) (c : Nat) (n : Nat) (w : World) (hn : n < 18446744073709551616) (hl : bs.length + 10 ≤ 140737488355328) (hc : bs.length ≤ c) (hr : ReadsB w A bs) :
    Calls Try.prog 22 #[.slice A bs.length c, .int .u64 (n : Int)] w fun e w' => ∃ A' c', e = .returned (.slice A' (bs.length + (enc n).length) c') ∧ OwnB w' w.heap.size (.slice A' (bs.length + (enc n).length) c') (bs ++ enc n) ∧ Below w.heap.size w w' := by
  have HR := Lib.hid hr
  clear hr
  go_enter Try.func22, Try.ntmps22
  go_wp2_with fail
  refine (vown_any A bs.length c _ hc).mono ?_
  rintro e w1 ⟨rfl, rfl⟩
  go_wp2_with fail
  refine (put_any _ bs n w.heap.size _ hn hl (Nat.le_refl _) (.inl ⟨A, by rw [u8s_length], HR.out⟩)).mono ?_
  rintro e w2 ⟨v, rfl, hown, hb⟩
  obtain ⟨A', c', hv⟩ := hown.slice
  rw [List.length_append] at hv
  subst hv
  go_wp2
  go_ret
  exact ⟨A', c', by simp, hown, hb⟩
theorem rem_byte (m : Nat) : ((m : Int) % 128 + 128) = ((UInt8.ofNat (m % 128 + 128)).toNat : Int) := by
  rw [UInt8.toNat_ofNat']
  omega
set_option maxRecDepth 100000 in
set_option maxHeartbeats 400000 in
theorem refPut_any (n : Nat) (w : World) (hn : n < 18446744073709551616) :
    Calls Try.prog 24 #[.int .u64 (n : Int)] w fun e w' => ∃ A' c', e = .returned (.slice A' (enc n).length c') ∧ OwnB w' w.heap.size (.slice A' (enc n).length c') (enc n) ∧ Below w.heap.size w w' := by
  have HN := Lib.hid (enc_le10 hn)
  have hn' : (n : Int) ≤ 18446744073709551615 := by omega
  clear hn
  go_enter Try.func24, Try.ntmps24
  go_wp2
  go_loopw [0, 3] (fun x b wr => ∃ (m : Nat) (pre : List UInt8), x = .int .u64 (m : Int) ∧ m ≤ n ∧ Hid (enc n = pre ++ enc m) ∧ Hid (OwnB wr w.heap.size b pre) ∧ Hid (Below w.heap.size w wr)) (fun x _ _ => (intOf x).toNat)
  case atStart => exact ⟨n, [], rfl, Nat.le_refl _, rfl, OwnB.nil _ _, Below.refl _ _⟩
  case round =>
    obtain ⟨m, pre, rfl, hm, HE, HB, HW⟩ := hrel
    have hpre : pre.length + 1 ≤ 10 := by
      have h1 := congrArg List.length HE.out
      have h2 := enc_pos m
      have h3 := HN.out
      rw [List.length_append] at h1
      omega
    have hlen : (u8s pre).length + 1 ≤ 140737488355328 := by rw [u8s_length]; omega
    have hbase : w.heap.size ≤ wr.heap.size := HW.out.size
    by_cases hlt : m < 128
    · have i1 : (m : Int) < 128 := by omega
      go_wp2_with (at_builtin; refine wpList_append_full w.heap.size rfl _ _ 22 5 _ 1 rfl Try.underlying22 binfo rfl (by omega) u3 (u8s pre) _ rfl rfl rfl HB.out.full hbase (by omega) ?_; intro v1 w1 hown hbl hg)
      go_ret
      rw [last_byte m hlt, u8s_snoc, u8s_length] at hown
      have h2 : OwnB w1 w.heap.size v1 (enc n) := by
        rw [HE.out, enc_small hlt]
        exact hown
      obtain ⟨A', c', hv⟩ := h2.slice
      subst hv
      exact ⟨A', c', by simp, h2, HW.out.trans hbl⟩
    · have i1 : (128 : Int) ≤ (m : Int) := by omega
      go_wp2_with (at_builtin; refine wpList_append_full w.heap.size rfl _ _ 22 5 _ 1 rfl Try.underlying22 binfo rfl (by omega) u3 (u8s pre) _ rfl rfl rfl HB.out.full hbase (by omega) ?_; intro v1 w1 hown hbl hg)
      go_roundw
      case rel =>
        rw [rem_byte m, u8s_snoc, u8s_length] at hown
        refine ⟨m / 128, pre ++ [UInt8.ofNat (m % 128 + 128)], ?_, by omega, ?_, hown, HW.out.trans hbl⟩
        · exact vint (by simp)
        · show enc n = _
          rw [HE.out, enc_large hlt]
          simp
      case measure => simp [intOf]; omega
end Go.Proofs.Ytimmemkiilblcaa
