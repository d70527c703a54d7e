/- What vint.PutText, vint.PutRise and vint.PutInt compute: the walks. -/
import Derived.Test.YtfgmgmnhelodaaaVintPut
import Derived.Test.YtfgmgmnhelodaaaRiseMath
import Derived.Test.YtfgmgmnhelodaaaNums
import Derived.Lib.AppendStr
namespace Go.Proofs.Ytfgmgmnhelodaaa
set_option linter.unusedVariables false
set_option linter.unusedSimpArgs false
open Go.RowKit
theorem strCells_u8s (s : ByteArray) : Lib.strCells s = u8s s.data.toList := by
  simp [Lib.strCells, u8s]
set_option maxRecDepth 100000 in
set_option maxHeartbeats 400000 in
theorem vputText_any (A : Option Addr) (bs : List UInt8) (c : Nat) (s : ByteArray) (w : World) (hl : bs.length + 10 + s.size ≤ 140737488355328) (hc : bs.length ≤ c) (hr : ReadsB w A bs) :
    Calls Try.prog 22 #[.slice A bs.length c, .string s] w fun e w' => ∃ A' c', e = .returned (.slice A' (bs.length + (encText s.data.toList).length) c') ∧ OwnB w' w.heap.size (.slice A' (bs.length + (encText s.data.toList).length) c') (bs ++ encText s.data.toList) ∧ Below w.heap.size w w' := by
  have HR := Lib.hid hr
  clear hr
  obtain ⟨i0, hi, hz0, hz1, hz2⟩ := info_parts binfo
  have hs : (s.size : Int) ≤ 140737488355328 := by omega
  go_enter Try.func22, Try.ntmps22
  go_wp2_with fail
  refine (vput_any A bs c s.size _ (by omega) (by omega) hc HR.out).mono ?_
  rintro e w1 ⟨A1, c1, rfl, hown1, hb1⟩
  have hlen := enc_le10 (v := s.size) (by omega)
  go_wp2_with (at_builtin; refine Lib.wpList_append_own_string _ rfl _ _ 23 9 rfl w.heap.size 5 i0 Try.underlying23 Try.underlying9 hi hz0 hz1 hz2 (.slice A1 (bs.length + (enc s.size).length) c1) (bs ++ enc s.size).length (u8s (bs ++ enc s.size)) rfl hown1 s rfl (by simp only [maxLen, List.length_append]; omega) (by simp only [List.length_append]; omega) hb1.size ?_; intro v2 w2 hown2 hg2 hnil)
  go_ret
  have hd : s.data.toList.length = s.size := by rw [Array.length_toList]; rfl
  have h2 : OwnB w2 w.heap.size v2 (bs ++ encText s.data.toList) := by
    unfold OwnB
    rw [strCells_u8s, ← u8s_append, List.append_assoc] at hown2
    unfold encText
    rw [hd]
    rw [List.length_append, List.length_append]
    rw [List.length_append, Nat.add_assoc] at hown2
    rw [hd]
    exact hown2
  obtain ⟨A', c', hv⟩ := h2.slice
  rw [List.length_append] at hv
  subst hv
  exact ⟨A', c', by simp, h2, hb1.grown hg2 hb1.size (by intro k hk; simp [Value.ownBlock] at hk; exact own_base hown1 k (by simpa [Value.ownBlock] using hk))⟩
theorem sub_u64 (v nx : Nat) (hv : v < 18446744073709551616) (hn : nx < 18446744073709551616) : IntKind.u64.wrap ((v : Int) - (nx : Int)) = (((v + 18446744073709551616 - nx) % 18446744073709551616 : Nat) : Int) := by
  rw [IntKind.wrap_u64]
  omega
theorem succ_u64 (v : Nat) (hv : v < 18446744073709551616) : IntKind.u64.wrap ((v : Int) + 1) = (((v + 1) % 18446744073709551616 : Nat) : Int) := by
  rw [IntKind.wrap_u64]
  omega
set_option maxRecDepth 100000 in
set_option maxHeartbeats 400000 in
theorem vputRise_any (A : Option Addr) (bs : List UInt8) (c : Nat) (A2 : Option Addr) (l : List Nat) (c2 : Nat) (w : World) (hl : bs.length + 20 + 10 * l.length ≤ 140737488355328) (hc : bs.length ≤ c) (hr : ReadsB w A bs) (hr2 : ReadsN w A2 l) (hlt : ∀ n ∈ l, n < 18446744073709551616) :
    Calls Try.prog 26 #[.slice A bs.length c, .slice A2 l.length c2] w fun e w' => ∃ A' c', e = .returned (.slice A' (bs.length + (encRise l).length) c') ∧ OwnB w' w.heap.size (.slice A' (bs.length + (encRise l).length) c') (bs ++ encRise l) ∧ Below w.heap.size w w' := by
  have HR := Lib.hid hr
  have HR2 := Lib.hid hr2
  have HL := Lib.hid hlt
  clear hr hr2 hlt
  have hs : (l.length : Int) ≤ 140737488355328 := by omega
  have HLE := Lib.hid (encRise_le l (by omega))
  go_enter Try.func26, Try.ntmps26
  go_wp2_with fail
  refine (vput_any A bs c l.length _ (by omega) (by omega) hc HR.out).mono ?_
  rintro e w1 ⟨A1, c1, rfl, hown1, hb1⟩
  go_wp2_with fail
  go_loopw [0, 5, 15] (fun b nx i wr => ∃ (k m : Nat) (pre : List UInt8), i = .int .i64 (k : Int) ∧ k ≤ l.length ∧ nx = .int .u64 (m : Int) ∧ Hid (m < 18446744073709551616) ∧ Hid (encRise l = pre ++ encAll (deltas m (l.drop k))) ∧ Hid (OwnB wr w.heap.size b (bs ++ pre)) ∧ Hid (Below w.heap.size w wr)) (fun _ _ i _ => l.length - (intOf i).toNat)
  case atStart => exact ⟨0, 0, enc l.length, rfl, Nat.zero_le _, rfl, (show 0 < 18446744073709551616 by decide), rfl, hown1, hb1⟩
  case round =>
    obtain ⟨k, m, pre, rfl, hk, rfl, HM, HE, HO, HW⟩ := hrel
    have hpre : pre.length ≤ 10 + 10 * l.length := by
      have h1 := congrArg List.length HE.out
      have h2 := HLE.out
      rw [List.length_append] at h1
      omega
    by_cases hkl : k < l.length
    · obtain ⟨ad, hA, hcell⟩ := (HR2.out.below HW.out).at hkl
      subst hA
      have HD : Hid (l.drop k = l.getD k 0 :: l.drop (k + 1)) := by
        show l.drop k = _
        rw [List.drop_eq_getElem_cons hkl]
        simp [List.getElem?_eq_getElem hkl]
      have HX : Hid (l.getD k 0 < 18446744073709551616) := by
        refine HL.out _ ?_
        rw [show l.getD k 0 = l[k] by simp [List.getElem?_eq_getElem hkl]]
        exact List.getElem_mem hkl
      obtain ⟨x, hx⟩ : ∃ x, l.getD k 0 = x := ⟨_, rfl⟩
      rw [hx] at hcell HD HX
      clear hx
      have i1 : (k : Int) < (l.length : Int) := by omega
      have HS : Hid (IntKind.u64.wrap ((x : Int) - (m : Int)) = (((x + 18446744073709551616 - m) % 18446744073709551616 : Nat) : Int)) := sub_u64 x m HX.out HM.out
      obtain ⟨d, hd⟩ : ∃ d, (x + 18446744073709551616 - m) % 18446744073709551616 = d := ⟨_, rfl⟩
      have hdl : d < 18446744073709551616 := by rw [← hd]; exact Nat.mod_lt _ (by decide)
      have HDD := Lib.hid hd
      clear hd
      go_wp2_with fail
      rw [HS.out, HDD.out]
      refine (put_any u0 (bs ++ pre) d w.heap.size _ hdl (by rw [List.length_append]; omega) HW.out.size HO.out.full).mono ?_
      rintro e w2 ⟨v2, rfl, hown2, hb2⟩
      go_wp2
      go_roundw
      case rel =>
        refine ⟨k + 1, (x + 1) % 18446744073709551616, pre ++ enc d, by go_num, by omega, vint (succ_u64 x HX.out), Nat.mod_lt _ (by decide), ?_, ?_, HW.out.trans hb2⟩
        · show encRise l = _
          rw [HE.out, HD.out, deltas, HDD.out, encAll]
          simp
        · show OwnB _ _ _ _
          rw [← List.append_assoc]
          exact hown2
      case measure => simp [intOf]; omega
    · have HF : Hid (encRise l = pre) := by
        show encRise l = pre
        rw [HE.out, List.drop_eq_nil_of_le (by omega), deltas, encAll, List.append_nil]
      go_wp2
      go_ret
      have h2 : OwnB wr w.heap.size u0 (bs ++ encRise l) := by rw [HF.out]; exact HO.out
      obtain ⟨A', c', hv⟩ := h2.slice
      rw [List.length_append] at hv
      subst hv
      exact ⟨A', c', by simp, h2, HW.out⟩
theorem not_u64 (a : Nat) (ha : a < 18446744073709551616) : bits .xor .u64 (a : Int) 18446744073709551615 = ((18446744073709551615 - a : Nat) : Int) := by
  show IntKind.u64.wrap ((BitVec.ofInt 64 (a : Int) ^^^ BitVec.ofInt 64 18446744073709551615).toNat : Int) = _
  have h1 : BitVec.ofInt 64 18446744073709551615 = BitVec.allOnes 64 := by decide
  have h2 : a % 2 ^ 64 = a := Nat.mod_eq_of_lt (by omega)
  rw [h1, BitVec.xor_allOnes, BitVec.toNat_not, BitVec.ofInt_natCast, BitVec.toNat_ofNat, h2, IntKind.wrap_u64]
  omega
theorem xor_zero_u64 (a : Nat) (ha : a < 18446744073709551616) : bits .xor .u64 (a : Int) 0 = (a : Int) := by
  have := bits_xor_u64_nat a 0 ha (by decide)
  simpa using this
theorem zig_walk (v : Int) (h0 : -9223372036854775808 ≤ v) (h1 : v ≤ 9223372036854775807) :
    bits .xor .u64 (IntKind.u64.wrap (IntKind.u64.wrap v * 2)) (IntKind.u64.wrap (v / 9223372036854775808)) = ((zig v : Nat) : Int) := by
  by_cases hv : v < 0
  · have e1 : IntKind.u64.wrap (v / 9223372036854775808) = 18446744073709551615 := by rw [IntKind.wrap_u64]; omega
    have e2 : IntKind.u64.wrap (IntKind.u64.wrap v * 2) = (((18446744073709551616 + 2 * v).toNat : Nat) : Int) := by rw [IntKind.wrap_u64, IntKind.wrap_u64]; omega
    rw [e1, e2, not_u64 _ (by omega)]
    unfold zig
    rw [if_pos hv]
    omega
  · have e1 : IntKind.u64.wrap (v / 9223372036854775808) = 0 := by rw [IntKind.wrap_u64]; omega
    have e2 : IntKind.u64.wrap (IntKind.u64.wrap v * 2) = (((2 * v).toNat : Nat) : Int) := by rw [IntKind.wrap_u64, IntKind.wrap_u64]; omega
    rw [e1, e2, xor_zero_u64 _ (by omega)]
    unfold zig
    rw [if_neg hv]
set_option maxRecDepth 100000 in
set_option maxHeartbeats 400000 in
theorem vputInt_any (A : Option Addr) (bs : List UInt8) (c : Nat) (v : Int) (w : World) (h0 : -9223372036854775808 ≤ v) (h1 : v ≤ 9223372036854775807) (hl : bs.length + 10 ≤ 140737488355328) (hc : bs.length ≤ c) (hr : ReadsB w A bs) :
    Calls Try.prog 18 #[.slice A bs.length c, .int .i64 v] w fun e w' => ∃ A' c', e = .returned (.slice A' (bs.length + (enc (zig v)).length) c') ∧ OwnB w' w.heap.size (.slice A' (bs.length + (enc (zig v)).length) c') (bs ++ enc (zig v)) ∧ Below w.heap.size w w' := by
  have HR := Lib.hid hr
  have HZ := Lib.hid (zig_lt v h0 h1)
  clear hr
  go_enter Try.func18, Try.ntmps18
  go_wp2_with fail
  rw [zig_walk v h0 h1]
  refine (vput_any A bs c (zig v) _ HZ.out hl hc HR.out).mono ?_
  rintro e w1 ⟨A1, c1, rfl, hown1, hb1⟩
  go_wp2
  go_ret
  exact ⟨A1, c1, by simp, hown1, hb1⟩
end Go.Proofs.Ytfgmgmnhelodaaa
