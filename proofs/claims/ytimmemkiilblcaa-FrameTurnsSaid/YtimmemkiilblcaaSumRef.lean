/- What sum.Of, the reference and the statements' small helpers compute: the walks. -/
import Derived.Test.YtimmemkiilblcaaSumWalk
namespace Go.Proofs.Ytimmemkiilblcaa
set_option linter.unusedVariables false
set_option linter.unusedSimpArgs false
open Go.RowKit
set_option maxHeartbeats 400000 in
theorem sumOf_any (A : Option Addr) (bs : List UInt8) (c : Nat) (w : World) (hl : bs.length ≤ 9223372036854775807) (hr : ReadsB w A bs) :
    Calls Try.prog 21 #[.slice A bs.length c] w fun e w' => e = .returned (.int .u32 (u32i (Sum bs))) ∧ Below w.heap.size w w' := by
  have HR := Lib.hid hr
  clear hr
  go_enter Try.func21, Try.ntmps21
  go_wp2_with (go_at_call 29; refine (more_any 0#32 A bs c _ hl HR.out).mono ?_; rintro e w' ⟨rfl, hb⟩)
  go_ret
  exact ⟨rfl, hb⟩
theorem refBits_u32 (q : BitVec 32) (x : UInt8) (k : Nat) (hk : k < 8) :
    ((u32i q).tmod 2 != ((x.toNat : Int) / 2 ^ k).tmod 2 % 4294967296) = (q.getLsbD 0 != (BitVec.ofNat 32 x.toNat).getLsbD k) := by
  have h1 : (u32i q).tmod 2 = ((q.toNat % 2 : Nat) : Int) := by
    unfold u32i
    rw [Int.tmod_eq_emod_of_nonneg (by omega)]
    omega
  have h2 : ((x.toNat : Int) / 2 ^ k).tmod 2 % 4294967296 = ((x.toNat / 2 ^ k % 2 : Nat) : Int) := by
    have e : ((x.toNat : Int) / 2 ^ k) = ((x.toNat / 2 ^ k : Nat) : Int) := by simp
    rw [e, Int.tmod_eq_emod_of_nonneg (Int.natCast_nonneg _)]
    omega
  rw [h1, h2]
  have b1 : q.getLsbD 0 = decide (q.toNat % 2 = 1) := by rw [BitVec.getLsbD, Nat.testBit_zero]
  have b2 : (BitVec.ofNat 32 x.toNat).getLsbD k = decide (x.toNat / 2 ^ k % 2 = 1) := by
    rw [BitVec.getLsbD_ofNat, Nat.testBit_eq_decide_div_mod_eq]
    simp
    omega
  rw [b1, b2]
  generalize x.toNat / 2 ^ k = y
  rcases Nat.mod_two_eq_zero_or_one q.toNat with h | h <;> rcases Nat.mod_two_eq_zero_or_one y with h' | h' <;> rw [h, h'] <;> rfl
theorem shr1_u32 (q : BitVec 32) : u32i q / (2 : Int) = u32i (q >>> 1) := by
  simp [u32i, Nat.shiftRight_eq_div_pow]
theorem bit_yes (q : BitVec 32) (b : Bool) (h : (q.getLsbD 0 != b) = true) : bits .xor .u32 (u32i q / (2 : Int)) 2197175160 = u32i (bitStep q b) := by
  rw [shr1_u32, show (2197175160 : Int) = u32i 0x82f63b78#32 by decide, xor_u32, bitStep, h]
  rfl
theorem bit_no (q : BitVec 32) (b : Bool) (h : (q.getLsbD 0 != b) = false) : u32i q / (2 : Int) = u32i (bitStep q b) := by
  rw [shr1_u32, bitStep, h]
  simp
set_option maxHeartbeats 400000 in
theorem refMore_any (s : BitVec 32) (A : Option Addr) (bs : List UInt8) (c : Nat) (w : World) (hl : bs.length ≤ 9223372036854775807) (hr : ReadsB w A bs) :
    Calls Try.prog 32 #[.int .u32 (u32i s), .slice A bs.length c] w fun e w' => e = .returned (.int .u32 (u32i (More s bs))) ∧ Below w.heap.size w w' := by
  have HR := Lib.hid hr
  clear hr
  go_enter Try.func32, Try.ntmps32
  go_wp2
  go_loop [5, 6] (fun r i => ∃ k : Nat, k ≤ bs.length ∧ i = .int .i64 k ∧ r = .int .u32 (u32i (run (~~~ s) (bs.take k)))) (fun _ i => bs.length - (intOf i).toNat)
  case atStart => exact ⟨0, Nat.zero_le _, rfl, vint (not_u32' s)⟩
  case round =>
    obtain ⟨k, hk, rfl, rfl⟩ := hrel
    by_cases hlt : k < bs.length
    · obtain ⟨ad, hA, hc⟩ := HR.out.at hlt
      subst hA
      have HX : Hid (run (~~~ s) (bs.take (k + 1)) = byteStep (run (~~~ s) (bs.take k)) (bs.getD k 0)) := run_take _ _ _ hlt
      generalize bs.getD k 0 = x at hc HX
      obtain ⟨r0, hr0⟩ : ∃ r0, run (~~~ s) (bs.take k) = r0 := ⟨_, rfl⟩
      rw [hr0] at HX ⊢
      clear hr0
      go_wp2
      go_loop [5, 7] (fun r i => ∃ j : Nat, j ≤ 8 ∧ i = .int .i64 j ∧ r = .int .u32 (u32i (bitsN r0 (BitVec.ofNat 32 x.toNat) j))) (fun _ i => 8 - (intOf i).toNat)
      case atStart => exact ⟨0, Nat.zero_le _, rfl, rfl⟩
      case round =>
        obtain ⟨j, hj, rfl, rfl⟩ := hrel
        generalize hq : bitsN r0 (BitVec.ofNat 32 x.toNat) j = q
        have HQ := Lib.hid hq
        clear hq
        by_cases hlt2 : j < 8
        · go_wp2
          all_goals
            go_round
            case rel =>
              rename_i _ ht
              rw [refBits_u32 q x j hlt2] at ht
              exact ⟨j + 1, by omega, by go_num, by rw [bitsN, HQ.out]; first | exact vint (bit_yes q _ ht) | exact vint (bit_no q _ ht)⟩
            case measure => simp [intOf]; omega
        · have hj2 : j = 8 := by omega
          have HQ2 : Hid (bitsN r0 (BitVec.ofNat 32 x.toNat) 8 = q) := hj2 ▸ HQ.out
          clear hj2
          go_wp2
          go_round
          case rel => exact ⟨k + 1, by omega, by go_num, by rw [HX.out, ← bits8, HQ2.out]⟩
          case measure => simp [intOf]; omega
    · go_wp2
      go_ret
      exact ⟨ret_int (by rw [not_u32', List.take_of_length_le (by omega)]; rfl), Below.refl _ _⟩
set_option maxHeartbeats 400000 in
theorem refOf_any (A : Option Addr) (bs : List UInt8) (c : Nat) (w : World) (hl : bs.length ≤ 9223372036854775807) (hr : ReadsB w A bs) :
    Calls Try.prog 23 #[.slice A bs.length c] w fun e w' => e = .returned (.int .u32 (u32i (Sum bs))) ∧ Below w.heap.size w w' := by
  have HR := Lib.hid hr
  clear hr
  go_enter Try.func23, Try.ntmps23
  go_wp2_with (go_at_call 32; refine (refMore_any 0#32 A bs c _ hl HR.out).mono ?_; rintro e w' ⟨rfl, hb⟩)
  go_ret
  exact ⟨rfl, hb⟩
theorem more_n (s : BitVec 32) (A : Option Addr) (bs : List UInt8) (n c : Nat) (w : World) (hn : bs.length = n) (hl : n ≤ 9223372036854775807) (hr : ReadsB w A bs) :
    Calls Try.prog 29 #[.int .u32 (u32i s), .slice A n c] w fun e w' => e = .returned (.int .u32 (u32i (More s bs))) ∧ Below w.heap.size w w' := by
  subst hn; exact more_any s A bs c w hl hr
theorem more_zero (A : Option Addr) (bs : List UInt8) (n c : Nat) (w : World) (hn : bs.length = n) (hl : n ≤ 9223372036854775807) (hr : ReadsB w A bs) :
    Calls Try.prog 29 #[.int .u32 0, .slice A n c] w fun e w' => e = .returned (.int .u32 (u32i (Sum bs))) ∧ Below w.heap.size w w' :=
  more_n 0#32 A bs n c w hn hl hr
theorem sumOf_n (A : Option Addr) (bs : List UInt8) (n c : Nat) (w : World) (hn : bs.length = n) (hl : n ≤ 9223372036854775807) (hr : ReadsB w A bs) :
    Calls Try.prog 21 #[.slice A n c] w fun e w' => e = .returned (.int .u32 (u32i (Sum bs))) ∧ Below w.heap.size w w' := by
  subst hn; exact sumOf_any A bs c w hl hr
theorem info8 : (Try.prog.info? 5).map (fun i => (i.zero, i.size, i.bytes)) = some (some (.int .u8 0), 1, 1) := by kernel_rfl
set_option maxHeartbeats 400000 in
theorem bytes_any (A : Option Addr) (bs : List UInt8) (c : Nat) (w : World) (hl : bs.length ≤ 140737488355328) (hr : ReadsB w A bs) :
    Calls Try.prog 11 #[.slice A bs.length c] w fun e w' => ∃ A' c', e = .returned (.slice A' bs.length c') ∧ w'.ownsRow w.heap.size 5 1 (.slice A' bs.length c') bs.length (u8s bs) ∧ Below w.heap.size w w' := by
  have HR := Lib.hid hr
  clear hr
  go_enter Try.func11, Try.ntmps11
  go_wp2_with (at_builtin; refine wpList_append_any _ rfl _ _ 22 rfl w.heap.size 5 _ 1 Try.underlying22 info8 rfl (by omega) (.slice none 0 0) 0 [] rfl (World.ownsRow_nil _ _ _ _) A bs.length c (u8s bs) rfl (u8s_length bs) HR.out (u8s_one bs) (by omega) (Nat.le_refl _) ?_; intro v1 w1 hown hg hat)
  go_ret
  obtain ⟨A', c', hv⟩ := own_slice hown
  subst hv
  simp only [Nat.zero_add, List.nil_append] at hown
  exact ⟨A', c', by simp, hown, (Below.refl _ _).grown hg (Nat.le_refl _) (by simp [Value.ownBlock])⟩
end Go.Proofs.Ytimmemkiilblcaa
