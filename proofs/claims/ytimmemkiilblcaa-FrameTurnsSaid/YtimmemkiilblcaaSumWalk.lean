/- What the functions of package sum, the reference's, and the statements' small helpers compute: the walks. -/
import Derived.Test.YtimmemkiilblcaaCommon
import Derived.Test.YtimmemkiilblcaaSumMath
namespace Go.Proofs.Ytimmemkiilblcaa
set_option linter.unusedVariables false
set_option linter.unusedSimpArgs false
open Go.RowKit
def u32i (r : BitVec 32) : Int := (r.toNat : Int)
theorem u32i_inj {a b : BitVec 32} : u32i a = u32i b ↔ a = b := by
  unfold u32i
  constructor
  · intro h; exact BitVec.eq_of_toNat_eq (by omega)
  · rintro rfl; rfl
theorem u32i_beq (a b : BitVec 32) : (u32i a == u32i b) = (a == b) := by
  rw [Bool.eq_iff_iff, beq_iff_eq, beq_iff_eq, u32i_inj]
theorem u32i_lo (a : BitVec 32) : 0 ≤ u32i a := by unfold u32i; omega
theorem u32i_hi (a : BitVec 32) : u32i a < 4294967296 := by unfold u32i; have := a.isLt; omega
theorem u32i_of (n : Int) (h : (Lit.int .u32 n).wf = true) : ∃ a : BitVec 32, n = u32i a := by
  simp [Lit.wf, IntKind.min, IntKind.max, IntKind.signed, IntKind.bits] at h
  refine ⟨BitVec.ofNat 32 n.toNat, ?_⟩
  unfold u32i
  simp only [BitVec.toNat_ofNat]
  omega
theorem u32i_wf (a : BitVec 32) : (Lit.int .u32 (u32i a)).wf = true := by
  have := u32i_lo a
  have := u32i_hi a
  simp [Lit.wf, IntKind.min, IntKind.max, IntKind.signed, IntKind.bits]
  omega
theorem ofInt_u32i (a : BitVec 32) : BitVec.ofInt 32 (u32i a) = a := by simp [u32i]
theorem wrap_u32i (a : BitVec 32) : IntKind.u32.wrap (a.toNat : Int) = u32i a := by
  have := a.isLt
  rw [IntKind.wrap_u32]; unfold u32i; omega
theorem xor_u32 (a b : BitVec 32) : bits .xor .u32 (u32i a) (u32i b) = u32i (a ^^^ b) := by
  show IntKind.u32.wrap ((BitVec.ofInt 32 (u32i a) ^^^ BitVec.ofInt 32 (u32i b)).toNat : Int) = _
  rw [ofInt_u32i, ofInt_u32i, wrap_u32i]
theorem and_u32 (a b : BitVec 32) : bits .and .u32 (u32i a) (u32i b) = u32i (a &&& b) := by
  show IntKind.u32.wrap ((BitVec.ofInt 32 (u32i a) &&& BitVec.ofInt 32 (u32i b)).toNat : Int) = _
  rw [ofInt_u32i, ofInt_u32i, wrap_u32i]
theorem not_u32 (a : BitVec 32) : bits .xor .u32 IntKind.u32.max (u32i a) = u32i (~~~ a) := by
  rw [show IntKind.u32.max = u32i (BitVec.allOnes 32) by decide, xor_u32, BitVec.allOnes_xor]
theorem not_u32' (a : BitVec 32) : bits .xor .u32 (u32i a) 4294967295 = u32i (~~~ a) := by
  rw [show (4294967295 : Int) = u32i (BitVec.allOnes 32) by decide, xor_u32, BitVec.xor_allOnes]
theorem xor_byte (a : BitVec 32) (x : UInt8) : bits .xor .u32 (u32i a) ((x.toNat : Int) % 4294967296) = u32i (a ^^^ BitVec.ofNat 32 x.toNat) := by
  have : ((x.toNat : Int) % 4294967296) = u32i (BitVec.ofNat 32 x.toNat) := by have := x.toNat_lt; simp [u32i]; omega
  rw [this, xor_u32]
theorem and15 (q : BitVec 32) : bits .and .u32 (u32i q) 15 = ((q &&& 15#32).toNat : Int) := by
  rw [show (15 : Int) = u32i 15#32 by decide, and_u32]; rfl
theorem shr4_u32 (q : BitVec 32) : u32i q / (16 : Int) = u32i (q >>> 4) := by
  simp [u32i, Nat.shiftRight_eq_div_pow]
theorem nib_u32 (q : BitVec 32) : bits .xor .u32 (u32i q / 16) (u32i (tab (q &&& 15#32).toNat)) = u32i (nib q) := by
  have h := shr4_u32 q
  rw [h, xor_u32]; rfl
theorem and_mask (q : BitVec 32) : (q &&& 15#32).toNat < 16 := by
  rw [BitVec.toNat_and]
  exact Nat.lt_of_le_of_lt Nat.and_le_right (by decide)
def tabArr : Array Value := #[.int .u32 0, .int .u32 274646895, .int .u32 549293790,
      .int .u32 820201905, .int .u32 1098587580, .int .u32 1361435347,
      .int .u32 1640403810, .int .u32 1905808397, .int .u32 2197175160,
      .int .u32 2460548119, .int .u32 2722870694, .int .u32 2987750089,
      .int .u32 3280807620, .int .u32 3553878443, .int .u32 3811616794,
      .int .u32 4084100981]
theorem tabArr_at : ∀ i, i < 16 → tabArr[i]? = some (.int .u32 (u32i (tab i))) := by
  intro i hi
  have : i = 0 ∨ i = 1 ∨ i = 2 ∨ i = 3 ∨ i = 4 ∨ i = 5 ∨ i = 6 ∨ i = 7 ∨ i = 8 ∨ i = 9 ∨ i = 10 ∨ i = 11 ∨ i = 12 ∨ i = 13 ∨ i = 14 ∨ i = 15 := by omega
  rcases this with h | h | h | h | h | h | h | h | h | h | h | h | h | h | h | h <;> subst h <;> rfl

/-! ### sum.More -/
set_option maxHeartbeats 400000 in
theorem more_any (s : BitVec 32) (A : Option Addr) (bs : List UInt8) (c : Nat) (w : World) (hl : bs.length ≤ 9223372036854775807) (hr : ReadsB w A bs) :
    Calls Try.prog 29 #[.int .u32 (u32i s), .slice A bs.length c] w fun e w' => e = .returned (.int .u32 (u32i (More s bs))) ∧ Below w.heap.size w w' := by
  have HR := Lib.hid hr
  clear hr
  go_enter Try.func29, Try.ntmps29
  go_wp2
  obtain ⟨W, hW⟩ : ∃ W, w.alloc (.cells tabArr 68) = W := ⟨_, rfl⟩
  have hb : Below w.heap.size w W := hW ▸ (Below.refl _ _).alloc (Nat.le_refl _) _
  have HR1 := Lib.hid (HR.out.below hb)
  clear HR
  have HT : Hid (∀ i, i < 16 → W.cell? ⟨w.heap.size, i, none⟩ = some (.int .u32 (u32i (tab i)))) := by
    intro i hi
    rw [← hW, World.cell?, World.alloc]
    simp [tabArr_at i hi]
  rw [show w.alloc (.cells #[.int .u32 0, .int .u32 274646895, .int .u32 549293790,
      .int .u32 820201905, .int .u32 1098587580, .int .u32 1361435347,
      .int .u32 1640403810, .int .u32 1905808397, .int .u32 2197175160,
      .int .u32 2460548119, .int .u32 2722870694, .int .u32 2987750089,
      .int .u32 3280807620, .int .u32 3553878443, .int .u32 3811616794,
      .int .u32 4084100981] 68) = W from hW]
  clear hW
  go_loop [6, 14] (fun r i => ∃ k : Nat, k ≤ bs.length ∧ i = .int .i64 k ∧ r = .int .u32 (u32i (run (~~~ s) (bs.take k)))) (fun _ i => bs.length - (intOf i).toNat)
  case atStart => exact ⟨0, Nat.zero_le _, rfl, vint (not_u32 s)⟩
  case round =>
    obtain ⟨k, hk, rfl, rfl⟩ := hrel
    by_cases hlt : k < bs.length
    · obtain ⟨ad, hA, hc⟩ := HR1.out.at hlt
      subst hA
      have HX : Hid (run (~~~ s) (bs.take (k + 1)) = byteStep (run (~~~ s) (bs.take k)) (bs.getD k 0)) := run_take _ _ _ hlt
      generalize bs.getD k 0 = x at hc HX
      obtain ⟨r0, hr0⟩ : ∃ r0, run (~~~ s) (bs.take k) = r0 := ⟨_, rfl⟩
      rw [hr0] at HX ⊢
      clear hr0
      go_wp2
      go_loop [6, 22] (fun r i => ∃ j : Nat, j ≤ 2 ∧ i = .int .i64 j ∧ r = .int .u32 (u32i (nibs j (r0 ^^^ BitVec.ofNat 32 x.toNat)))) (fun _ i => 2 - (intOf i).toNat)
      case atStart => exact ⟨0, Nat.zero_le _, rfl, vint (xor_byte _ _)⟩
      case round =>
        obtain ⟨j, hj, rfl, rfl⟩ := hrel
        generalize hq : nibs j (r0 ^^^ BitVec.ofNat 32 x.toNat) = q
        have HQ := Lib.hid hq
        clear hq
        have hm := and_mask q
        by_cases hlt2 : j < 2
        · have hct : W.cell? ⟨w.heap.size, (bits .and .u32 (u32i q) 15).toNat, none⟩ = some (.int .u32 (u32i (tab (q &&& 15#32).toNat))) := by
            rw [and15]; exact HT.out _ (by omega)
          have hi0 : 0 ≤ bits .and .u32 (u32i q) 15 := by rw [and15]; omega
          have hi1 : bits .and .u32 (u32i q) 15 < 16 := by rw [and15]; omega
          go_wp2
          go_round
          case rel => exact ⟨j + 1, by omega, by go_num, by rw [nibs_succ, HQ.out]; exact vint (nib_u32 q)⟩
          case measure => simp [intOf]; omega
        · have hj2 : j = 2 := by omega
          have HQ2 : Hid (nibs 2 (r0 ^^^ BitVec.ofNat 32 x.toNat) = q) := hj2 ▸ HQ.out
          clear hj2
          go_wp2
          go_round
          case rel => exact ⟨k + 1, by omega, by go_num, by rw [HX.out, byteStep, ← HQ2.out]; rfl⟩
          case measure => simp [intOf]; omega
    · go_wp2
      go_ret
      exact ⟨ret_int (by rw [not_u32, List.take_of_length_le (by omega)]; rfl), hb⟩
end Go.Proofs.Ytimmemkiilblcaa
