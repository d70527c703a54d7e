/- What the small functions on floats compute: the walks. -/
import Derived.Test.YteohmcjclmaanaaRows
import Derived.Test.YteohmcjclmaanaaFloReal
import Derived.WalkKit
import Derived.WalkSpells
import Derived.WalkLawsBesides
import Derived.Lib.Hide
import Derived.Laws.BitsAllLaws
import Derived.Deep.QuietTactic
import Derived.BigQuiet
namespace Go.Proofs.Yteohmcjclmaanaa
set_option linter.unusedVariables false
set_option linter.unusedSimpArgs false
open Go.RowKit
theorem ret_int' {k : IntKind} {a b : Int} (h : a = b) : Ending.returned (.int k a) = .returned (.int k b) := by rw [h]
theorem ret_bool' {a b : Bool} (h : a = b) : Ending.returned (.bool a) = .returned (.bool b) := by rw [h]
theorem ret_float' {k : FloatKind} {a b : Nat} (h : a = b) : Ending.returned (.float k a) = .returned (.float k b) := by rw [h]
theorem and_sign (b : Nat) (hb : b < 18446744073709551616) : bits .and .u64 (b : Int) 9223372036854775808 = if 9223372036854775808 ≤ b then 9223372036854775808 else 0 := by
  have h := u64_and_nat b 9223372036854775808 hb (by decide)
  rw [show (9223372036854775808 : Nat) = 2 ^ 63 from rfl, nat_bit] at h
  rw [show (9223372036854775808 : Int) = ((2 ^ 63 : Nat) : Int) from rfl, h]
  split <;> omega
theorem and_sign_hi {b : Nat} (hb : b < 18446744073709551616) (h : 9223372036854775808 ≤ b) : bits .and .u64 (b : Int) 9223372036854775808 = 9223372036854775808 := by rw [and_sign b hb, if_pos h]
theorem and_sign_lo {b : Nat} (h : b < 9223372036854775808) : bits .and .u64 (b : Int) 9223372036854775808 = 0 := by rw [and_sign b (by omega), if_neg (by omega)]
theorem xor_not (b : Nat) (hb : b < 18446744073709551616) : bits .xor .u64 18446744073709551615 (b : Int) = ((18446744073709551615 - b : Nat) : Int) := by
  show IntKind.u64.wrap ((BitVec.ofInt 64 18446744073709551615 ^^^ BitVec.ofInt 64 (b : Int)).toNat : Int) = _
  have h1 : BitVec.ofInt 64 18446744073709551615 = BitVec.allOnes 64 := by decide
  rw [h1, BitVec.allOnes_xor, BitVec.toNat_not, ofInt_u64 b hb]
  simp [IntKind.wrap, IntKind.bits, IntKind.signed]
  omega
theorem xor_not_max (b : Nat) (hb : b < 18446744073709551616) : bits .xor .u64 IntKind.u64.max (b : Int) = ((18446744073709551615 - b : Nat) : Int) := xor_not b hb
theorem xor_not' (b : Nat) (hb : b < 18446744073709551616) : bits .xor .u64 (b : Int) 18446744073709551615 = ((18446744073709551615 - b : Nat) : Int) := by
  show IntKind.u64.wrap ((BitVec.ofInt 64 (b : Int) ^^^ BitVec.ofInt 64 18446744073709551615).toNat : Int) = _
  have h1 : BitVec.ofInt 64 18446744073709551615 = BitVec.allOnes 64 := by decide
  rw [h1, BitVec.xor_allOnes, BitVec.toNat_not, ofInt_u64 b hb]
  simp [IntKind.wrap, IntKind.bits, IntKind.signed]
  omega
theorem or_sign {b : Nat} (h : b < 9223372036854775808) : bits .or .u64 (b : Int) 9223372036854775808 = ((b + 9223372036854775808 : Nat) : Int) := by
  have e := u64_or_nat b 9223372036854775808 (by omega) (by decide)
  rw [Nat.or_comm, nat_join 63 _ _ (by decide) (by omega)] at e
  rw [show (9223372036854775808 : Int) = ((9223372036854775808 : Nat) : Int) from rfl, e]
  omega
theorem xor_sign (b : Nat) (hb : b < 18446744073709551616) : bits .xor .u64 (b : Int) 9223372036854775808 = (mirN b : Int) := by
  have e := u64_xor_nat b 9223372036854775808 hb (by decide)
  rw [show (9223372036854775808 : Int) = ((9223372036854775808 : Nat) : Int) from rfl, e]
  congr 1
  unfold mirN
  have hlo : ∀ y, y < 2 ^ 63 → y ^^^ 2 ^ 63 = y + 2 ^ 63 := by
    intro y hy
    apply Nat.eq_of_testBit_eq
    intro i
    have h3 : y + 2 ^ 63 = 2 ^ 63 ||| y := by rw [nat_join 63 _ _ (by decide) hy]; omega
    rw [h3, Nat.testBit_xor, Nat.testBit_or, Nat.testBit_two_pow]
    by_cases hi : 63 = i
    · subst hi
      rw [Nat.testBit_lt_two_pow hy]; simp
    · simp [hi]
  split
  · rename_i h
    have h1 := hlo (b - 9223372036854775808) (by omega)
    have h2 : b = (b - 9223372036854775808) ^^^ 9223372036854775808 := by
      rw [show (9223372036854775808 : Nat) = 2 ^ 63 from rfl] at *
      rw [h1]; omega
    rw [show b ^^^ 9223372036854775808 = ((b - 9223372036854775808) ^^^ 9223372036854775808) ^^^ 9223372036854775808 by rw [← h2], Nat.xor_assoc, Nat.xor_self, Nat.xor_zero]
  · exact hlo b (by omega)
theorem and_frac (b : Nat) (hb : b < 18446744073709551616) : bits .and .u64 (b : Int) 4503599627370495 = (fracN b : Int) := by
  have e := u64_and_nat b 4503599627370495 hb (by decide)
  rw [show (4503599627370495 : Nat) = 2 ^ 52 - 1 from rfl, Nat.and_two_pow_sub_one_eq_mod] at e
  exact e
theorem and_2047 (b : Nat) (hb : b < 18446744073709551616) : bits .and .u64 (b : Int) 2047 = ((b % 2048 : Nat) : Int) := by
  have e := u64_and_nat b 2047 hb (by decide)
  rw [show (2047 : Nat) = 2 ^ 11 - 1 from rfl, Nat.and_two_pow_sub_one_eq_mod] at e
  exact e
theorem exp_spell (b : Nat) (hb : b < 18446744073709551616) : bits .and .u64 ((b : Int) / 4503599627370496) 2047 = (expN b : Int) := by
  rw [show (b : Int) / 4503599627370496 = ((b / 4503599627370496 : Nat) : Int) by omega, and_2047 _ (by omega)]
  rfl
theorem exp_lt (b : Nat) : expN b < 2048 := Nat.mod_lt _ (by decide)
theorem frac_lt (b : Nat) : fracN b < 4503599627370496 := Nat.mod_lt _ (by decide)
theorem parts_any (b : Nat) (w : World) (hb : b < 18446744073709551616) :
    Calls Try.prog 47 #[.int .u64 (b : Int)] w fun e w' => e = .returned (.tuple #[.int .i64 (expN b : Int), .int .u64 (fracN b : Int)]) ∧ w = w' := by
  have he := exp_lt b
  have h1 := exp_spell b hb
  have h2 := and_frac b hb
  go_enter Try.func47, Try.ntmps47
  go_wp2
  go_ret2
  exact ⟨rfl, rfl⟩
theorem rexp_any (b : Nat) (w : World) (hb : b < 18446744073709551616) :
    Calls Try.prog 33 #[.int .u64 (b : Int)] w fun e w' => e = .returned (.int .i64 (expN b : Int)) ∧ w = w' := by
  have he := exp_lt b
  have h1 := exp_spell b hb
  go_enter Try.func33, Try.ntmps33
  go_wp2
  go_ret
  exact ⟨rfl, rfl⟩
theorem rfrac_any (b : Nat) (w : World) (hb : b < 18446744073709551616) :
    Calls Try.prog 34 #[.int .u64 (b : Int)] w fun e w' => e = .returned (.int .u64 (fracN b : Int)) ∧ w = w' := by
  have h2 := and_frac b hb
  go_enter Try.func34, Try.ntmps34
  go_wp2
  go_ret
  exact ⟨rfl, rfl⟩
theorem key_any (b : Nat) (w : World) (hb : b < 18446744073709551616) :
    Calls Try.prog 45 #[.int .u64 (b : Int)] w fun e w' => e = .returned (.int .u64 (keyN b : Int)) ∧ w = w' := by
  by_cases hs : 9223372036854775808 ≤ b
  · have h1 := and_sign_hi hb hs
    have h2 := xor_not_max b hb
    go_enter Try.func45, Try.ntmps45
    go_wp2
    all_goals go_ret
    all_goals exact ⟨ret_int' (by unfold keyN; rw [if_pos hs]), rfl⟩
  · have h1 := and_sign_lo (show b < 9223372036854775808 by omega)
    have h2 := xor_sign b hb
    go_enter Try.func45, Try.ntmps45
    go_wp2
    all_goals go_ret
    all_goals exact ⟨ret_int' (by unfold keyN mirN; rw [if_neg hs, if_neg hs]), rfl⟩
theorem run_frombits (b : Nat) (W : World) : (callFunc 15 #[.int .u64 (b : Int)]).run Try.prog W = .ok (.value (.float .f64 b)) W := by
  rw [run_callFunc_extern (e := Extern.MathFloatBits.float64frombits) Try.func15 (by kernel_rfl) (by kernel_rfl) (by kernel_rfl) (by kernel_rfl)]
  rfl
theorem run_tobits (b : Nat) (W : World) : (callFunc 22 #[.float .f64 b]).run Try.prog W = .ok (.value (.int .u64 (b : Int))) W := by
  rw [run_callFunc_extern (e := Extern.MathFloatBits.float64bits) Try.func22 (by kernel_rfl) (by kernel_rfl) (by kernel_rfl) (by kernel_rfl)]
  rfl
theorem isnan_any (b : Nat) (w : World) (hb : b < 18446744073709551616) :
    Calls Try.prog 16 #[.float .f64 b] w fun e w' => e = .returned (.bool (nanB b)) ∧ w = w' := by
  go_enter Try.func16, Try.ntmps16
  go_wp2
  go_ret
  exact ⟨ret_bool' (order_self b hb), rfl⟩
theorem k_nan {b : Nat} (h : nanB b = true) : (4 : Int) = (kindN b : Int) := by rw [(kind_nan_iff b).2 h]; rfl
theorem k_inf {b : Nat} (h : nanB b = false) (h1 : ((expN b : Int) == 2047) = true) : (3 : Int) = (kindN b : Int) := by
  rw [beq_iff_eq] at h1
  simp only [nanB, decide_eq_false_iff_not] at h
  unfold kindN
  rw [if_pos (by omega), if_neg (by omega)]
  rfl
theorem r_nan {b : Nat} (h1 : ((expN b : Nat) : Int) = 2047) (h : 0 < fracN b) : (4 : Int) = (kindN b : Int) := by
  unfold kindN
  rw [if_pos (by omega), if_pos h]
  rfl
theorem r_inf {b : Nat} (h1 : ((expN b : Nat) : Int) = 2047) (h : ¬ 0 < fracN b) : (3 : Int) = (kindN b : Int) := by
  unfold kindN
  rw [if_pos (by omega), if_neg h]
  rfl
theorem k_norm {b : Nat} (h1 : ((expN b : Int) == 2047) = false) (h2 : 0 < expN b) : (1 : Int) = (kindN b : Int) := by
  rw [beq_eq_false_iff_ne] at h1
  unfold kindN
  rw [if_neg (by omega), if_pos h2]
  rfl
theorem k_tiny {b : Nat} (h1 : ((expN b : Int) == 2047) = false) (h2 : ¬ 0 < expN b) (h3 : 0 < fracN b) : (2 : Int) = (kindN b : Int) := by
  rw [beq_eq_false_iff_ne] at h1
  unfold kindN
  rw [if_neg (by omega), if_neg h2, if_pos h3]
  rfl
theorem k_zero {b : Nat} (h1 : ((expN b : Int) == 2047) = false) (h2 : ¬ 0 < expN b) (h3 : ¬ 0 < fracN b) : (0 : Int) = (kindN b : Int) := by
  rw [beq_eq_false_iff_ne] at h1
  unfold kindN
  rw [if_neg (by omega), if_neg h2, if_neg h3]
  rfl
theorem kind_any (b : Nat) (w : World) (hb : b < 18446744073709551616) :
    Calls Try.prog 44 #[.int .u64 (b : Int)] w fun e w' => e = .returned (.int .i64 (kindN b : Int)) ∧ w = w' := by
  have he := exp_lt b
  have hf := frac_lt b
  have x32 := run_frombits
  go_enter Try.func44, Try.ntmps44
  go_wp2_with (first | (go_at_call 47; (with_reducible refine (parts_any b _ hb).mono ?_); rintro e w' ⟨rfl, rfl⟩) | (go_at_call 16; (with_reducible refine (isnan_any b _ hb).mono ?_); rintro e w' ⟨rfl, rfl⟩) | go_in)
  all_goals go_ret
  all_goals exact ⟨ret_int' (by first | exact k_nan ‹_› | exact k_inf ‹_› ‹_› | exact k_norm ‹_› ‹_› | exact k_tiny ‹_› ‹_› ‹_› | exact k_zero ‹_› ‹_› ‹_›), rfl⟩
theorem rkind_any (b : Nat) (w : World) (hb : b < 18446744073709551616) :
    Calls Try.prog 17 #[.int .u64 (b : Int)] w fun e w' => e = .returned (.int .i64 (kindN b : Int)) ∧ w = w' := by
  have he := exp_lt b
  have hf := frac_lt b
  go_enter Try.func17, Try.ntmps17
  go_wp2_with (first | (go_at_call 33; (with_reducible refine (rexp_any b _ hb).mono ?_); rintro e w' ⟨rfl, rfl⟩) | (go_at_call 34; (with_reducible refine (rfrac_any b _ hb).mono ?_); rintro e w' ⟨rfl, rfl⟩) | go_in)
  all_goals go_ret
  all_goals exact ⟨ret_int' (by first | exact r_nan ‹_› ‹_› | exact r_inf ‹_› ‹_› | exact k_norm ‹_› ‹_› | exact k_tiny ‹_› ‹_› ‹_› | exact k_zero ‹_› ‹_› ‹_›), rfl⟩
theorem rkey_any (b : Nat) (w : World) (hb : b < 18446744073709551616) :
    Calls Try.prog 35 #[.int .u64 (b : Int)] w fun e w' => e = .returned (.int .u64 (keyN b : Int)) ∧ w = w' := by
  by_cases hs : 9223372036854775808 ≤ b
  · have h1 := and_sign_hi hb hs
    have h2 := xor_not' b hb
    go_enter Try.func35, Try.ntmps35
    go_wp2
    all_goals go_ret
    all_goals exact ⟨ret_int' (by unfold keyN; rw [if_pos hs]), rfl⟩
  · have h1 := and_sign_lo (show b < 9223372036854775808 by omega)
    have h2 := or_sign (show b < 9223372036854775808 by omega)
    go_enter Try.func35, Try.ntmps35
    go_wp2
    all_goals go_ret
    all_goals exact ⟨ret_int' (by unfold keyN; rw [if_neg hs]; omega), rfl⟩
theorem l_a {a b : Nat} (h : ((kindN a : Nat) : Int) = 4) : false = lessB a b := by
  have := (kind_nan_iff a).1 (by omega)
  simp [lessB, this]
theorem l_b {a b : Nat} (h : ((kindN b : Nat) : Int) = 4) : false = lessB a b := by
  have := (kind_nan_iff b).1 (by omega)
  simp [lessB, this]
theorem l_ok (a b : Nat) : ((((kindN a : Nat) : Int) != 4) && (((kindN b : Nat) : Int) != 4) && decide (keyN a < keyN b)) = lessB a b := by
  have e : ∀ x : Nat, (((kindN x : Nat) : Int) != 4) = !nanB x := by
    intro x
    rw [Bool.eq_iff_iff, bne_iff_ne, Bool.not_eq_true', ← Bool.not_eq_true, ← kind_nan_iff]
    omega
  rw [e, e]
  rfl
theorem less_any (a b : Nat) (w : World) (ha : a < 18446744073709551616) (hb : b < 18446744073709551616) :
    Calls Try.prog 31 #[.int .u64 (a : Int), .int .u64 (b : Int)] w fun e w' => e = .returned (.bool (lessB a b)) ∧ w = w' := by
  go_enter Try.func31, Try.ntmps31
  go_wp2_with (first | (go_at_call 44; (with_reducible refine (kind_any _ _ (by assumption)).mono ?_); rintro e w' ⟨rfl, rfl⟩) | (go_at_call 45; (with_reducible refine (key_any _ _ (by assumption)).mono ?_); rintro e w' ⟨rfl, rfl⟩) | go_in)
  all_goals go_ret
  all_goals exact ⟨ret_bool' (by first | exact l_a ‹_› | exact l_b ‹_› | exact l_ok a b), rfl⟩
theorem rless_any (a b : Nat) (w : World) (ha : a < 18446744073709551616) (hb : b < 18446744073709551616) :
    Calls Try.prog 18 #[.int .u64 (a : Int), .int .u64 (b : Int)] w fun e w' => e = .returned (.bool (lessB a b)) ∧ w = w' := by
  go_enter Try.func18, Try.ntmps18
  go_wp2_with (first | (go_at_call 17; (with_reducible refine (rkind_any _ _ (by assumption)).mono ?_); rintro e w' ⟨rfl, rfl⟩) | (go_at_call 35; (with_reducible refine (rkey_any _ _ (by assumption)).mono ?_); rintro e w' ⟨rfl, rfl⟩) | go_in)
  all_goals go_ret
  all_goals exact ⟨ret_bool' (by first | exact l_a ‹_› | exact l_b ‹_› | exact l_ok a b), rfl⟩
end Go.Proofs.Yteohmcjclmaanaa
