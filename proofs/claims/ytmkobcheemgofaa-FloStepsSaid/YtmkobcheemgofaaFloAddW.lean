/- What both Adds compute: the walks; the statements' own start. -/
import Derived.Test.YtmkobcheemgofaaFloRefU
import Derived.Test.YtmkobcheemgofaaFloRefF
import Derived.Below
namespace Go.Proofs.Ytmkobcheemgofaa
set_option linter.unusedVariables false
set_option linter.unusedSimpArgs false
open Go.RowKit
def addN (a b : Nat) : Nat := match Ieee.double.add a b with
  | some r => if nanB r = true then 9221120237041090561 else r
  | none => 9221120237041090561
theorem addN_comm (a b : Nat) : addN a b = addN b a := by unfold addN; rw [fadd_comm]
theorem add_lt (a b r : Nat) (h : Ieee.double.add a b = some r) : r < 18446744073709551616 := Ieee.Format.add_lt _ h
theorem addN_lt (a b : Nat) : addN a b < 18446744073709551616 := by
  unfold addN
  split
  · rename_i r h
    have := add_lt a b r h
    split <;> omega
  · omega
theorem run_fadd_some (a b r : Nat) (h : Ieee.double.add a b = some r) (t : TypeId) (W : World) : (binOp .add t (.float .f64 a) (.float .f64 b)).run Try.prog W = .ok (.float .f64 r) W :=
  run_float_arith W .add t .f64 a b r h
theorem run_fadd_none (a b : Nat) (h : Ieee.double.add a b = none) (t : TypeId) (W : World) : ∃ c, c < 18446744073709551616 ∧ nanB c = true ∧ (binOp .add t (.float .f64 a) (.float .f64 b)).run Try.prog W = .ok (.float .f64 c) W.drew := by
  obtain ⟨c, hc⟩ : ∃ c, (Question.nanBits .f64 a b).cut (W.tape W.drawn (Question.nanBits .f64 a b)) = c := ⟨_, rfl⟩
  refine ⟨c, ?_, ?_, ?_⟩
  · rw [← hc]
    simp only [Question.cut]
    omega
  · rw [nan_bound c (by rw [← hc]; simp only [Question.cut]; omega), ← hc]
    simp only [Question.cut]
    omega
  · rw [← hc]
    have h' : FloatKind.f64.format.add a b = none := h
    have e : binOp .add t (.float .f64 a) (.float .f64 b) = Op.floatArith .add .f64 a b := by simp [binOp]
    rw [e]
    unfold Op.floatArith
    simp only [h']
    rfl
theorem addN_some {a b r : Nat} (h : Ieee.double.add a b = some r) (hn : nanB r = false) : addN a b = r := by
  unfold addN
  rw [h]
  simp [hn]
theorem addN_some' {a b r : Nat} (h : Ieee.double.add a b = some r) (hn : nanB r = true) : addN a b = 9221120237041090561 := by
  unfold addN
  rw [h]
  simp [hn]
theorem addN_none {a b : Nat} (h : Ieee.double.add a b = none) : addN a b = 9221120237041090561 := by
  unfold addN
  rw [h]
theorem drew_below (w : World) : Below w.heap.size w w.drew := (Below.refl _ _).drew
theorem add_any (a b : Nat) (w : World) (ha : a < 18446744073709551616) (hb : b < 18446744073709551616) :
    Calls Try.prog 30 #[.int .u64 (a : Int), .int .u64 (b : Int)] w fun e w' => e = .returned (.int .u64 (addN a b : Int)) ∧ Below w.heap.size w w' := by
  have x32 := run_frombits
  have x23 := run_tobits
  rcases hadd : Ieee.double.add a b with _ | r
  · obtain ⟨c, hc, hn, hrun⟩ := run_fadd_none a b hadd 30 w
    have HA := Lib.hid (addN_none hadd)
    clear hadd
    go_enter Try.func30, Try.ntmps30
    go_wp2_with (first | (go_at_call 33; (with_reducible refine (isnan_any c _ hc).mono ?_); rintro e w' ⟨rfl, rfl⟩) | go_in)
    all_goals go_ret
    all_goals exact ⟨ret_int' (by rw [HA.out]; rfl), drew_below _⟩
  · have hr := add_lt a b r hadd
    have hrun := run_fadd_some a b r hadd 30
    rcases hn : nanB r with _ | _
    · have HA := Lib.hid (addN_some hadd hn)
      clear hadd
      go_enter Try.func30, Try.ntmps30
      go_wp2_with (first | (go_at_call 33; (with_reducible refine (isnan_any r _ hr).mono ?_); rintro e w' ⟨rfl, rfl⟩) | go_in)
      all_goals go_ret
      all_goals exact ⟨ret_int' (by rw [HA.out]), Below.refl _ _⟩
    · have HA := Lib.hid (addN_some' hadd hn)
      clear hadd
      go_enter Try.func30, Try.ntmps30
      go_wp2_with (first | (go_at_call 33; (with_reducible refine (isnan_any r _ hr).mono ?_); rintro e w' ⟨rfl, rfl⟩) | go_in)
      all_goals go_ret
      all_goals exact ⟨ret_int' (by rw [HA.out]; rfl), Below.refl _ _⟩
theorem radd_any (a b : Nat) (w : World) (ha : a < 18446744073709551616) (hb : b < 18446744073709551616) :
    Calls Try.prog 31 #[.int .u64 (a : Int), .int .u64 (b : Int)] w fun e w' => e = .returned (.int .u64 (addN a b : Int)) ∧ Below w.heap.size w w' := by
  have x32 := run_frombits
  have x23 := run_tobits
  rcases hadd : Ieee.double.add a b with _ | r
  · obtain ⟨c, hc, hn, hrun⟩ := run_fadd_none a b hadd 30 w
    have HA := Lib.hid (addN_none hadd)
    have hs : (FloatKind.f64.format.order c c != some Ordering.eq) = true := (order_self c hc).trans hn
    clear hadd
    go_enter Try.func31, Try.ntmps31
    go_wp2
    all_goals go_ret
    all_goals exact ⟨ret_int' (by rw [HA.out]; rfl), drew_below _⟩
  · have hr := add_lt a b r hadd
    have hrun := run_fadd_some a b r hadd 30
    rcases hn : nanB r with _ | _
    · have HA := Lib.hid (addN_some hadd hn)
      have hs : (FloatKind.f64.format.order r r != some Ordering.eq) = false := (order_self r hr).trans hn
      clear hadd
      go_enter Try.func31, Try.ntmps31
      go_wp2
      all_goals go_ret
      all_goals exact ⟨ret_int' (by rw [HA.out]), Below.refl _ _⟩
    · have HA := Lib.hid (addN_some' hadd hn)
      have hs : (FloatKind.f64.format.order r r != some Ordering.eq) = true := (order_self r hr).trans hn
      clear hadd
      go_enter Try.func31, Try.ntmps31
      go_wp2
      all_goals go_ret
      all_goals exact ⟨ret_int' (by rw [HA.out]; rfl), Below.refl _ _⟩
theorem mathnan_any (w : World) :
    Calls Try.prog 38 #[] w fun e w' => e = .returned (.float .f64 9221120237041090561) ∧ w = w' := by
  have x32 : ∀ W : World, (callFunc 32 #[.int .u64 9221120237041090561]).run Try.prog W = .ok (.value (.float .f64 9221120237041090561)) W := fun W => run_frombits 9221120237041090561 W
  go_enter Try.func38, Try.ntmps38
  go_wp2
  go_ret
  exact ⟨rfl, rfl⟩
theorem kind_lit0 (w : World) : Calls Try.prog 24 #[.int .u64 9223372036854775808] w fun e w' => e = .returned (.int .i64 0) ∧ w = w' := kind_any 9223372036854775808 w (by decide)
theorem kind_lit4 (w : World) : Calls Try.prog 24 #[.int .u64 9221120237041090561] w fun e w' => e = .returned (.int .i64 4) ∧ w = w' := kind_any 9221120237041090561 w (by decide)
theorem less_lit (w : World) : Calls Try.prog 16 #[.int .u64 9223372036854775808, .int .u64 0] w fun e w' => e = .returned (.bool true) ∧ w = w' := less_any 9223372036854775808 0 w (by decide) (by decide)
theorem units_lit5 (w : World) : Calls Try.prog 19 #[.int .u64 4612811918334230528, .int .i64 1] w fun e w' => e = .returned (.tuple #[.int .u64 5, .int .i64 0]) ∧ w = w' := by
  refine (units_any 4612811918334230528 1 w (by decide) (by decide) (by decide)).mono ?_
  rintro e w' ⟨rfl, rfl⟩
  rw [show unitsN 4612811918334230528 1 = (5, 0) by decide +kernel]
  exact ⟨rfl, rfl⟩
theorem units_lit1 (w : World) : Calls Try.prog 19 #[.int .u64 13826050856027422720, .int .i64 0] w fun e w' => e = .returned (.tuple #[.int .u64 0, .int .i64 1]) ∧ w = w' := by
  refine (units_any 13826050856027422720 0 w (by decide) (by decide) (by decide)).mono ?_
  rintro e w' ⟨rfl, rfl⟩
  rw [show unitsN 13826050856027422720 0 = (0, 1) by decide +kernel]
  exact ⟨rfl, rfl⟩
theorem awake_any (w : World) :
    Calls Try.prog 18 #[] w fun e w' => e = .returned (.bool true) ∧ w = w' := by
  have x23 := run_tobits
  go_enter Try.func18, Try.ntmps18
  go_wp2_with (first | (go_at_call 19; (with_reducible refine (units_lit5 _).mono ?_); rintro e w' ⟨rfl, rfl⟩) | (go_at_call 19; (with_reducible refine (units_lit1 _).mono ?_); rintro e w' ⟨rfl, rfl⟩) | (go_at_call 24; (with_reducible refine (kind_lit0 _).mono ?_); rintro e w' ⟨rfl, rfl⟩) | (go_at_call 24; (with_reducible refine (kind_lit4 _).mono ?_); rintro e w' ⟨rfl, rfl⟩) | (go_at_call 16; (with_reducible refine (less_lit _).mono ?_); rintro e w' ⟨rfl, rfl⟩) | (go_at_call 38; (with_reducible refine (mathnan_any _).mono ?_); rintro e w' ⟨rfl, rfl⟩))
  all_goals go_ret
  all_goals exact ⟨rfl, rfl⟩
end Go.Proofs.Ytmkobcheemgofaa
