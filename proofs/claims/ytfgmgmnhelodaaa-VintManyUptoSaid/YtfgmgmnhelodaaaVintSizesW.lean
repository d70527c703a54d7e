/- VintSizes: what it comes to. -/
import Derived.Test.YtfgmgmnhelodaaaVintAwake
import Derived.Test.YtfgmgmnhelodaaaRefNum
namespace Go.Proofs.Ytfgmgmnhelodaaa
set_option linter.unusedVariables false
set_option linter.unusedSimpArgs false
open Go.RowKit
theorem strOf_append (a b : List UInt8) : strOf (a ++ b) = strOf a ++ strOf b := by
  apply ByteArray.ext
  simp [strOf]
theorem strOf_size (a : List UInt8) : (strOf a).size = a.length := by simp [strOf, ByteArray.size]
theorem strOf_list (bs : List UInt8) : (strOf bs).toList = bs := by rw [ByteArray.toList_eq]; rfl
theorem own_cap {w : World} {base : Nat} {A : Option Addr} {n c : Nat} {e : TypeId} {xs : List Value} (h : w.ownsRow base e 1 (.slice A n c) n xs) : n ≤ c := by
  rcases h.2 with ⟨h1, h2⟩ | ⟨g, cap, cur, h1, _, _, h2, _⟩
  · omega
  · injection h1 with _ _ h3; omega
theorem wf_i64 {x : Int} (h : (Lit.int .i64 x).wf = true) : -9223372036854775808 ≤ x ∧ x ≤ 9223372036854775807 := by
  simp [Lit.wf, IntKind.min, IntKind.max, IntKind.signed, IntKind.bits] at h
  exact h
theorem wf_u64 {x : Int} (h : (Lit.int .u64 x).wf = true) : ∃ n : Nat, x = (n : Int) ∧ n < 18446744073709551616 := by
  simp [Lit.wf, IntKind.min, IntKind.max, IntKind.signed, IntKind.bits] at h
  exact ⟨x.toNat, by omega, by omega⟩
theorem reader_new {w : World} {A : Option Addr} {bs : List UInt8} (h : ReadsB w A bs) (c : Nat) (i : Int) : RdAt (w.alloc (.cells #[.slice A bs.length c, .int .i64 i, .bool false] 31)) w.heap.size A bs c i false :=
  ⟨Blk.new _ _ _, h.below (below_new _ _)⟩
theorem numPost_below {w w1 w2 : World} {g : Nat} {A : Option Addr} {bs : List UInt8} {c : Nat} {T : Option (Nat × Nat)} (h : NumPost w1 g A bs c T w2) (hb : Below w.heap.size w w1) (hg : w.heap.size ≤ g) : Below w.heap.size w w2 := by
  obtain ⟨i, _, _, h3⟩ := h
  exact hb.grown h3 hb.size (by intro k hk; injection hk with hk; omega)
theorem vput_nil (n x : Nat) (w : World) (hn : n < 18446744073709551616) (hx : (enc n).length = x) :
    Calls Try.prog 12 #[.slice none 0 0, .int .u64 (n : Int)] w fun e w' => ∃ A' c', e = .returned (.slice A' x c') ∧ OwnB w' w.heap.size (.slice A' x c') (enc n) ∧ Below w.heap.size w w' := by
  subst hx
  refine (vput_any none [] 0 n w hn (by decide) (Nat.le_refl _) (Reads.nil _ _)).mono ?_
  rintro e w1 ⟨A, c, rfl, h1, h2⟩
  simp only [List.length_nil, Nat.zero_add, List.nil_append] at h1 ⊢
  exact ⟨A, c, rfl, h1, h2⟩
set_option maxRecDepth 100000 in
set_option maxHeartbeats 800000 in
theorem vintSizes_walk (x0 x1 : Int) (w : World) (wf0 : (Lit.int .u64 x0).wf = true) (wf1 : (Lit.int .u64 x1).wf = true) :
    Calls Try.prog 4 #[.int .u64 x0, .int .u64 x1] w fun e w' => e = .returned (.bool true) ∧ Below w.heap.size w w' := by
  obtain ⟨a, rfl, ha⟩ := wf_u64 wf0
  obtain ⟨b, rfl, hb⟩ := wf_u64 wf1
  have HA := Lib.hid ha
  have HB := Lib.hid hb
  have e1 := enc_pos a
  have e2 := enc_le10 ha
  have e3 := enc_one a
  have m1 := enc_mono a b
  have m2 := enc_mono b a
  obtain ⟨x, hx⟩ : ∃ x, (enc a).length = x := ⟨_, rfl⟩
  obtain ⟨y, hy⟩ : ∃ y, (enc b).length = y := ⟨_, rfl⟩
  rw [hx] at e1 e2 e3 m1 m2
  rw [hy] at m1 m2
  have HX := Lib.hid hx
  have HY := Lib.hid hy
  have t0 : (1 : Int) ≤ (x : Int) := by omega
  have t1 : (x : Int) ≤ 10 := by omega
  have t2 : (((x : Int) == 1) == decide ((a : Int) < 128)) = true := by
    by_cases h : a < 128
    · have := e3.2 h
      rw [this]
      simp
      omega
    · have : ¬ x = 1 := fun h' => h (e3.1 h')
      have h1 : ((x : Int) == 1) = false := by rw [beq_eq_false_iff_ne]; omega
      have h2 : decide ((a : Int) < 128) = false := by rw [decide_eq_false_iff_not]; omega
      rw [h1, h2]
      rfl
  clear ha hb wf0 wf1 hx hy e1 e2 e3
  rcases Nat.lt_trichotomy a b with h | h | h
  · have i1 : (a : Int) ≤ (b : Int) := by omega
    have i2 : (a : Int) < (b : Int) := by omega
    have i3 : (x : Int) ≤ (y : Int) := by have := m1 (by omega); omega
    clear h m1 m2
    go_enter Try.func4, Try.ntmps4
    go_wp2_with fail
    refine (vput_nil a x _ HA.out HX.out).mono ?_
    rintro e w1 ⟨A1, c1, rfl, hown1, hb1⟩
    clear hown1
    go_wp2_with fail
    refine (vput_nil b y _ HB.out HY.out).mono ?_
    rintro e w2 ⟨A2, c2, rfl, hown2, hb2'⟩
    have hb2 := below_then hb1 hb2'
    clear hown2 hb2' hb1
    go_wp2_with fail
    refine (vawake_any _).mono ?_
    rintro e w3 ⟨rfl, hb3'⟩
    have hb3 := below_then hb2 hb3'
    go_wp2
    go_ret
    exact ⟨rfl, hb3⟩
  · subst h
    obtain rfl : x = y := by rw [← HX.out, ← HY.out]
    clear m1 m2
    go_enter Try.func4, Try.ntmps4
    go_wp2_with fail
    refine (vput_nil a x _ HA.out HX.out).mono ?_
    rintro e w1 ⟨A1, c1, rfl, hown1, hb1⟩
    clear hown1
    go_wp2_with fail
    refine (vput_nil a x _ HA.out HX.out).mono ?_
    rintro e w2 ⟨A2, c2, rfl, hown2, hb2'⟩
    have hb2 := below_then hb1 hb2'
    clear hown2 hb2' hb1
    go_wp2_with fail
    refine (vawake_any _).mono ?_
    rintro e w3 ⟨rfl, hb3'⟩
    have hb3 := below_then hb2 hb3'
    go_wp2
    go_ret
    exact ⟨rfl, hb3⟩
  · have i1 : (b : Int) ≤ (a : Int) := by omega
    have i2 : (b : Int) < (a : Int) := by omega
    have i3 : (y : Int) ≤ (x : Int) := by have := m2 (by omega); omega
    clear h m1 m2
    go_enter Try.func4, Try.ntmps4
    go_wp2_with fail
    refine (vput_nil a x _ HA.out HX.out).mono ?_
    rintro e w1 ⟨A1, c1, rfl, hown1, hb1⟩
    clear hown1
    go_wp2_with fail
    refine (vput_nil b y _ HB.out HY.out).mono ?_
    rintro e w2 ⟨A2, c2, rfl, hown2, hb2'⟩
    have hb2 := below_then hb1 hb2'
    clear hown2 hb2' hb1
    go_wp2_with fail
    refine (vawake_any _).mono ?_
    rintro e w3 ⟨rfl, hb3'⟩
    have hb3 := below_then hb2 hb3'
    go_wp2
    go_ret
    exact ⟨rfl, hb3⟩
end Go.Proofs.Ytfgmgmnhelodaaa
