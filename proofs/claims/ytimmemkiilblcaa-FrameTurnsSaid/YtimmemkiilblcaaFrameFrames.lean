/- The frames of bytes: the plain law; Get's and one's words over it. -/
import Derived.Test.YtimmemkiilblcaaFrameRef
namespace Go.Proofs.Ytimmemkiilblcaa
set_option linter.unusedVariables false
set_option linter.unusedSimpArgs false
open Go.RowKit
/-- a frame: where it begins, its body, the place behind it -/
abbrev Fr := Nat × List UInt8 × Nat
def framesN : Nat → List UInt8 → Nat → List Fr
  | 0, _, _ => []
  | k + 1, bs, a => match frameAt bs a with
    | none => []
    | some p => (a, p.1, p.2) :: framesN k bs p.2
def frames (bs : List UInt8) : List Fr := framesN (bs.length + 1) bs 0
def endOf (l : List Fr) : Nat := match l.getLast? with
  | none => 0
  | some p => p.2.2
theorem endOf_nil : endOf [] = 0 := rfl
theorem endOf_snoc (l : List Fr) (p : Fr) : endOf (l ++ [p]) = p.2.2 := by simp [endOf]
theorem getAt_far {bs : List UInt8} {a : Nat} (h : bs.length ≤ a) : getAt bs (a : Int) = none := by
  rcases hg : getAt bs (a : Int) with _ | ⟨n, fr⟩
  · rfl
  · obtain ⟨_, k1, k2, _⟩ := getAt_bounds hg
    omega
theorem frameAt_far {bs : List UInt8} {a : Nat} (h : bs.length ≤ a) : frameAt bs a = none := frameAt_num (getAt_far h)
theorem frameAt_some {bs : List UInt8} {a e : Nat} {B : List UInt8} (h : frameAt bs a = some (B, e)) :
    ∃ n fr, getAt bs (a : Int) = some (n, fr) ∧ ¬ (n < 1 ∨ 1048576 < n ∨ bs.length < fr + (n + 4)) ∧ (bs.drop (fr + 4)).take n = B ∧ e = fr + 4 + n ∧ le4 (Sum B) = (bs.drop fr).take 4 ∧ B.length = n ∧ a < fr := by
  rcases hg : getAt bs (a : Int) with _ | ⟨n, fr⟩
  · rw [frameAt_num hg] at h; cases h
  · by_cases hb : n < 1 ∨ 1048576 < n ∨ bs.length < fr + (n + 4)
    · rw [frameAt_bad hg hb] at h; cases h
    · rw [frameAt_sum hg hb] at h
      split at h
      · rename_i hs
        simp only [Option.some.injEq, Prod.mk.injEq] at h
        obtain ⟨rfl, rfl⟩ := h
        obtain ⟨_, k1, _⟩ := getAt_bounds hg
        exact ⟨n, fr, rfl, hb, rfl, rfl, hs, by rw [List.length_take, List.length_drop]; omega, by omega⟩
      · cases h
theorem frameAt_in {bs : List UInt8} {a e : Nat} {B : List UInt8} (h : frameAt bs a = some (B, e)) : a < bs.length ∧ a + 5 < e ∧ e ≤ bs.length ∧ B.length ≤ 1048576 ∧ 1 ≤ B.length := by
  obtain ⟨n, fr, _, hb, _, he, _, hl, ha⟩ := frameAt_some h
  omega
theorem framesN_none {bs : List UInt8} {k a : Nat} (h : frameAt bs a = none) : framesN k bs a = [] := by
  cases k with
  | zero => rfl
  | succ k => simp [framesN, h]
theorem framesN_some {bs : List UInt8} {k a e : Nat} {B : List UInt8} (h : frameAt bs a = some (B, e)) (hk : bs.length < a + k) : ∃ k', k = k' + 1 ∧ bs.length < e + k' ∧ framesN k bs a = (a, B, e) :: framesN k' bs e := by
  obtain ⟨h1, h2, h3, _⟩ := frameAt_in h
  cases k with
  | zero => omega
  | succ k => exact ⟨k, rfl, by omega, by simp [framesN, h]⟩
theorem fget_none (A : Option Addr) (bs : List UInt8) (c a : Nat) (w : World) (hl : bs.length ≤ 140737488355328) (hc : bs.length ≤ c) (hr : ReadsB w A bs) (ha : a ≤ bs.length) (h : frameAt bs a = none) :
    Calls Try.prog 14 #[.slice A bs.length c, .int .i64 (a : Int)] w fun e w' => ∃ (A' : Option Addr) (c' err : Nat), e = .returned (.tuple #[.slice A' 0 c', .int .i64 0, .int .i64 (err : Int)]) ∧ 0 < err ∧ Below w.heap.size w w' := by
  by_cases hlt : a < bs.length
  · refine (fget_nat A bs c a w hl hc hlt hr 0 0 4 [] rfl ?_).mono ?_
    · rw [getF_of hlt, h]
    · rintro e w' ⟨A', c', rfl, _, hb⟩
      exact ⟨A', c', 4, rfl, by omega, hb⟩
  · refine (fget_bad A bs c a w hl (.inr (by omega))).mono ?_
    rintro e w' ⟨rfl, rfl⟩
    refine ⟨none, 0, _, rfl, ?_, Below.refl _ _⟩
    unfold getF
    split
    · decide
    · rw [if_pos (by omega)]; decide
theorem fget_some (A : Option Addr) (bs : List UInt8) (c a : Nat) (w : World) (hl : bs.length ≤ 140737488355328) (hc : bs.length ≤ c) (hr : ReadsB w A bs) (B : List UInt8) (e' m : Nat) (h : frameAt bs a = some (B, e')) (hm : B.length = m) :
    Calls Try.prog 14 #[.slice A bs.length c, .int .i64 (a : Int)] w fun e w' => ∃ A' c', e = .returned (.tuple #[.slice A' m c', .int .i64 (e' : Int), .int .i64 0]) ∧ OwnB w' w.heap.size (.slice A' m c') B ∧ Below w.heap.size w w' := by
  have hlt := (frameAt_in h).1
  exact fget_nat A bs c a w hl hc hlt hr m e' 0 B hm (by rw [getF_of hlt, h])
theorem one_none (A : Option Addr) (bs : List UInt8) (c a : Nat) (w : World) (hl : bs.length ≤ 140737488355328) (hc : bs.length ≤ c) (ha : a < bs.length) (hr : ReadsB w A bs) (h : frameAt bs a = none) :
    Calls Try.prog 26 #[.slice A bs.length c, .int .i64 (a : Int)] w fun e w' => e = .returned (.tuple #[.agg #[.int .i64 0, .slice none 0 0, .int .i64 0], .bool false]) ∧ Below w.heap.size w w' := by
  rcases hg : getAt bs (a : Int) with _ | ⟨n, fr⟩
  · exact one_num A bs c a w hl ha hr hg
  · by_cases hb : n < 1 ∨ 1048576 < n ∨ bs.length < fr + (n + 4)
    · exact one_bad A bs c a n fr w hl ha hr hg hb
    · refine one_sum A bs c a n fr _ w hl hc ha hr hg hb rfl ?_
      intro hs
      rw [frameAt_sum hg hb, if_pos hs] at h
      cases h
theorem one_some (A : Option Addr) (bs : List UInt8) (c a : Nat) (w : World) (hl : bs.length ≤ 140737488355328) (hc : bs.length ≤ c) (hr : ReadsB w A bs) (B : List UInt8) (e' m : Nat) (h : frameAt bs a = some (B, e')) (hm : B.length = m) :
    Calls Try.prog 26 #[.slice A bs.length c, .int .i64 (a : Int)] w fun e w' => ∃ A' c', e = .returned (.tuple #[.agg #[.int .i64 (a : Int), .slice A' m c', .int .i64 (e' : Int)], .bool true]) ∧ OwnB w' w.heap.size (.slice A' m c') B ∧ Below w.heap.size w w' := by
  have hlt := (frameAt_in h).1
  obtain ⟨n, fr, hg, hb, hB, rfl, hs, hn, _⟩ := frameAt_some h
  rw [hm] at hn
  subst hn
  exact one_good A bs c a m fr B w hl hc hlt hr hg hb hB hs
end Go.Proofs.Ytimmemkiilblcaa
