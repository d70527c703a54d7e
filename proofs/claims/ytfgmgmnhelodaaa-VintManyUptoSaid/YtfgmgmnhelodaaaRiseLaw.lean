/- Lists that rise: the plain law. -/
import Derived.Test.YtfgmgmnhelodaaaRefRises
namespace Go.Proofs.Ytfgmgmnhelodaaa
set_option linter.unusedVariables false
set_option linter.unusedSimpArgs false
open Go.RowKit
def risesFrom : Option Nat → List Nat → Bool
  | _, [] => true
  | none, x :: l => risesFrom (some x) l
  | some t, x :: l => decide (t < x) && risesFrom (some x) l
theorem risesFrom_snoc (xs : List Nat) (t y : Nat) : ∀ last, risesFrom last ((xs ++ [t]) ++ [y]) = (risesFrom last (xs ++ [t]) && decide (t < y)) := by
  induction xs with
  | nil =>
    intro last
    rcases last with _ | s <;> simp [risesFrom]
  | cons x xs ih =>
    intro last
    rcases last with _ | s
    · simp only [List.cons_append, risesFrom]
      exact ih (some x)
    · simp only [List.cons_append, risesFrom]
      rw [ih (some x), Bool.and_assoc]
theorem rises_take (l : List Nat) (k j : Nat) (hk : k < l.length) (hj : k = j + 1) : risesFrom none (l.take (k + 1)) = (risesFrom none (l.take k) && decide (l.getD j 0 < l.getD k 0)) := by
  have e1 : l.take (k + 1) = l.take k ++ [l.getD k 0] := by
    rw [List.take_succ_eq_append_getElem hk]
    simp [List.getElem?_eq_getElem hk]
  have e2 : l.take k = l.take j ++ [l.getD j 0] := by
    subst hj
    rw [List.take_succ_eq_append_getElem (by omega)]
    simp [List.getElem?_eq_getElem (show j < l.length by omega)]
  rw [e1, e2, risesFrom_snoc]
/-- what is got rises -/
theorem riseAt_rises : ∀ (n : Nat) (bs : List UInt8) (last : Option Nat) (a : Nat) (l : List Nat) (e : Nat), riseAt bs n last a = some (l, e) → risesFrom last l = true
  | 0, bs, last, a, l, e, h => by
    simp only [riseAt, Option.some.injEq, Prod.mk.injEq] at h
    rw [← h.1]
    cases last <;> rfl
  | n + 1, bs, last, a, l, e, h => by
    rw [rise_step] at h
    rcases hG : getAt bs (a : Int) with _ | ⟨d, a2⟩
    · rw [hG] at h; cases h
    · rw [hG] at h
      simp only at h
      rcases last with _ | t
      · simp only at h
        rcases hR : riseAt bs n (some d) a2 with _ | ⟨l2, e2⟩
        · rw [hR] at h; cases h
        · rw [hR] at h
          simp only [Option.map_some, Option.some.injEq, Prod.mk.injEq] at h
          rw [← h.1, risesFrom]
          exact riseAt_rises n bs _ _ _ _ hR
      · simp only at h
        split at h
        · rcases hR : riseAt bs n (some (t + d + 1)) a2 with _ | ⟨l2, e2⟩
          · rw [hR] at h; cases h
          · rw [hR] at h
            simp only [Option.map_some, Option.some.injEq, Prod.mk.injEq] at h
            rw [← h.1, risesFrom, riseAt_rises n bs _ _ _ _ hR]
            simp
            omega
        · cases h
theorem getRise_rises {bs : List UInt8} {i most : Int} {l : List Nat} {e : Nat} (h : getRise bs i most = some (l, e)) : risesFrom none l = true := by
  obtain ⟨n, a, _, _, _, _, h2⟩ := getRise_some h
  exact riseAt_rises _ _ _ _ _ _ h2
def nextOf : Option Nat → Nat
  | none => 0
  | some t => (t + 1) % 18446744073709551616
theorem riseAt_enc (more : List UInt8) : ∀ (l : List Nat) (pre : List UInt8) (last : Option Nat), (∀ x ∈ l, x < 18446744073709551616) → risesFrom last l = true →
    riseAt (pre ++ (encAll (deltas (nextOf last) l) ++ more)) l.length last pre.length = some (l, pre.length + (encAll (deltas (nextOf last) l)).length)
  | [], pre, last, _, _ => by simp [riseAt, deltas, encAll]
  | x :: l, pre, last, hlt, hr => by
    have hx := hlt x (by simp)
    have hl : ∀ y ∈ l, y < 18446744073709551616 := fun y hy => hlt y (by simp [hy])
    rw [List.length_cons, rise_step, deltas, encAll]
    obtain ⟨d, hd⟩ : ∃ d, (x + 18446744073709551616 - nextOf last) % 18446744073709551616 = d := ⟨_, rfl⟩
    rw [hd]
    have hdl : d < 18446744073709551616 := by rw [← hd]; exact Nat.mod_lt _ (by decide)
    have hg := getAt_enc pre (encAll (deltas ((x + 1) % 18446744073709551616) l) ++ more) d hdl
    rw [List.append_assoc, hg]
    simp only
    have ih := riseAt_enc more l (pre ++ enc d) (some x) hl
    rw [List.append_assoc, List.length_append] at ih
    simp only [nextOf] at ih
    rcases last with _ | t
    · have hdx : d = x := by rw [← hd]; simp only [nextOf]; omega
      simp only
      have ih' := ih (by simpa [risesFrom] using hr)
      rw [hdx] at ih' ⊢
      rw [ih']
      simp only [Option.map_some, List.length_append, Option.some.injEq, Prod.mk.injEq, true_and]
      omega
    · have hr' : t < x ∧ risesFrom (some x) l = true := by simpa [risesFrom] using hr
      have htd : t + d + 1 = x := by rw [← hd]; simp only [nextOf]; omega
      simp only [htd, if_pos hx]
      rw [ih hr'.2]
      simp only [Option.map_some, List.length_append, Option.some.injEq, Prod.mk.injEq, true_and]
      omega
theorem encAll_ge : ∀ (l : List Nat), l.length ≤ (encAll l).length
  | [] => by simp [encAll]
  | v :: l => by
    have h1 := enc_pos v
    have h2 := encAll_ge l
    simp only [encAll, List.length_append, List.length_cons]
    omega
theorem getRise_enc (bs more : List UInt8) (l : List Nat) (hlt : ∀ x ∈ l, x < 18446744073709551616) (hlen : l.length < 18446744073709551616) (hr : risesFrom none l = true) :
    getRise (bs ++ (encRise l ++ more)) (bs.length : Int) (l.length : Int) = some (l, bs.length + (encRise l).length) := by
  have h := getAt_enc bs (encAll (deltas 0 l) ++ more) l.length hlen
  have h2 := riseAt_enc more l (bs ++ enc l.length) none hlt hr
  have h3 := encAll_ge (deltas 0 l)
  rw [deltas_length] at h3
  unfold getRise
  rw [show encRise l ++ more = enc l.length ++ (encAll (deltas 0 l) ++ more) by simp [encRise], h]
  simp only
  rw [if_neg (by simp only [List.length_append]; omega)]
  simp only [nextOf, List.length_append, List.append_assoc] at h2
  rw [h2]
  simp only [encRise, List.length_append, Option.some.injEq, Prod.mk.injEq, true_and]
  omega
end Go.Proofs.Ytfgmgmnhelodaaa
