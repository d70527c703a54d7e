/- Without the last byte: the plain law. -/
import Derived.Test.YtfgmgmnhelodaaaVintListsW
namespace Go.Proofs.Ytfgmgmnhelodaaa
set_option linter.unusedVariables false
set_option linter.unusedSimpArgs false
open Go.RowKit
theorem getAt_short (pre : List UInt8) (v : Nat) (h : v < 18446744073709551616) : getAt (pre ++ (enc v).dropLast) (pre.length : Int) = none := by
  have h1 := dec10_enc (v := v) [] h
  rw [List.append_nil] at h1
  have h2 := dec_short 10 _ _ _ ((enc v).length - 1) h1 (by have := enc_pos v; omega)
  rw [getAt_nat, List.drop_left, List.dropLast_eq_take, h2]
  rfl
theorem getAt_short0 (v : Nat) (h : v < 18446744073709551616) : getAt (enc v).dropLast 0 = none := by
  have := getAt_short [] v h
  simpa using this
theorem getAt_enc0 (r : List UInt8) (v : Nat) (h : v < 18446744073709551616) : getAt (enc v ++ r) 0 = some (v, (enc v).length) := by
  have := getAt_enc [] r v h
  simpa using this
theorem getText_short (s : List UInt8) (h : s.length < 18446744073709551616) : getText (encText s).dropLast 0 (s.length : Int) = none := by
  unfold getText encText
  rcases hs : s with _ | ⟨x, r⟩
  · rw [List.append_nil, getAt_short0 _ (by decide)]
  · rw [List.dropLast_append_of_ne_nil (by simp), ← hs, getAt_enc0 _ _ h]
    simp only
    rw [if_pos]
    refine .inr (.inr ?_)
    rw [List.length_append, List.length_dropLast, hs]
    simp
theorem encAll_ne (d : Nat) (ds : List Nat) : encAll (d :: ds) ≠ [] := by
  intro h
  have h1 := congrArg List.length h
  have h2 := enc_pos d
  simp only [encAll, List.length_append, List.length_nil] at h1
  omega
theorem riseAt_short : ∀ (l : List Nat) (pre : List UInt8) (last : Option Nat), (∀ d ∈ l, d < 18446744073709551616) → l ≠ [] → riseAt (pre ++ (encAll l).dropLast) l.length last pre.length = none
  | [], _, _, _, h => absurd rfl h
  | [d], pre, last, hlt, _ => by
    rw [List.length_cons, rise_step, encAll, encAll, List.append_nil, getAt_short pre d (hlt d (by simp))]
  | d :: d2 :: l, pre, last, hlt, _ => by
    have hg := getAt_enc pre (encAll (d2 :: l)).dropLast d (hlt d (by simp))
    have he : (encAll (d :: d2 :: l)).dropLast = enc d ++ (encAll (d2 :: l)).dropLast := by
      rw [show encAll (d :: d2 :: l) = enc d ++ encAll (d2 :: l) from rfl, List.dropLast_append_of_ne_nil (encAll_ne _ _)]
    rw [List.length_cons, rise_step, he, hg]
    have ih := fun last' => riseAt_short (d2 :: l) (pre ++ enc d) last' (fun x hx => hlt x (by simp only [List.mem_cons] at hx ⊢; exact .inr hx)) (by simp)
    simp only [List.append_assoc, List.length_append] at ih
    rcases last with _ | t
    · simp only
      rw [ih]
      rfl
    · simp only
      split
      · rw [ih]; rfl
      · rfl
theorem getRise_short (l : List Nat) (h : l.length < 18446744073709551616) : getRise (encRise l).dropLast 0 (l.length : Int) = none := by
  unfold getRise encRise
  rcases hs : l with _ | ⟨x, r⟩
  · rw [deltas, encAll, List.append_nil, getAt_short0 _ (by decide)]
  · have hne : deltas 0 l ≠ [] := by rw [hs, deltas]; simp
    have hne2 : encAll (deltas 0 l) ≠ [] := by
      rcases hd : deltas 0 l with _ | ⟨d, ds⟩
      · exact absurd hd hne
      · exact encAll_ne _ _
    rw [← hs, List.dropLast_append_of_ne_nil hne2, getAt_enc0 _ _ h]
    simp only
    have := riseAt_short (deltas 0 l) (enc l.length) none (deltas_lt l 0) hne
    rw [deltas_length] at this
    rw [this]
    simp
end Go.Proofs.Ytfgmgmnhelodaaa
