/- What is got is put as just these bytes: the plain law. -/
import Derived.Test.YtfgmgmnhelodaaaVintShortW
import Derived.Test.YtfgmgmnhelodaaaVintIntsW
import Derived.Test.YtfgmgmnhelodaaaPlace
namespace Go.Proofs.Ytfgmgmnhelodaaa
set_option linter.unusedVariables false
set_option linter.unusedSimpArgs false
open Go.RowKit
theorem getAt_back {bs : List UInt8} {k v e : Nat} (h : getAt bs (k : Int) = some (v, e)) : k < e ∧ e ≤ bs.length ∧ v < 18446744073709551616 ∧ (bs.drop k).take (e - k) = enc v := by
  obtain ⟨_, h1, h2, h3, h4⟩ := getAt_bounds h
  rw [Int.toNat_natCast] at h4
  exact ⟨by omega, h2, h3, h4.symm⟩
theorem take_take_drop (bs : List UInt8) (k a e : Nat) (h1 : k ≤ a) (h2 : a ≤ e) : (bs.drop k).take (e - k) = (bs.drop k).take (a - k) ++ (bs.drop a).take (e - a) := by
  rw [show e - k = (a - k) + (e - a) by omega, List.take_add, List.drop_drop]
  congr 3
  omega
theorem getText_back {bs s : List UInt8} {k e : Nat} {most : Int} (h : getText bs (k : Int) most = some (s, e)) : k < e ∧ e ≤ bs.length ∧ s.length < 18446744073709551616 ∧ (s.length : Int) ≤ most ∧ (bs.drop k).take (e - k) = encText s := by
  obtain ⟨n, a, hG, h1, h2, h3, hs, he⟩ := getText_some h
  obtain ⟨g1, g2, g3, g4⟩ := getAt_back hG
  have hl : s.length = n := by rw [hs, List.length_take, List.length_drop]; omega
  refine ⟨by omega, by omega, by omega, by omega, ?_⟩
  rw [take_take_drop bs k a e (by omega) (by omega), g4, he, Nat.add_sub_cancel_left, ← hs, encText, hl]
theorem riseAt_back : ∀ (n : Nat) (bs : List UInt8) (last : Option Nat) (a : Nat) (l : List Nat) (e : Nat), a ≤ bs.length → (∀ t, last = some t → t < 18446744073709551616) → riseAt bs n last a = some (l, e) →
    l.length = n ∧ a ≤ e ∧ e ≤ bs.length ∧ (∀ x ∈ l, x < 18446744073709551616) ∧ (bs.drop a).take (e - a) = encAll (deltas (nextOf last) l)
  | 0, bs, last, a, l, e, ha, ht, h => by
    simp only [riseAt, Option.some.injEq, Prod.mk.injEq] at h
    obtain ⟨rfl, rfl⟩ := h
    exact ⟨rfl, Nat.le_refl _, ha, by simp, by simp [deltas, encAll]⟩
  | n + 1, bs, last, a, l, e, ha, ht, h => by
    rw [rise_step] at h
    rcases hG : getAt bs (a : Int) with _ | ⟨d, a2⟩
    · rw [hG] at h; cases h
    · obtain ⟨g1, g2, g3, g4⟩ := getAt_back hG
      rw [hG] at h
      simp only at h
      have key : ∀ (x : Nat) (l2 : List Nat), x < 18446744073709551616 → (x + 18446744073709551616 - nextOf last) % 18446744073709551616 = d → riseAt bs n (some x) a2 = some (l2, e) →
          (x :: l2).length = n + 1 ∧ a ≤ e ∧ e ≤ bs.length ∧ (∀ y ∈ x :: l2, y < 18446744073709551616) ∧ (bs.drop a).take (e - a) = encAll (deltas (nextOf last) (x :: l2)) := by
        intro x l2 hx hd hR
        obtain ⟨r1, r2, r3, r4, r5⟩ := riseAt_back n bs (some x) a2 l2 e g2 (fun t h => by injection h with h; omega) hR
        refine ⟨by rw [List.length_cons, r1], by omega, r3, ?_, ?_⟩
        · intro y hy
          rcases List.mem_cons.1 hy with rfl | hy
          · exact hx
          · exact r4 y hy
        · rw [take_take_drop bs a a2 e (by omega) r2, g4, r5, deltas, encAll, hd]
          rfl
      rcases last with _ | t
      · simp only at h
        rcases hR : riseAt bs n (some d) a2 with _ | ⟨l2, e2⟩
        · rw [hR] at h; cases h
        · rw [hR] at h
          simp only [Option.map_some, Option.some.injEq, Prod.mk.injEq] at h
          obtain ⟨rfl, rfl⟩ := h
          exact key d l2 g3 (by simp only [nextOf]; omega) hR
      · have htl := ht t rfl
        simp only at h
        split at h
        · rename_i hlt
          rcases hR : riseAt bs n (some (t + d + 1)) a2 with _ | ⟨l2, e2⟩
          · rw [hR] at h; cases h
          · rw [hR] at h
            simp only [Option.map_some, Option.some.injEq, Prod.mk.injEq] at h
            obtain ⟨rfl, rfl⟩ := h
            exact key (t + d + 1) l2 hlt (by simp only [nextOf]; omega) hR
        · cases h
theorem getRise_back {bs : List UInt8} {l : List Nat} {k e : Nat} {most : Int} (h : getRise bs (k : Int) most = some (l, e)) : k < e ∧ e ≤ bs.length ∧ (l.length : Int) ≤ most ∧ (∀ x ∈ l, x < 18446744073709551616) ∧ (bs.drop k).take (e - k) = encRise l := by
  obtain ⟨n, a, hG, h1, h2, h3, hR⟩ := getRise_some h
  obtain ⟨g1, g2, g3, g4⟩ := getAt_back hG
  obtain ⟨r1, r2, r3, r4, r5⟩ := riseAt_back n bs none a l e g2 (fun t h => by cases h) hR
  refine ⟨by omega, r3, by omega, r4, ?_⟩
  rw [take_take_drop bs k a e (by omega) r2, g4, r5, encRise, r1]
  rfl
theorem vputInt_nil (v : Nat) (x : Nat) (w : World) (hv : v < 18446744073709551616) (hx : (enc v).length = x) :
    Calls Try.prog 18 #[.slice none 0 0, .int .i64 (zag v)] w fun e w' => ∃ A' c', e = .returned (.slice A' x c') ∧ OwnB w' w.heap.size (.slice A' x c') (enc v) ∧ Below w.heap.size w w' := by
  have h0 : -9223372036854775808 ≤ zag v ∧ zag v ≤ 9223372036854775807 := by unfold zag; split <;> omega
  have := vputInt_n none [] 0 0 (zag v) x w rfl h0.1 h0.2 (by rw [zig_zag]; omega) (by omega) (Nat.le_refl _) (Reads.nil _ _)
  rw [zig_zag] at this
  simpa using this
theorem place_n (v n : Int) (k : Nat) (w : World) (h0 : -9223372036854775808 ≤ v) (h1 : v ≤ 9223372036854775807) (hn : 0 < n) (hn1 : n ≤ 4611686018427387904) (hk : v % n = (k : Int)) :
    Calls Try.prog 32 #[.int .i64 v, .int .i64 n] w fun e w' => e = .returned (.int .i64 (k : Int)) ∧ w = w' := by
  have := place_any v n w h0 h1 hn hn1
  rw [hk] at this
  exact this
end Go.Proofs.Ytfgmgmnhelodaaa
