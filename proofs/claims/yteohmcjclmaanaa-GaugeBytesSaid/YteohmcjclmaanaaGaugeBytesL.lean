/- A gauge's bytes: the plain law. -/
import Derived.Test.YteohmcjclmaanaaGaugeBase
namespace Go.Proofs.Yteohmcjclmaanaa
set_option linter.unusedVariables false
set_option linter.unusedSimpArgs false
open Go.RowKit
/-- the first k bytes of a number, the least first -/
def leN (k v : Nat) : List UInt8 := (List.range k).map fun i => UInt8.ofNat (v / 2 ^ (8 * i) % 256)
theorem leN_length (k v : Nat) : (leN k v).length = k := by simp [leN]
theorem leN_zero (v : Nat) : leN 0 v = [] := rfl
theorem leN_succ (k v : Nat) : leN (k + 1) v = leN k v ++ [UInt8.ofNat (v / 2 ^ (8 * k) % 256)] := by simp [leN, List.range_succ]
/-- the number of the first k bytes -/
def numN : Nat → List UInt8 → Nat
  | 0, _ => 0
  | k + 1, l => numN k l + (l.getD k 0).toNat * 2 ^ (8 * k)
theorem numN_lt (k : Nat) (l : List UInt8) : numN k l < 2 ^ (8 * k) := by
  induction k with
  | zero => simp [numN]
  | succ k ih =>
    have hx := (l.getD k 0).toNat_lt
    have h : (l.getD k 0).toNat * 2 ^ (8 * k) ≤ 255 * 2 ^ (8 * k) := Nat.mul_le_mul_right _ (by omega)
    rw [numN, show 8 * (k + 1) = 8 * k + 8 by omega, Nat.pow_add]
    omega
theorem numN_append (k : Nat) (a b : List UInt8) (h : k ≤ a.length) : numN k (a ++ b) = numN k a := by
  induction k with
  | zero => rfl
  | succ k ih =>
    rw [numN, numN, ih (by omega)]
    congr 2
    rw [List.getD_eq_getElem?_getD, List.getD_eq_getElem?_getD, List.getElem?_append_left (by omega)]
theorem numN_le (k v : Nat) : numN k (leN k v) = v % 2 ^ (8 * k) := by
  induction k with
  | zero => simp [numN, Nat.mod_one]
  | succ k ih =>
    rw [numN, leN_succ, numN_append _ _ _ (by rw [leN_length]; omega), ih]
    have e : ((leN k v ++ [UInt8.ofNat (v / 2 ^ (8 * k) % 256)]).getD k 0).toNat = v / 2 ^ (8 * k) % 256 := by
      rw [List.getD_eq_getElem?_getD, List.getElem?_append_right (by rw [leN_length]; omega), leN_length, Nat.sub_self]
      simp
    rw [e, show 8 * (k + 1) = 8 * k + 8 by omega, Nat.pow_add, Nat.mod_mul]
    rw [show (2 : Nat) ^ 8 = 256 by rfl, Nat.mul_comm (2 ^ (8 * k))]
/-- a gauge's bytes -/
def encG (g : G4) : List UInt8 := enc g.nans ++ enc g.n ++ (if g.n = 0 then [] else leN 8 g.lo ++ leN 8 g.hi)
/-- what is read -/
def getG (bs : List UInt8) (i : Int) : Option (G4 × Nat) :=
  match getAt bs i with
  | none => none
  | some p => match getAt bs (p.2 : Int) with
    | none => none
    | some q => if q.1 = 0 then some (⟨0, p.1, 0, 0⟩, q.2)
      else if bs.length < q.2 + 16 then none
      else if checkG ⟨q.1, p.1, numN 8 (bs.drop q.2), numN 8 (bs.drop (q.2 + 8))⟩ = true then some (⟨q.1, p.1, numN 8 (bs.drop q.2), numN 8 (bs.drop (q.2 + 8))⟩, q.2 + 16) else none
section
variable {bs : List UInt8} {i : Int} {m a n b : Nat}
theorem getG_none1 (h : getAt bs i = none) : getG bs i = none := by unfold getG; rw [h]
theorem getG_none2 (h : getAt bs i = some (m, a)) (h2 : getAt bs (a : Int) = none) : getG bs i = none := by unfold getG; rw [h]; simp only; rw [h2]
theorem getG_zero (h : getAt bs i = some (m, a)) (h2 : getAt bs (a : Int) = some (0, b)) : getG bs i = some (⟨0, m, 0, 0⟩, b) := by unfold getG; rw [h]; simp only; rw [h2]; simp
theorem getG_short (h : getAt bs i = some (m, a)) (h2 : getAt bs (a : Int) = some (n, b)) (hn : n ≠ 0) (hl : bs.length < b + 16) : getG bs i = none := by
  unfold getG; rw [h]; simp only; rw [h2]; simp only; rw [if_neg hn, if_pos hl]
theorem getG_bad (h : getAt bs i = some (m, a)) (h2 : getAt bs (a : Int) = some (n, b)) (hn : n ≠ 0) (hl : ¬ bs.length < b + 16) (hc : checkG ⟨n, m, numN 8 (bs.drop b), numN 8 (bs.drop (b + 8))⟩ = false) : getG bs i = none := by
  unfold getG; rw [h]; simp only; rw [h2]; simp only; rw [if_neg hn, if_neg hl, if_neg (by rw [hc]; decide)]
theorem getG_good (h : getAt bs i = some (m, a)) (h2 : getAt bs (a : Int) = some (n, b)) (hn : n ≠ 0) (hl : ¬ bs.length < b + 16) (hc : checkG ⟨n, m, numN 8 (bs.drop b), numN 8 (bs.drop (b + 8))⟩ = true) : getG bs i = some (⟨n, m, numN 8 (bs.drop b), numN 8 (bs.drop (b + 8))⟩, b + 16) := by
  unfold getG; rw [h]; simp only; rw [h2]; simp only; rw [if_neg hn, if_neg hl, if_pos hc]
end
theorem encG_length (g : G4) (h : g.wf) : (encG g).length ≤ 36 := by
  obtain ⟨h1, h2, _⟩ := h
  have a := enc_le10 h1
  have b := enc_le10 h2
  unfold encG
  split <;> simp [leN_length] <;> omega
theorem drop_appL {α : Type} (a b : List α) (n : Nat) (h : a.length = n) : (a ++ b).drop n = b := by subst h; simp
/-- what is put is got -/
theorem get_put (pre : List UInt8) (g : G4) (hw : g.wf) (hc : checkG g = true) : getG (pre ++ encG g) (pre.length : Int) = some (g, (pre ++ encG g).length) := by
  obtain ⟨n, m, lo, hi⟩ := g
  obtain ⟨h1, h2, h3, h4⟩ := hw
  simp only at h1 h2 h3 h4
  obtain ⟨T, hT⟩ : ∃ T, (if n = 0 then [] else leN 8 lo ++ leN 8 hi) = T := ⟨_, rfl⟩
  have e0 : encG ⟨n, m, lo, hi⟩ = enc m ++ (enc n ++ T) := by simp [encG, hT]
  rw [e0]
  have g1 := getAt_enc pre (enc n ++ T) m h2
  have g2 := getAt_enc (pre ++ enc m) T n h1
  have e1 : pre ++ enc m ++ (enc n ++ T) = pre ++ (enc m ++ (enc n ++ T)) := by simp
  rw [e1, List.length_append] at g2
  have hlen : (pre ++ (enc m ++ (enc n ++ T))).length = pre.length + (enc m).length + (enc n).length + T.length := by simp; omega
  by_cases h0 : n = 0
  · subst h0
    rw [if_pos rfl] at hT
    subst hT
    have hz : lo = 0 ∧ hi = 0 := by simpa [checkG] using hc
    obtain ⟨rfl, rfl⟩ := hz
    rw [getG_zero g1 g2, hlen]
    simp
  · rw [if_neg h0] at hT
    have hTl : T.length = 16 := by rw [← hT]; simp [leN_length]
    have d1 : (pre ++ (enc m ++ (enc n ++ T))).drop (pre.length + (enc m).length + (enc n).length) = leN 8 lo ++ leN 8 hi := by
      have e2 : pre ++ (enc m ++ (enc n ++ T)) = (pre ++ enc m ++ enc n) ++ T := by simp
      rw [e2, drop_appL _ _ _ (by simp; omega), hT]
    have d2 : (pre ++ (enc m ++ (enc n ++ T))).drop (pre.length + (enc m).length + (enc n).length + 8) = leN 8 hi := by
      have e2 : pre ++ (enc m ++ (enc n ++ T)) = (pre ++ enc m ++ enc n ++ leN 8 lo) ++ leN 8 hi := by rw [← hT]; simp
      rw [e2, drop_appL _ _ _ (by simp [leN_length]; omega)]
    have v1 : numN 8 (leN 8 lo ++ leN 8 hi) = lo := by rw [numN_append _ _ _ (by rw [leN_length]; exact Nat.le_refl _), numN_le]; omega
    have v2 : numN 8 (leN 8 hi) = hi := by rw [numN_le]; omega
    have h := getG_good g1 g2 h0 (by rw [hlen]; omega) (by rw [d1, d2, v1, v2]; exact hc)
    rw [h, d1, d2, v1, v2, hlen, hTl]
theorem getG_wf {bs : List UInt8} {i : Int} {g : G4} {e : Nat} (h : getG bs i = some (g, e)) : g.wf ∧ e ≤ bs.length := by
  rcases h1 : getAt bs i with _ | ⟨m, a⟩
  · rw [getG_none1 h1] at h; cases h
  · rcases h2 : getAt bs (a : Int) with _ | ⟨n, b⟩
    · rw [getG_none2 h1 h2] at h; cases h
    · obtain ⟨_, _, k3, k4, _⟩ := getAt_bounds h1
      obtain ⟨_, _, k7, k8, _⟩ := getAt_bounds h2
      by_cases hn : n = 0
      · subst hn
        rw [getG_zero h1 h2] at h
        simp only [Option.some.injEq, Prod.mk.injEq] at h
        obtain ⟨rfl, rfl⟩ := h
        exact ⟨⟨k8, k4, by simp, by simp⟩, k7⟩
      · by_cases hl : bs.length < b + 16
        · rw [getG_short h1 h2 hn hl] at h; cases h
        · rcases hc : checkG ⟨n, m, numN 8 (bs.drop b), numN 8 (bs.drop (b + 8))⟩ with _ | _
          · rw [getG_bad h1 h2 hn hl hc] at h; cases h
          · rw [getG_good h1 h2 hn hl hc] at h
            simp only [Option.some.injEq, Prod.mk.injEq] at h
            obtain ⟨rfl, rfl⟩ := h
            exact ⟨⟨k8, k4, numN_lt 8 _, numN_lt 8 _⟩, by omega⟩
end Go.Proofs.Yteohmcjclmaanaa
