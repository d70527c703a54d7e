/- Gauges as plain numbers: whether one may be, what two make, in any order. No program in sight. -/
import Derived.Test.YteohmcjclmaanaaFloReal
namespace Go.Proofs.Yteohmcjclmaanaa
set_option linter.unusedVariables false
set_option linter.unusedSimpArgs false
structure G4 where
  n : Nat
  nans : Nat
  lo : Nat
  hi : Nat
deriving DecidableEq
def G4.wf (g : G4) : Prop := g.n < 18446744073709551616 ∧ g.nans < 18446744073709551616 ∧ g.lo < 18446744073709551616 ∧ g.hi < 18446744073709551616
def satN (a b : Nat) : Nat := if 18446744073709551616 ≤ a + b then 18446744073709551615 else a + b
def checkG (g : G4) : Bool := if g.n = 0 then decide (g.lo = 0 ∧ g.hi = 0) else !nanB g.lo && !nanB g.hi && !lessB g.hi g.lo
def minF (a b : Nat) : Nat := if lessB b a = true then b else a
def maxF (a b : Nat) : Nat := if lessB a b = true then b else a
def mergeG (a b : G4) : G4 :=
  ⟨satN a.n b.n, satN a.nans b.nans, if a.n = 0 then b.lo else if b.n = 0 then a.lo else minF a.lo b.lo, if a.n = 0 then b.hi else if b.n = 0 then a.hi else maxF a.hi b.hi⟩
def zeroG : G4 := ⟨0, 0, 0, 0⟩
def oneG (x : Nat) : G4 := ⟨1, 0, x, x⟩
def nanG : G4 := ⟨0, 1, 0, 0⟩
def addG (g : G4) (x : Nat) : G4 := if nanB x = true then ⟨g.n, satN g.nans 1, g.lo, g.hi⟩ else mergeG g (oneG x)
theorem sat_lt (a b : Nat) : satN a b < 18446744073709551616 := by unfold satN; split <;> omega
theorem sat_comm (a b : Nat) : satN a b = satN b a := by unfold satN; rw [Nat.add_comm]
theorem sat_assoc (a b c : Nat) : satN (satN a b) c = satN a (satN b c) := by unfold satN; repeat (first | split | omega)
theorem sat_zero (a : Nat) (h : a < 18446744073709551616) : satN a 0 = a := by unfold satN; rw [if_neg (by omega)]; rfl
theorem zero_sat (a : Nat) (h : a < 18446744073709551616) : satN 0 a = a := by rw [sat_comm, sat_zero a h]
theorem sat_eq_zero (a b : Nat) : satN a b = 0 ↔ a = 0 ∧ b = 0 := by unfold satN; split <;> omega
/-! ### the lesser and the greater -/
/-- a float that is none of the NaNs -/
def real (x : Nat) : Prop := x < 18446744073709551616 ∧ nanB x = false
theorem less_real {a b : Nat} (ha : real a) (hb : real b) : lessB a b = true ↔ keyN a < keyN b := by
  rw [less_iff]
  exact ⟨fun h => h.2.2, fun h => ⟨ha.2, hb.2, h⟩⟩
theorem key_inj {a b : Nat} (ha : real a) (hb : real b) (h : keyN a = keyN b) : a = b := by
  have := congrArg ofN h
  rwa [of_key a ha.1, of_key b hb.1] at this
theorem min_real {a b : Nat} (ha : real a) (hb : real b) : real (minF a b) := by unfold minF; split <;> assumption
theorem max_real {a b : Nat} (ha : real a) (hb : real b) : real (maxF a b) := by unfold maxF; split <;> assumption
theorem min_key {a b : Nat} (ha : real a) (hb : real b) : keyN (minF a b) = min (keyN a) (keyN b) := by
  unfold minF
  split
  · rename_i h
    rw [less_real hb ha] at h
    omega
  · rename_i h
    rw [less_real hb ha] at h
    omega
theorem max_key {a b : Nat} (ha : real a) (hb : real b) : keyN (maxF a b) = max (keyN a) (keyN b) := by
  unfold maxF
  split
  · rename_i h
    rw [less_real ha hb] at h
    omega
  · rename_i h
    rw [less_real ha hb] at h
    omega
theorem min_comm' {a b : Nat} (ha : real a) (hb : real b) : minF a b = minF b a :=
  key_inj (min_real ha hb) (min_real hb ha) (by rw [min_key ha hb, min_key hb ha]; omega)
theorem max_comm' {a b : Nat} (ha : real a) (hb : real b) : maxF a b = maxF b a :=
  key_inj (max_real ha hb) (max_real hb ha) (by rw [max_key ha hb, max_key hb ha]; omega)
theorem min_assoc' {a b c : Nat} (ha : real a) (hb : real b) (hc : real c) : minF (minF a b) c = minF a (minF b c) :=
  key_inj (min_real (min_real ha hb) hc) (min_real ha (min_real hb hc)) (by rw [min_key (min_real ha hb) hc, min_key ha hb, min_key ha (min_real hb hc), min_key hb hc]; omega)
theorem max_assoc' {a b c : Nat} (ha : real a) (hb : real b) (hc : real c) : maxF (maxF a b) c = maxF a (maxF b c) :=
  key_inj (max_real (max_real ha hb) hc) (max_real ha (max_real hb hc)) (by rw [max_key (max_real ha hb) hc, max_key ha hb, max_key ha (max_real hb hc), max_key hb hc]; omega)
/-! ### a gauge that may be -/
/-- in one form of words: noughts where none is known, else two floats in order -/
def okG (g : G4) : Prop := g.wf ∧ (g.n = 0 ∧ g.lo = 0 ∧ g.hi = 0 ∨ g.n ≠ 0 ∧ real g.lo ∧ real g.hi ∧ keyN g.lo ≤ keyN g.hi)
theorem check_iff (g : G4) (h : g.wf) : checkG g = true ↔ okG g := by
  obtain ⟨h1, h2, h3, h4⟩ := h
  unfold checkG okG
  by_cases h0 : g.n = 0
  · rw [if_pos h0]
    simp only [decide_eq_true_eq, h0, true_and, ne_eq, not_true_eq_false, false_and, or_false]
    exact ⟨fun h => ⟨⟨h1, h2, h3, h4⟩, h⟩, fun h => h.2⟩
  · rw [if_neg h0]
    have hl : ∀ (a b : real g.lo ∧ real g.hi), (lessB g.hi g.lo = false ↔ keyN g.lo ≤ keyN g.hi) := by
      intro a _
      rw [← Bool.not_eq_true, less_real a.2 a.1]
      omega
    simp only [Bool.and_eq_true, Bool.not_eq_true']
    constructor
    · rintro ⟨⟨a, b⟩, c⟩
      have hr : real g.lo ∧ real g.hi := ⟨⟨h3, a⟩, ⟨h4, b⟩⟩
      exact ⟨⟨h1, h2, h3, h4⟩, .inr ⟨h0, hr.1, hr.2, (hl hr hr).1 c⟩⟩
    · rintro ⟨_, h | ⟨_, a, b, c⟩⟩
      · exact absurd h.1 h0
      · exact ⟨⟨a.2, b.2⟩, (hl ⟨a, b⟩ ⟨a, b⟩).2 c⟩
theorem ok_zero : okG zeroG := ⟨by unfold G4.wf zeroG; simp, .inl ⟨rfl, rfl, rfl⟩⟩
theorem ok_one {x : Nat} (hx : real x) : okG (oneG x) := ⟨⟨(by decide : 1 < 18446744073709551616), (by decide : 0 < 18446744073709551616), hx.1, hx.1⟩, .inr ⟨by simp [oneG], hx, hx, Nat.le_refl _⟩⟩
theorem ok_merge {a b : G4} (ha : okG a) (hb : okG b) : okG (mergeG a b) := by
  obtain ⟨⟨a1, a2, a3, a4⟩, ha⟩ := ha
  obtain ⟨⟨b1, b2, b3, b4⟩, hb⟩ := hb
  unfold mergeG okG G4.wf
  simp only
  have s1 := sat_lt a.n b.n
  have s2 := sat_lt a.nans b.nans
  have hz := sat_eq_zero a.n b.n
  rcases ha with ⟨p1, p2, p3⟩ | ⟨p1, p2, p3, p4⟩
  · rw [if_pos p1, if_pos p1]
    refine ⟨⟨s1, s2, b3, b4⟩, ?_⟩
    rcases hb with ⟨q1, q2, q3⟩ | ⟨q1, q2, q3, q4⟩
    · exact .inl ⟨hz.2 ⟨p1, q1⟩, q2, q3⟩
    · exact .inr ⟨fun h => q1 (hz.1 h).2, q2, q3, q4⟩
  · rw [if_neg p1, if_neg p1]
    rcases hb with ⟨q1, q2, q3⟩ | ⟨q1, q2, q3, q4⟩
    · rw [if_pos q1, if_pos q1]
      exact ⟨⟨s1, s2, a3, a4⟩, .inr ⟨fun h => p1 (hz.1 h).1, p2, p3, p4⟩⟩
    · rw [if_neg q1, if_neg q1]
      have r1 := min_real p2 q2
      have r2 := max_real p3 q3
      refine ⟨⟨s1, s2, r1.1, r2.1⟩, .inr ⟨fun h => p1 (hz.1 h).1, r1, r2, ?_⟩⟩
      rw [min_key p2 q2, max_key p3 q3]
      omega
theorem ok_add {g : G4} {x : Nat} (hg : okG g) (hx : x < 18446744073709551616) : okG (addG g x) := by
  unfold addG
  by_cases hn : nanB x = true
  · rw [if_pos hn]
    obtain ⟨⟨a1, a2, a3, a4⟩, ha⟩ := hg
    exact ⟨⟨a1, sat_lt _ _, a3, a4⟩, ha⟩
  · rw [if_neg hn]
    exact ok_merge hg (ok_one ⟨hx, by simpa using hn⟩)
/-- the reference's way to a NaN -/
theorem add_nan {g : G4} (hg : okG g) : mergeG g nanG = ⟨g.n, satN g.nans 1, g.lo, g.hi⟩ := by
  obtain ⟨⟨a1, a2, a3, a4⟩, ha⟩ := hg
  unfold mergeG nanG
  simp only [sat_zero g.n a1, if_true]
  rcases ha with ⟨p1, p2, p3⟩ | ⟨p1, p2, p3, p4⟩
  · rw [if_pos p1, if_pos p1, p2, p3]
  · rw [if_neg p1, if_neg p1]
theorem merge_comm {a b : G4} (ha : okG a) (hb : okG b) : mergeG a b = mergeG b a := by
  obtain ⟨⟨a1, a2, a3, a4⟩, ha⟩ := ha
  obtain ⟨⟨b1, b2, b3, b4⟩, hb⟩ := hb
  unfold mergeG
  rw [sat_comm a.n, sat_comm a.nans]
  rcases ha with ⟨p1, p2, p3⟩ | ⟨p1, p2, p3, p4⟩ <;> rcases hb with ⟨q1, q2, q3⟩ | ⟨q1, q2, q3, q4⟩
  · simp only [p1, q1, if_true, p2, p3, q2, q3]
  · simp only [p1, q1, if_true, if_false]
  · simp only [p1, q1, if_true, if_false]
  · simp only [p1, q1, if_false, min_comm' p2 q2, max_comm' p3 q3]
theorem merge_zero {a : G4} (ha : okG a) : mergeG a zeroG = a := by
  obtain ⟨⟨a1, a2, a3, a4⟩, ha⟩ := ha
  unfold mergeG zeroG
  simp only [sat_zero a.n a1, sat_zero a.nans a2, if_true]
  rcases ha with ⟨p1, p2, p3⟩ | ⟨p1, p2, p3, p4⟩
  · rw [if_pos p1, if_pos p1, ← p2]
    cases a
    simp_all
  · rw [if_neg p1, if_neg p1]
theorem merge_assoc {a b c : G4} (ha : okG a) (hb : okG b) (hc : okG c) : mergeG (mergeG a b) c = mergeG a (mergeG b c) := by
  obtain ⟨⟨a1, a2, a3, a4⟩, ha⟩ := ha
  obtain ⟨⟨b1, b2, b3, b4⟩, hb⟩ := hb
  obtain ⟨⟨c1, c2, c3, c4⟩, hc⟩ := hc
  unfold mergeG
  simp only [sat_eq_zero, sat_assoc]
  rcases ha with ⟨p1, p2, p3⟩ | ⟨p1, p2, p3, p4⟩ <;> rcases hb with ⟨q1, q2, q3⟩ | ⟨q1, q2, q3, q4⟩ <;> rcases hc with ⟨r1, r2, r3⟩ | ⟨r1, r2, r3, r4⟩
  all_goals simp only [p1, q1, r1, if_true, if_false, true_and, and_true, false_and, and_false, and_self]
  · rw [min_assoc' p2 q2 r2, max_assoc' p3 q3 r3]
/-! ### what was added one by one -/
def addAll (g : G4) (l : List Nat) : G4 := l.foldl addG g
theorem add_all_snoc (g : G4) (l : List Nat) (x : Nat) : addAll g (l ++ [x]) = addG (addAll g l) x := by unfold addAll; rw [List.foldl_append]; rfl
theorem ok_add_all {g : G4} (hg : okG g) : ∀ l : List Nat, (∀ x ∈ l, x < 18446744073709551616) → okG (addAll g l) := by
  intro l
  induction l generalizing g with
  | nil => intro _; exact hg
  | cons x l ih =>
    intro h
    exact ih (ok_add hg (h x (List.mem_cons_self ..))) (fun y hy => h y (List.mem_cons_of_mem _ hy))
end Go.Proofs.Yteohmcjclmaanaa
