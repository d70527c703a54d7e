/- What the statement on what lies within a gauge comes to: the walk. -/
import Derived.Test.YteohmcjclmaanaaGaugeNums
namespace Go.Proofs.Yteohmcjclmaanaa
set_option linter.unusedVariables false
set_option linter.unusedSimpArgs false
open Go.RowKit
/-! ### the plain law -/
theorem ok_add_all2 {xs : List Nat} (hx : ∀ n ∈ xs, n < 18446744073709551616) : ∀ j, okG (addAll zeroG (xs.take j)) := fun j =>
  ok_add_all ok_zero _ fun x hxj => hx x (List.mem_of_mem_take hxj)
/-- what is known of all that was added -/
structure Within (g : G4) (l : List Nat) : Prop where
  lo : ∀ x ∈ l, nanB x = false → lessB x g.lo = false
  hi : ∀ x ∈ l, nanB x = false → lessB g.hi x = false
  ends : g.n = 0 ∨ g.lo ∈ l ∧ g.hi ∈ l
  some : ∀ x ∈ l, nanB x = false → g.n ≠ 0
theorem within_nil : Within zeroG [] := ⟨by simp, by simp, .inl rfl, by simp⟩
theorem sat_ne {a b : Nat} (h : b ≠ 0) : satN a b ≠ 0 := fun h' => h ((sat_eq_zero a b).1 h').2
theorem within_add {g : G4} {l : List Nat} {x : Nat} (hg : okG g) (hl : ∀ n ∈ l, n < 18446744073709551616) (hx : x < 18446744073709551616) (h : Within g l) : Within (addG g x) (l ++ [x]) := by
  unfold addG
  by_cases hn : nanB x = true
  · rw [if_pos hn]
    constructor
    · intro y hy hy2
      rcases List.mem_append.1 hy with hy | hy
      · exact h.lo y hy hy2
      · rw [List.mem_singleton] at hy; subst hy; rw [hn] at hy2; cases hy2
    · intro y hy hy2
      rcases List.mem_append.1 hy with hy | hy
      · exact h.hi y hy hy2
      · rw [List.mem_singleton] at hy; subst hy; rw [hn] at hy2; cases hy2
    · rcases h.ends with h0 | ⟨h1, h2⟩
      · exact .inl h0
      · exact .inr ⟨List.mem_append_left _ h1, List.mem_append_left _ h2⟩
    · intro y hy hy2
      rcases List.mem_append.1 hy with hy | hy
      · exact h.some y hy hy2
      · rw [List.mem_singleton] at hy; subst hy; rw [hn] at hy2; cases hy2
  · rw [if_neg hn]
    have hrx : real x := ⟨hx, by simpa using hn⟩
    obtain ⟨n, m, lo, hi⟩ := g
    obtain ⟨⟨g1, g2, g3, g4⟩, hq⟩ := hg
    unfold mergeG oneG
    simp only at hq ⊢
    rcases hq with ⟨rfl, _, _⟩ | ⟨q1, q2, q3, q4⟩
    · have hno : ∀ y ∈ l, nanB y = true := by
        intro y hy
        rcases hny : nanB y with _ | _
        · exact absurd rfl (h.some y hy hny)
        · rfl
      simp only [if_true]
      constructor
      · intro y hy hy2
        rcases List.mem_append.1 hy with hy | hy
        · rw [hno y hy] at hy2; cases hy2
        · rw [List.mem_singleton] at hy; subst hy; exact less_self _
      · intro y hy hy2
        rcases List.mem_append.1 hy with hy | hy
        · rw [hno y hy] at hy2; cases hy2
        · rw [List.mem_singleton] at hy; subst hy; exact less_self _
      · exact .inr ⟨by simp, by simp⟩
      · intro y hy hy2
        show satN 0 1 ≠ 0
        exact sat_ne (b := 1) (by decide)
    · simp only [q1, if_false, Nat.reduceEqDiff]
      have hends : lo ∈ l ∧ hi ∈ l := by
        rcases h.ends with h0 | h0
        · exact absurd h0 q1
        · exact h0
      have r1 := min_real q2 hrx
      have r2 := max_real q3 hrx
      constructor
      · intro y hy hy2
        rcases List.mem_append.1 hy with hy | hy
        · have hry : real y := ⟨hl y hy, hy2⟩
          have := h.lo y hy hy2
          rw [← Bool.not_eq_true, less_real hry q2] at this
          rw [← Bool.not_eq_true, less_real hry r1, min_key q2 hrx]
          omega
        · rw [List.mem_singleton] at hy
          subst hy
          rw [← Bool.not_eq_true, less_real hrx r1, min_key q2 hrx]
          omega
      · intro y hy hy2
        rcases List.mem_append.1 hy with hy | hy
        · have hry : real y := ⟨hl y hy, hy2⟩
          have := h.hi y hy hy2
          rw [← Bool.not_eq_true, less_real q3 hry] at this
          rw [← Bool.not_eq_true, less_real r2 hry, max_key q3 hrx]
          omega
        · rw [List.mem_singleton] at hy
          subst hy
          rw [← Bool.not_eq_true, less_real r2 hrx, max_key q3 hrx]
          omega
      · right
        constructor
        · show (if lessB x lo = true then x else lo) ∈ l ++ [x]
          split
          · simp
          · exact List.mem_append_left _ hends.1
        · show (if lessB hi x = true then x else hi) ∈ l ++ [x]
          split
          · simp
          · exact List.mem_append_left _ hends.2
      · intro y hy hy2
        show satN n 1 ≠ 0
        exact sat_ne (b := 1) (by decide)
theorem within_all {xs : List Nat} (hx : ∀ n ∈ xs, n < 18446744073709551616) : ∀ j, j ≤ xs.length → Within (addAll zeroG (xs.take j)) (xs.take j) := by
  intro j
  induction j with
  | zero => intro _; rw [List.take_zero]; exact within_nil
  | succ j ih =>
    intro hj
    rw [add_all_step zeroG (show j < xs.length by omega), take_snoc (show j < xs.length by omega)]
    exact within_add (ok_add_all2 hx j) (fun n hn => hx n (List.mem_of_mem_take hn)) (getD_lt hx (by omega)) (ih (by omega))
/-- whether an end was met -/
def metB (n e : Nat) (l : List Nat) : Bool := decide (n = 0 ∨ e ∈ l)
theorem met_snoc (n e x : Nat) (l : List Nat) : metB n e (l ++ [x]) = (metB n e l || decide (x = e)) := by
  unfold metB
  rw [Bool.eq_iff_iff]
  simp only [Bool.or_eq_true, decide_eq_true_eq, List.mem_append, List.mem_singleton]
  constructor
  · rintro (h | h | h)
    · exact .inl (.inl h)
    · exact .inl (.inr h)
    · exact .inr h.symm
  · rintro ((h | h) | h)
    · exact .inl h
    · exact .inr (.inl h)
    · exact .inr (.inr h.symm)
theorem met_nan (n e x : Nat) (l : List Nat) (he : n ≠ 0 → nanB e = false) (hx : nanB x = true) : metB n e (l ++ [x]) = metB n e l := by
  rw [met_snoc]
  by_cases hn : n = 0
  · simp [metB, hn]
  · have : ¬ x = e := by rintro rfl; rw [he hn] at hx; cases hx
    simp [this]
/-! ### the walk -/
set_option maxRecDepth 100000 in
set_option maxHeartbeats 3200000 in
theorem gaugeWithin_walk (A : Option Addr) (xs : List Nat) (c : Nat) (w : World) (hr : ReadsN w A xs) (hx : ∀ n ∈ xs, n < 18446744073709551616) (hc : xs.length ≤ c) (hcb : c * 8 ≤ 140737488351232) :
    Calls Try.prog 6 #[.slice A xs.length c] w fun e w' => e = .returned (.bool true) ∧ Below w.heap.size w w' := by
  have HR := Lib.hid hr
  have HX := Lib.hid hx
  have hlen : (xs.length : Int) ≤ 140737488351232 := by omega
  clear hr hx
  by_cases hbig : 100 < xs.length
  · have t1 : (100 : Int) < (xs.length : Int) := by omega
    go_enter Try.func6, Try.ntmps6
    go_wp2_with fail
    refine (awake_any _).mono ?_
    rintro e w1 ⟨rfl, hb1⟩
    go_wp2
    go_ret
    exact ⟨rfl, hb1⟩
  have t1 : (xs.length : Int) ≤ 100 := by omega
  have HW0 := Lib.hid (within_all HX.out)
  have OK0 := Lib.hid (ok_add_all2 HX.out)
  clear hbig
  go_enter Try.func6, Try.ntmps6
  go_wp2
  go_loopw [4] (fun i wr => ∃ (j n m l h : Nat), i = .int .i64 (j : Int) ∧ j ≤ xs.length ∧ Hid (addAll zeroG (xs.take j) = ⟨n, m, l, h⟩) ∧ Hid (GB wr w.heap.size n m l h) ∧ Hid (Below w.heap.size w wr)) (fun i _ => xs.length - (intOf i).toNat)
  case atStart => exact ⟨0, 0, 0, 0, 0, rfl, Nat.zero_le _, rfl, GB.new _ 0 0 0 0, below_new _ _⟩
  case round =>
    obtain ⟨j, n, m, l, h, rfl, hj, HS, HG, HW⟩ := hrel
    have okj := OK0.out j
    rw [HS.out] at okj
    have OKJ := Lib.hid okj
    clear okj
    by_cases hjl : j < xs.length
    · have hxj := getD_lt HX.out hjl
      have hstep := add_all_step zeroG hjl
      rw [HS.out] at hstep
      obtain ⟨x, hxx⟩ : ∃ x, xs.getD j 0 = x := ⟨_, rfl⟩
      obtain ⟨ad, hA, hcx⟩ := (HR.out.below HW.out).at hjl
      rw [hxx] at hxj hstep hcx
      rcases hg' : addG ⟨n, m, l, h⟩ x with ⟨n', m', l', h'⟩
      rw [hg'] at hstep
      have HS' := Lib.hid hstep
      have C1 := Lib.hid (gadd_at OKJ.out.1 hxj hg')
      clear hstep hg' hxx hxj
      subst hA
      have i1 : (j : Int) < (xs.length : Int) := by omega
      obtain ⟨p0, p1, p2, p3⟩ := HG.out.cells
      go_wp2_with fail
      go_still_tail 5, (by kernel_rfl)
      go_wp2_with fail
      refine (C1.out _).mono ?_
      rintro e w4 ⟨rfl, hb6⟩
      replace hb6 := below_drew hb6
      clear p0 p1 p2 p3
      have gg := Lib.hid (HG.out.below hb6)
      have hb7 := below_then HW.out hb6
      obtain ⟨p0, p1, p2, p3⟩ := gg.out.cells
      obtain ⟨q0, q1, q2, q3⟩ := gg.out.marks
      clear hb6 HG HW hcx
      go_wp2
      go_roundw
      case rel => exact ⟨j + 1, n', m', l', h', by go_num, by omega, HS'.out, gg.out.set4, below_set4 hb7 (Nat.le_refl _)⟩
      case measure => simp [intOf]; omega
    · obtain rfl : j = xs.length := by omega
      have hs := HS.out
      rw [List.take_length] at hs
      have hw := HW0.out xs.length (Nat.le_refl _)
      rw [List.take_length, hs] at hw
      have HWI := Lib.hid hw
      have hends : n ≠ 0 → nanB l = false ∧ nanB h = false := by
        intro hn
        obtain ⟨_, hq | ⟨_, hq1, hq2, _⟩⟩ := OKJ.out
        · exact absurd hq.1 hn
        · exact ⟨hq1.2, hq2.2⟩
      have HE := Lib.hid hends
      obtain ⟨b0, hb0⟩ : ∃ b0, ((n : Int) == 0) = b0 := ⟨_, rfl⟩
      have HB0 : Hid (b0 = decide (n = 0)) := by
        show _ = _
        rw [← hb0, Bool.eq_iff_iff, beq_iff_eq, decide_eq_true_eq]
        omega
      clear hs hw hends hjl hj HS
      obtain ⟨p0, p1, p2, p3⟩ := HG.out.cells
      go_wp2
      go_region_held3 (fun W => W.cell? ⟨w.heap.size, 0, none⟩ = some (.int .u64 (n : Int))) (go_keep) (fail)
      go_wp2
      go_loopw [5, 6, 7] (fun a b i wr => ∃ (j : Nat) (b1 b2 : Bool), a = .bool b1 ∧ b = .bool b2 ∧ i = .int .i64 (j : Int) ∧ j ≤ xs.length ∧ Hid (b1 = metB n l (xs.take j)) ∧ Hid (b2 = metB n h (xs.take j)) ∧ Hid (GB wr w.heap.size n m l h) ∧ Hid (Below w.heap.size w wr)) (fun _ _ i _ => xs.length - (intOf i).toNat)
      case atStart => exact ⟨0, b0, b0, rfl, rfl, rfl, Nat.zero_le _, by show _ = _; rw [HB0.out]; simp [metB], by show _ = _; rw [HB0.out]; simp [metB], HG.out.drew, HW.out.drew⟩
      case round =>
        clear p0 p1 p2 p3 HG HW hb0 HB0
        obtain ⟨j, b1, b2, rfl, rfl, rfl, hj, HB1, HB2, HG, HW⟩ := hrel
        by_cases hjl : j < xs.length
        · have hxj := getD_lt HX.out hjl
          have hts := take_snoc hjl
          have hmem : xs.getD j 0 ∈ xs := by rw [List.getD_eq_getElem?_getD, List.getElem?_eq_getElem hjl]; exact List.getElem_mem hjl
          obtain ⟨x, hxx⟩ : ∃ x, xs.getD j 0 = x := ⟨_, rfl⟩
          obtain ⟨ad, hA, hcx⟩ := (HR.out.below HW.out).at hjl
          rw [hxx] at hxj hcx hts hmem
          have HT := Lib.hid hts
          clear hts hxx
          subst hA
          have i1 : (j : Int) < (xs.length : Int) := by omega
          obtain ⟨p0, p1, p2, p3⟩ := HG.out.cells
          rcases hn : nanB x with _ | _
          · have f1 := HWI.out.lo x hmem hn
            have f2 := HWI.out.hi x hmem hn
            simp only at f1 f2
            have hk : (((kindN x : Nat) : Int) == 4) = false := by
              rw [beq_eq_false_iff_ne]
              intro h'
              rw [(kind_nan_iff x).1 (by omega)] at hn
              cases hn
            obtain ⟨d1, hd1⟩ : ∃ d1, ((x : Int) == (l : Int)) = d1 := ⟨_, rfl⟩
            obtain ⟨d2, hd2⟩ : ∃ d2, ((x : Int) == (h : Int)) = d2 := ⟨_, rfl⟩
            have HD1 : Hid (metB n l (xs.take (j + 1)) = (b1 || d1)) := by
              show _ = _
              rw [HT.out, met_snoc, HB1.out, ← hd1]
              congr 1
              rw [Bool.eq_iff_iff, beq_iff_eq, decide_eq_true_eq]
              omega
            have HD2 : Hid (metB n h (xs.take (j + 1)) = (b2 || d2)) := by
              show _ = _
              rw [HT.out, met_snoc, HB2.out, ← hd2]
              congr 1
              rw [Bool.eq_iff_iff, beq_iff_eq, decide_eq_true_eq]
              omega
            have hl2 : l < 18446744073709551616 := OKJ.out.1.2.2.1
            have hh2 : h < 18446744073709551616 := OKJ.out.1.2.2.2
            clear hmem HB1 HB2
            rcases b1 with _ | _ <;> rcases b2 with _ | _
            all_goals
              go_wp2_with (first | (go_at_call 17; (with_reducible refine (rkind_any x _ hxj).mono ?_); rintro e w' ⟨rfl, rfl⟩))
              go_region_held3 (fun W => W.cell? ⟨w.heap.size, 2, none⟩ = some (.int .u64 (l : Int)) ∧ W.cell? ⟨w.heap.size, 3, none⟩ = some (.int .u64 (h : Int)) ∧ W.cell? (ad.add j) = some (.int .u64 (x : Int))) (go_keep) (first | (go_at_call 18; (with_reducible refine (rless_any x l _ hxj hl2).mono ?_); rintro e w' ⟨rfl, rfl⟩) | (go_at_call 18; (with_reducible refine (rless_any h x _ hh2 hxj).mono ?_); rintro e w' ⟨rfl, rfl⟩))
              go_wp2
              go_quiet (fail)
              go_wp2
              go_quiet (fail)
              go_wp2
              go_roundw
              case rel => exact ⟨j + 1, _, _, rfl, rfl, by go_num, by omega, by show _ = _; rw [HD1.out]; simp, by show _ = _; rw [HD2.out]; simp, HG.out, by repeat (first | exact HW.out | apply Below.drew | apply below_drewN)⟩
              case measure => simp [intOf]; omega
          · have hk : kindN x = 4 := (kind_nan_iff x).2 hn
            have HD1 : Hid (metB n l (xs.take (j + 1)) = b1) := by
              show _ = _
              rw [HT.out, met_nan n l x _ (fun h' => (HE.out h').1) hn, HB1.out]
            have HD2 : Hid (metB n h (xs.take (j + 1)) = b2) := by
              show _ = _
              rw [HT.out, met_nan n h x _ (fun h' => (HE.out h').2) hn, HB2.out]
            clear hmem HB1 HB2
            go_wp2_with (first | (go_at_call 17; (with_reducible refine (rkind_any x _ hxj).mono ?_); rintro e w' ⟨rfl, rfl⟩))
            go_roundw
            case rel => exact ⟨j + 1, b1, b2, rfl, rfl, by go_num, by omega, HD1.out.symm, HD2.out.symm, HG.out, HW.out⟩
            case measure => simp [intOf]; omega
        · obtain rfl : j = xs.length := by omega
          have e1 := HB1.out
          have e2 := HB2.out
          rw [List.take_length] at e1 e2
          have he := HWI.out.ends
          simp only at he
          have e3 : b1 = true := by
            rw [e1]
            unfold metB
            rw [decide_eq_true_eq]
            rcases he with h0 | h0
            · exact .inl h0
            · exact .inr h0.1
          have e4 : b2 = true := by
            rw [e2]
            unfold metB
            rw [decide_eq_true_eq]
            rcases he with h0 | h0
            · exact .inl h0
            · exact .inr h0.2
          subst e3 e4
          clear e1 e2 he HB1 HB2 hjl hj
          go_wp2_with fail
          refine (awake_any _).mono ?_
          rintro e w4 ⟨rfl, hb4⟩
          go_wp2
          go_ret
          exact ⟨rfl, below_then HW.out hb4⟩
end Go.Proofs.Yteohmcjclmaanaa
