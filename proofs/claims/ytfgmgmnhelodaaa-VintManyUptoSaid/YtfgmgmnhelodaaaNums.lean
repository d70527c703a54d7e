/- Numbers of 64 bits in slices: read, copied, the same. -/
import Derived.Test.YtfgmgmnhelodaaaOwn
namespace Go.Proofs.Ytfgmgmnhelodaaa
set_option linter.unusedVariables false
set_option linter.unusedSimpArgs false
open Go.RowKit
def u64s (l : List Nat) : List Value := l.map fun n : Nat => .int .u64 (n : Int)
theorem u64s_length (l : List Nat) : (u64s l).length = l.length := by simp [u64s]
theorem u64s_append (a b : List Nat) : u64s (a ++ b) = u64s a ++ u64s b := by simp [u64s]
theorem u64s_one (l : List Nat) : ∀ u ∈ u64s l, u.oneCell' = true := by
  intro u hu
  simp only [u64s, List.mem_map] at hu
  obtain ⟨b, _, rfl⟩ := hu
  rfl
def ReadsN (w : World) (A : Option Addr) (l : List Nat) : Prop := Reads w A (u64s l)
theorem ReadsN.below {w w1 : World} {A : Option Addr} {l : List Nat} (h : ReadsN w A l) (hb : Below w.heap.size w w1) : ReadsN w1 A l := Reads.below h hb
theorem ReadsN.at {w : World} {A : Option Addr} {l : List Nat} (h : ReadsN w A l) {k : Nat} (hk : k < l.length) : ∃ ad, A = some ad ∧ w.cell? (ad.add k) = some (.int .u64 ((l.getD k 0 : Nat) : Int)) := by
  obtain ⟨ad, e, hc⟩ := h (by rw [u64s_length]; omega)
  refine ⟨ad, e, hc k _ ?_⟩
  simp [u64s, List.getElem?_eq_getElem hk]
theorem ReadsN.drew {w : World} {A : Option Addr} {l : List Nat} (h : ReadsN w A l) : ReadsN w.drew A l := h
theorem ReadsN.drewN {w : World} {A : Option Addr} {l : List Nat} (h : ReadsN w A l) (n : Nat) : ReadsN (w.drewN n) A l := h
theorem readsN_of_ints {w : World} {x : Addr} {len cap : Nat} {zs : List Int} (hl : len ≤ cap) (hz : zs.length = cap) (hc : ∀ i, i < zs.length → w.cell? (x.add i) = some (.int .u64 (zs.getD i 0))) (hw : ∀ n ∈ zs, (Lit.int .u64 n).wf = true) :
    ∃ l : List Nat, l.length = len ∧ ReadsN w (some x) l ∧ ∀ n ∈ l, n < 18446744073709551616 := by
  have hbd : ∀ n ∈ zs, 0 ≤ n ∧ n < 18446744073709551616 := by
    intro n hn
    have := hw n hn
    simp [Lit.wf, IntKind.min, IntKind.max, IntKind.signed, IntKind.bits] at this
    omega
  refine ⟨(zs.take len).map fun z => z.toNat, by simp; omega, fun _ => ⟨x, rfl, fun j u hu => ?_⟩, ?_⟩
  · simp only [u64s, List.map_map, List.getElem?_map, Option.map_eq_some_iff] at hu
    obtain ⟨z, hz', rfl⟩ := hu
    rw [List.getElem?_take] at hz'
    split at hz'
    · have hj : j < zs.length := by omega
      rw [List.getElem?_eq_getElem hj] at hz'
      injection hz' with hz'
      subst hz'
      rw [hc j hj]
      have := hbd zs[j] (List.getElem_mem hj)
      simp [List.getD_eq_getElem?_getD, List.getElem?_eq_getElem hj]
      omega
    · cases hz'
  · intro n hn
    simp only [List.mem_map] at hn
    obtain ⟨z, hz', rfl⟩ := hn
    have := hbd z (List.mem_of_mem_take hz')
    omega
theorem ninfo : (Try.prog.info? 22).map (fun i => (i.zero, i.size, i.bytes)) = some (some (.int .u64 0), 1, 8) := by kernel_rfl
def OwnN (w : World) (base : Nat) (v : Value) (l : List Nat) : Prop := w.ownsRow base 22 1 v l.length (u64s l)
theorem OwnN.slice {w : World} {base : Nat} {v : Value} {l : List Nat} (h : OwnN w base v l) : ∃ A c, v = .slice A l.length c := own_slice h
theorem OwnN.full {w : World} {base : Nat} {v : Value} {l : List Nat} (h : OwnN w base v l) : Full w base 22 v (u64s l) := .inr (by rw [u64s_length]; exact h)
theorem OwnN.below {w w1 : World} {base : Nat} {v : Value} {l : List Nat} (h : OwnN w base v l) (hb : Below w.heap.size w w1) : OwnN w1 base v l := own_below h hb
theorem OwnN.mono {w : World} {base base' : Nat} {v : Value} {l : List Nat} (h : OwnN w base v l) (hb : base' ≤ base) : OwnN w base' v l := own_mono h hb
theorem OwnN.reads {w : World} {base : Nat} {A : Option Addr} {n c : Nat} {l : List Nat} (h : OwnN w base (.slice A n c) l) : ReadsN w A l := by
  obtain ⟨A', c', hv⟩ := h.slice
  injection hv with h1 h2 h3
  subst h1 h2 h3
  exact Reads.of_own h
theorem OwnN.nil (w : World) (base : Nat) : OwnN w base (.slice none 0 0) [] := World.ownsRow_nil _ _ _ _
theorem u64s_snoc (l : List Nat) (x : Nat) : u64s l ++ [.int .u64 (x : Int)] = u64s (l ++ [x]) := by simp [u64s]
set_option maxHeartbeats 400000 in
theorem nums_any (A : Option Addr) (l : List Nat) (c : Nat) (w : World) (hl : l.length * 8 ≤ 140737488355328) (hr : ReadsN w A l) :
    Calls Try.prog 27 #[.slice A l.length c] w fun e w' => ∃ A' c', e = .returned (.slice A' l.length c') ∧ OwnN w' w.heap.size (.slice A' l.length c') l ∧ Below w.heap.size w w' := by
  have HR := Lib.hid hr
  clear hr
  go_enter Try.func27, Try.ntmps27
  go_wp2_with (at_builtin; refine wpList_append_any _ rfl _ _ 48 rfl w.heap.size 22 _ 8 Try.underlying48 ninfo rfl (by omega) (.slice none 0 0) 0 [] rfl (World.ownsRow_nil _ _ _ _) A l.length c (u64s l) rfl (u64s_length l) HR.out (u64s_one l) (by omega) (Nat.le_refl _) ?_; intro v1 w1 hown hg hat)
  go_ret
  obtain ⟨A', c', hv⟩ := own_slice hown
  subst hv
  simp only [Nat.zero_add, List.nil_append] at hown
  exact ⟨A', c', by simp, hown, (Below.refl _ _).grown hg (Nat.le_refl _) (by simp [Value.ownBlock])⟩
set_option maxRecDepth 100000 in
set_option maxHeartbeats 400000 in
theorem sameNums_any (A1 A2 : Option Addr) (l m : List Nat) (c1 c2 : Nat) (w : World) (hl : l.length ≤ 140737488355328) (hr1 : ReadsN w A1 l) (hr2 : ReadsN w A2 m) :
    Calls Try.prog 31 #[.slice A1 l.length c1, .slice A2 m.length c2] w fun e w' => e = .returned (.bool (decide (l = m))) ∧ Below w.heap.size w w' := by
  have HR1 := Lib.hid hr1
  have HR2 := Lib.hid hr2
  clear hr1 hr2
  by_cases hne : l.length = m.length
  · have q1 : ((l.length : Int) != (m.length : Int)) = false := by rw [bne_eq_false_iff_eq]; omega
    have HE := Lib.hid hne
    clear hne
    go_enter Try.func31, Try.ntmps31
    go_wp2
    go_loopw [5] (fun i wr => ∃ k : Nat, k ≤ l.length ∧ i = .int .i64 (k : Int) ∧ Hid (l.take k = m.take k) ∧ Hid (Below w.heap.size w wr)) (fun i _ => l.length - (intOf i).toNat)
    case atStart => exact ⟨0, Nat.zero_le _, rfl, by show l.take 0 = m.take 0; simp, Below.refl _ _⟩
    case round =>
      obtain ⟨k, hk, rfl, HP, HW⟩ := hrel
      by_cases hlt : k < l.length
      · have hlt2 : k < m.length := by have := HE.out; omega
        obtain ⟨ad1, hA1, g1⟩ := (HR1.out.below HW.out).at hlt
        obtain ⟨ad2, hA2, g2⟩ := (HR2.out.below HW.out).at hlt2
        subst hA1 hA2
        have i1 : (k : Int) < (l.length : Int) := by omega
        have i2 : (k : Int) < (m.length : Int) := by omega
        have HT1 : Hid (l.take (k + 1) = l.take k ++ [l.getD k 0]) := by
          show l.take (k + 1) = _
          rw [List.take_succ_eq_append_getElem hlt]
          simp [List.getElem?_eq_getElem hlt]
        have HT2 : Hid (m.take (k + 1) = m.take k ++ [m.getD k 0]) := by
          show m.take (k + 1) = _
          rw [List.take_succ_eq_append_getElem hlt2]
          simp [List.getElem?_eq_getElem hlt2]
        have HN : Hid (l.getD k 0 ≠ m.getD k 0 → decide (l = m) = false) := by
          intro h
          rw [decide_eq_false_iff_not]
          rintro rfl
          exact h rfl
        generalize l.getD k 0 = x at g1 HT1 HN
        generalize m.getD k 0 = y at g2 HT2 HN
        by_cases hxy : x = y
        · have q2 : ((x : Int) != (y : Int)) = false := by rw [bne_eq_false_iff_eq]; omega
          have HXY := Lib.hid hxy
          clear hxy
          go_wp2
          go_quiet (fail)
          go_wp2
          go_roundw
          case rel => exact ⟨k + 1, by omega, by go_num, by show l.take (k + 1) = m.take (k + 1); rw [HT1.out, HT2.out, HP.out, HXY.out], below_drewN HW.out _⟩
          case measure => simp [intOf]; omega
        · have q2 : ((x : Int) != (y : Int)) = true := by rw [bne_iff_ne]; omega
          have HF := Lib.hid (HN.out hxy)
          clear hxy
          go_wp2
          go_quiet (fail)
          go_wp2
          go_ret
          exact ⟨ret_bool HF.out.symm, below_drewN HW.out _⟩
      · have hkl : k = l.length := by omega
        have HF : Hid (decide (l = m) = true) := by
          show decide (l = m) = true
          rw [decide_eq_true_iff]
          have h1 := HP.out
          rw [List.take_of_length_le (by omega), List.take_of_length_le (by have := HE.out; omega)] at h1
          exact h1
        clear hkl
        go_wp2
        go_ret
        exact ⟨ret_bool HF.out.symm, HW.out⟩
  · have q1 : ((l.length : Int) != (m.length : Int)) = true := by rw [bne_iff_ne]; omega
    have hd : decide (l = m) = false := by
      rw [decide_eq_false_iff_not]
      rintro rfl
      exact hne rfl
    clear hne
    go_enter Try.func31, Try.ntmps31
    go_wp2
    go_ret
    exact ⟨ret_bool hd.symm, Below.refl _ _⟩
end Go.Proofs.Ytfgmgmnhelodaaa
