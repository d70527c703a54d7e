/- What the statement on floats added to a gauge comes to: the walk. -/
import Derived.Test.YteohmcjclmaanaaGaugeNums
namespace Go.Proofs.Yteohmcjclmaanaa
set_option linter.unusedVariables false
set_option linter.unusedSimpArgs false
open Go.RowKit
theorem ok_add_all' {g : G4} (hg : okG g) {xs : List Nat} (hx : ∀ n ∈ xs, n < 18446744073709551616) : ∀ j, okG (addAll g (xs.take j)) := fun j =>
  ok_add_all hg _ fun x hxj => hx x (List.mem_of_mem_take hxj)
set_option maxRecDepth 100000 in
set_option maxHeartbeats 1600000 in
theorem gaugeAdds_walk (x0 : G4) (A : Option Addr) (xs : List Nat) (c : Nat) (w : World) (wf0 : x0.wf) (hr : ReadsN w A xs) (hx : ∀ n ∈ xs, n < 18446744073709551616) (hc : xs.length ≤ c) (hcb : c * 8 ≤ 140737488351232) :
    Calls Try.prog 7 #[gval x0, .slice A xs.length c] w fun e w' => e = .returned (.bool true) ∧ Below w.heap.size w w' := by
  obtain ⟨an, am, al, ah⟩ := x0
  have HR := Lib.hid hr
  have HX := Lib.hid hx
  have hlen : (xs.length : Int) ≤ 140737488351232 := by omega
  rcases hca : checkG ⟨an, am, al, ah⟩ with _ | _
  · have A1 := Lib.hid (check_at wf0 hca)
    have A2 := Lib.hid (rcheck_at wf0 hca)
    have OK := Lib.hid ok_zero
    have OK0 := Lib.hid (ok_add_all' OK.out HX.out)
    clear hca wf0 hr hx
    show Calls Try.prog 7 #[.agg #[.int .u64 (an : Int), .int .u64 (am : Int), .int .u64 (al : Int), .int .u64 (ah : Int)], .slice A xs.length c] w _
    go_enter Try.func7, Try.ntmps7
    go_wp2_with fail
    obtain ⟨w0, hw0⟩ : ∃ w0, w0 = w.alloc (.cells #[.int .u64 (an : Int), .int .u64 (am : Int), .int .u64 (al : Int), .int .u64 (ah : Int)] 24) := ⟨_, rfl⟩
    have hb0 : Below w.heap.size w w0 := by rw [hw0]; exact below_new _ _
    have ga : GB w0 w.heap.size an am al ah := by rw [hw0]; exact GB.new _ _ _ _ _
    rw [← hw0]
    have GA := Lib.hid ga
    obtain ⟨p0, p1, p2, p3⟩ := ga.rules
    clear hw0 ga
    go_region_held3 (fun W' => Below w0.heap.size w0 W') (first | exact (Below.refl _ _).drew | exact below_then (by assumption) (by assumption)) (first | (go_at_call 19; (with_reducible refine (A1.out _).mono ?_); rintro e w2 ⟨rfl, hb2⟩) | (go_at_call 11; (with_reducible refine (A2.out _).mono ?_); rintro e w2 ⟨rfl, hb2⟩))
    have hS : Below w0.heap.size w0 w2 := by assumption
    have ga2 := Lib.hid (GA.out.below hS)
    have hb3 := below_then hb0 hS
    clear p0 p1 p2 p3 GA hS hb0
    obtain ⟨p0, p1, p2, p3⟩ := ga2.out.cells
    go_wp2_with fail
    refine (A2.out _).mono ?_
    rintro e w3 ⟨rfl, hb4⟩
    clear p0 p1 p2 p3
    have ga3 := Lib.hid (ga2.out.below hb4)
    have hb5 := below_then hb3 hb4
    clear hb3 hb4 ga2
    have hlt := ga3.out.lt
    have HLT := Lib.hid hlt
    obtain ⟨p0, p1, p2, p3⟩ := ga3.out.cells
    obtain ⟨q0, q1, q2, q3⟩ := ga3.out.marks
    go_wp2
    go_loopw [6] (fun i wr => ∃ (j n m l h : Nat), i = .int .i64 (j : Int) ∧ j ≤ xs.length ∧ Hid (addAll zeroG (xs.take j) = ⟨n, m, l, h⟩) ∧ Hid (GB wr w.heap.size n m l h) ∧ Hid (GB wr w3.heap.size n m l h) ∧ Hid (Below w.heap.size w wr)) (fun i _ => xs.length - (intOf i).toNat)
    case atStart => exact ⟨0, 0, 0, 0, 0, rfl, Nat.zero_le _, rfl, (GB.set4 ga3.out).alloc _, (by have := GB.new (set4 w3 w.heap.size 0 0 0 0) 0 0 0 0; rw [set4_size] at this; exact this), (below_set4 hb5 (Nat.le_refl _)).alloc (by rw [set4_size]; exact hb5.size) _⟩
    case round =>
      obtain ⟨j, n, m, l, h, rfl, hj, HS, HG, HH, HW⟩ := hrel
      clear p0 p1 p2 p3 q0 q1 q2 q3 ga3 hb5
      have okj := OK0.out j
      rw [HS.out] at okj
      have OKJ := Lib.hid okj
      clear okj
      by_cases hjl : j < xs.length
      · by_cases hj2 : j < 200
        · have hxj := getD_lt HX.out hjl
          have hstep := add_all_step zeroG hjl
          rw [HS.out] at hstep
          obtain ⟨x, hxx⟩ : ∃ x, xs.getD j 0 = x := ⟨_, rfl⟩
          obtain ⟨ad, hA, hcx⟩ := (HR.out.below HW.out).at hjl
          rw [hxx] at hxj hstep hcx
          rcases hg' : addG ⟨n, m, l, h⟩ x with ⟨n', m', l', h'⟩
          rw [hg'] at hstep
          have HS' := Lib.hid hstep
          have C1 := Lib.hid (gadd_at OKJ.out.1 hxj hg')
          have C2 := Lib.hid (rgadd_at OKJ.out hxj hg')
          have HXX := Lib.hid hxx
          clear hstep hg' hxx hxj
          subst hA
          have i1 : (j : Int) < (xs.length : Int) := by omega
          have i2 : (j : Int) < 200 := by omega
          obtain ⟨p0, p1, p2, p3⟩ := HG.out.cells
          go_wp2_with fail
          go_still_tail 5, (by kernel_rfl)
          go_wp2_with fail
          refine (C1.out _).mono ?_
          rintro e w4 ⟨rfl, hb6⟩
          replace hb6 := below_drew hb6
          clear p0 p1 p2 p3
          have gg := Lib.hid (HG.out.below hb6)
          have gh := Lib.hid (HH.out.below hb6)
          have hb7 := below_then HW.out hb6
          obtain ⟨p0, p1, p2, p3⟩ := gg.out.cells
          obtain ⟨q0, q1, q2, q3⟩ := gg.out.marks
          clear hb6 HG HH HW
          go_wp2_with fail
          obtain ⟨w5, hw5⟩ : ∃ w5, w5 = set4 w4 w.heap.size n' m' l' h' := ⟨_, rfl⟩
          change Code.wp _ _ _ _ (set4 w4 w.heap.size n' m' l' h')
          rw [← hw5]
          have g5 : GB w5 w.heap.size n' m' l' h' := by rw [hw5]; exact gg.out.set4
          have h5 : GB w5 w3.heap.size n m l h := by rw [hw5]; exact gh.out.far4 (by have := HLT.out; omega)
          have hb8 : Below w.heap.size w w5 := by rw [hw5]; exact below_set4 hb7 (Nat.le_refl _)
          have G5 := Lib.hid g5
          have H5 := Lib.hid h5
          clear p0 p1 p2 p3 q0 q1 q2 q3 hw5 gg gh hb7 g5 h5 hcx
          obtain ⟨ad', hA', hcx⟩ := (HR.out.below hb8).at hjl
          rw [HXX.out] at hcx
          injection hA' with hA'
          subst hA'
          obtain ⟨p0, p1, p2, p3⟩ := H5.out.cells
          go_still_tail 5, (by kernel_rfl)
          go_wp2_with fail
          refine (C2.out _).mono ?_
          rintro e w6 ⟨rfl, hb6⟩
          replace hb6 := below_drew hb6
          clear p0 p1 p2 p3
          have gg := Lib.hid (G5.out.below hb6)
          have gh := Lib.hid (H5.out.below hb6)
          have hb7 := below_then hb8 hb6
          obtain ⟨p0, p1, p2, p3⟩ := gh.out.cells
          obtain ⟨q0, q1, q2, q3⟩ := gh.out.marks
          obtain ⟨r0, r1, r2, r3⟩ := gg.out.cells
          clear hb6 hb8 G5 H5 hcx
          have hne : ¬ w.heap.size = w3.heap.size := by have := HLT.out; omega
          go_wp2
          go_roundw
          case rel => exact ⟨j + 1, n', m', l', h', by go_num, by omega, HS'.out, gg.out.far4 hne, gh.out.set4, below_set4 hb7 (Nat.le_of_lt HLT.out)⟩
          case measure => simp [intOf]; omega
        · have i1 : (j : Int) < (xs.length : Int) := by omega
          have i2 : (200 : Int) ≤ (j : Int) := by omega
          have C3 := Lib.hid (check_at OKJ.out.1 ((check_iff _ OKJ.out.1).2 OKJ.out))
          obtain ⟨p0, p1, p2, p3⟩ := HG.out.cells
          go_wp2_with fail
          refine (C3.out _).mono ?_
          rintro e w4 ⟨rfl, hb6⟩
          have hb7 := below_then HW.out hb6
          clear hb6 p0 p1 p2 p3 HG HH HW
          go_wp2_with fail
          refine (awake_any _).mono ?_
          rintro e w5 ⟨rfl, hb6⟩
          go_wp2
          go_ret
          exact ⟨rfl, below_then hb7 hb6⟩
      · have i1 : (xs.length : Int) ≤ (j : Int) := by omega
        have C3 := Lib.hid (check_at OKJ.out.1 ((check_iff _ OKJ.out.1).2 OKJ.out))
        obtain ⟨p0, p1, p2, p3⟩ := HG.out.cells
        go_wp2_with fail
        refine (C3.out _).mono ?_
        rintro e w4 ⟨rfl, hb6⟩
        have hb7 := below_then HW.out hb6
        clear hb6 p0 p1 p2 p3 HG HH HW
        go_wp2_with fail
        refine (awake_any _).mono ?_
        rintro e w5 ⟨rfl, hb6⟩
        go_wp2
        go_ret
        exact ⟨rfl, below_then hb7 hb6⟩
  · have A1 := Lib.hid (check_at wf0 hca)
    have A2 := Lib.hid (rcheck_at wf0 hca)
    have OK := Lib.hid ((check_iff _ wf0).1 hca)
    have OK0 := Lib.hid (ok_add_all' OK.out HX.out)
    clear hca wf0 hr hx
    show Calls Try.prog 7 #[.agg #[.int .u64 (an : Int), .int .u64 (am : Int), .int .u64 (al : Int), .int .u64 (ah : Int)], .slice A xs.length c] w _
    go_enter Try.func7, Try.ntmps7
    go_wp2_with fail
    obtain ⟨w0, hw0⟩ : ∃ w0, w0 = w.alloc (.cells #[.int .u64 (an : Int), .int .u64 (am : Int), .int .u64 (al : Int), .int .u64 (ah : Int)] 24) := ⟨_, rfl⟩
    have hb0 : Below w.heap.size w w0 := by rw [hw0]; exact below_new _ _
    have ga : GB w0 w.heap.size an am al ah := by rw [hw0]; exact GB.new _ _ _ _ _
    rw [← hw0]
    have GA := Lib.hid ga
    obtain ⟨p0, p1, p2, p3⟩ := ga.rules
    clear hw0 ga
    go_region_held3 (fun W' => Below w0.heap.size w0 W') (first | exact (Below.refl _ _).drew | exact below_then (by assumption) (by assumption)) (first | (go_at_call 19; (with_reducible refine (A1.out _).mono ?_); rintro e w2 ⟨rfl, hb2⟩) | (go_at_call 11; (with_reducible refine (A2.out _).mono ?_); rintro e w2 ⟨rfl, hb2⟩))
    have hS : Below w0.heap.size w0 w2 := by assumption
    have ga2 := Lib.hid (GA.out.below hS)
    have hb3 := below_then hb0 hS
    clear p0 p1 p2 p3 GA hS hb0
    obtain ⟨p0, p1, p2, p3⟩ := ga2.out.cells
    go_wp2_with fail
    refine (A2.out _).mono ?_
    rintro e w3 ⟨rfl, hb4⟩
    clear p0 p1 p2 p3
    have ga3 := Lib.hid (ga2.out.below hb4)
    have hb5 := below_then hb3 hb4
    clear hb3 hb4 ga2
    have hlt := ga3.out.lt
    have HLT := Lib.hid hlt
    obtain ⟨p0, p1, p2, p3⟩ := ga3.out.cells
    obtain ⟨q0, q1, q2, q3⟩ := ga3.out.marks
    go_wp2
    go_loopw [6] (fun i wr => ∃ (j n m l h : Nat), i = .int .i64 (j : Int) ∧ j ≤ xs.length ∧ Hid (addAll ⟨an, am, al, ah⟩ (xs.take j) = ⟨n, m, l, h⟩) ∧ Hid (GB wr w.heap.size n m l h) ∧ Hid (GB wr w3.heap.size n m l h) ∧ Hid (Below w.heap.size w wr)) (fun i _ => xs.length - (intOf i).toNat)
    case atStart => exact ⟨0, an, am, al, ah, rfl, Nat.zero_le _, rfl, ga3.out.alloc _, GB.new _ _ _ _ _, hb5.alloc hb5.size _⟩
    case round =>
      obtain ⟨j, n, m, l, h, rfl, hj, HS, HG, HH, HW⟩ := hrel
      clear p0 p1 p2 p3 q0 q1 q2 q3 ga3 hb5
      have okj := OK0.out j
      rw [HS.out] at okj
      have OKJ := Lib.hid okj
      clear okj
      by_cases hjl : j < xs.length
      · by_cases hj2 : j < 200
        · have hxj := getD_lt HX.out hjl
          have hstep := add_all_step ⟨an, am, al, ah⟩ hjl
          rw [HS.out] at hstep
          obtain ⟨x, hxx⟩ : ∃ x, xs.getD j 0 = x := ⟨_, rfl⟩
          obtain ⟨ad, hA, hcx⟩ := (HR.out.below HW.out).at hjl
          rw [hxx] at hxj hstep hcx
          rcases hg' : addG ⟨n, m, l, h⟩ x with ⟨n', m', l', h'⟩
          rw [hg'] at hstep
          have HS' := Lib.hid hstep
          have C1 := Lib.hid (gadd_at OKJ.out.1 hxj hg')
          have C2 := Lib.hid (rgadd_at OKJ.out hxj hg')
          have HXX := Lib.hid hxx
          clear hstep hg' hxx hxj
          subst hA
          have i1 : (j : Int) < (xs.length : Int) := by omega
          have i2 : (j : Int) < 200 := by omega
          obtain ⟨p0, p1, p2, p3⟩ := HG.out.cells
          go_wp2_with fail
          go_still_tail 5, (by kernel_rfl)
          go_wp2_with fail
          refine (C1.out _).mono ?_
          rintro e w4 ⟨rfl, hb6⟩
          replace hb6 := below_drew hb6
          clear p0 p1 p2 p3
          have gg := Lib.hid (HG.out.below hb6)
          have gh := Lib.hid (HH.out.below hb6)
          have hb7 := below_then HW.out hb6
          obtain ⟨p0, p1, p2, p3⟩ := gg.out.cells
          obtain ⟨q0, q1, q2, q3⟩ := gg.out.marks
          clear hb6 HG HH HW
          go_wp2_with fail
          obtain ⟨w5, hw5⟩ : ∃ w5, w5 = set4 w4 w.heap.size n' m' l' h' := ⟨_, rfl⟩
          change Code.wp _ _ _ _ (set4 w4 w.heap.size n' m' l' h')
          rw [← hw5]
          have g5 : GB w5 w.heap.size n' m' l' h' := by rw [hw5]; exact gg.out.set4
          have h5 : GB w5 w3.heap.size n m l h := by rw [hw5]; exact gh.out.far4 (by have := HLT.out; omega)
          have hb8 : Below w.heap.size w w5 := by rw [hw5]; exact below_set4 hb7 (Nat.le_refl _)
          have G5 := Lib.hid g5
          have H5 := Lib.hid h5
          clear p0 p1 p2 p3 q0 q1 q2 q3 hw5 gg gh hb7 g5 h5 hcx
          obtain ⟨ad', hA', hcx⟩ := (HR.out.below hb8).at hjl
          rw [HXX.out] at hcx
          injection hA' with hA'
          subst hA'
          obtain ⟨p0, p1, p2, p3⟩ := H5.out.cells
          go_still_tail 5, (by kernel_rfl)
          go_wp2_with fail
          refine (C2.out _).mono ?_
          rintro e w6 ⟨rfl, hb6⟩
          replace hb6 := below_drew hb6
          clear p0 p1 p2 p3
          have gg := Lib.hid (G5.out.below hb6)
          have gh := Lib.hid (H5.out.below hb6)
          have hb7 := below_then hb8 hb6
          obtain ⟨p0, p1, p2, p3⟩ := gh.out.cells
          obtain ⟨q0, q1, q2, q3⟩ := gh.out.marks
          obtain ⟨r0, r1, r2, r3⟩ := gg.out.cells
          clear hb6 hb8 G5 H5 hcx
          have hne : ¬ w.heap.size = w3.heap.size := by have := HLT.out; omega
          go_wp2
          go_roundw
          case rel => exact ⟨j + 1, n', m', l', h', by go_num, by omega, HS'.out, gg.out.far4 hne, gh.out.set4, below_set4 hb7 (Nat.le_of_lt HLT.out)⟩
          case measure => simp [intOf]; omega
        · have i1 : (j : Int) < (xs.length : Int) := by omega
          have i2 : (200 : Int) ≤ (j : Int) := by omega
          have C3 := Lib.hid (check_at OKJ.out.1 ((check_iff _ OKJ.out.1).2 OKJ.out))
          obtain ⟨p0, p1, p2, p3⟩ := HG.out.cells
          go_wp2_with fail
          refine (C3.out _).mono ?_
          rintro e w4 ⟨rfl, hb6⟩
          have hb7 := below_then HW.out hb6
          clear hb6 p0 p1 p2 p3 HG HH HW
          go_wp2_with fail
          refine (awake_any _).mono ?_
          rintro e w5 ⟨rfl, hb6⟩
          go_wp2
          go_ret
          exact ⟨rfl, below_then hb7 hb6⟩
      · have i1 : (xs.length : Int) ≤ (j : Int) := by omega
        have C3 := Lib.hid (check_at OKJ.out.1 ((check_iff _ OKJ.out.1).2 OKJ.out))
        obtain ⟨p0, p1, p2, p3⟩ := HG.out.cells
        go_wp2_with fail
        refine (C3.out _).mono ?_
        rintro e w4 ⟨rfl, hb6⟩
        have hb7 := below_then HW.out hb6
        clear hb6 p0 p1 p2 p3 HG HH HW
        go_wp2_with fail
        refine (awake_any _).mono ?_
        rintro e w5 ⟨rfl, hb6⟩
        go_wp2
        go_ret
        exact ⟨rfl, below_then hb7 hb6⟩
end Go.Proofs.Yteohmcjclmaanaa
