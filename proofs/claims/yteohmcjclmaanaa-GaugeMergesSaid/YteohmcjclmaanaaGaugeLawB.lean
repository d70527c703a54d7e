/- What the statements on two and three gauges come to: the walks. -/
import Derived.Test.YteohmcjclmaanaaGaugeLawA
namespace Go.Proofs.Yteohmcjclmaanaa
set_option linter.unusedVariables false
set_option linter.unusedSimpArgs false
open Go.RowKit
set_option maxRecDepth 100000 in
set_option maxHeartbeats 1600000 in
theorem gaugeMerges_walk (x0 x1 : G4) (w : World) (wf0 : x0.wf) (wf1 : x1.wf) :
    Calls Try.prog 8 #[gval x0, gval x1] w fun e w' => e = .returned (.bool true) ∧ Below w.heap.size w w' := by
  obtain ⟨an, am, al, ah⟩ := x0
  obtain ⟨bn, bm, bl, bh⟩ := x1
  rcases hca : checkG ⟨an, am, al, ah⟩ with _ | _
  · rcases hcb : checkG ⟨bn, bm, bl, bh⟩ with _ | _
    all_goals
      have A1 := Lib.hid (check_at wf0 hca)
      have A2 := Lib.hid (rcheck_at wf0 hca)
      have B1 := Lib.hid (check_at wf1 hcb)
      have B2 := Lib.hid (rcheck_at wf1 hcb)
      clear hca hcb wf0 wf1
      show Calls Try.prog 8 #[.agg #[.int .u64 (an : Int), .int .u64 (am : Int), .int .u64 (al : Int), .int .u64 (ah : Int)], .agg #[.int .u64 (bn : Int), .int .u64 (bm : Int), .int .u64 (bl : Int), .int .u64 (bh : Int)]] w _
      go_enter Try.func8, Try.ntmps8
      go_wp2_with fail
      refine (A2.out _).mono ?_
      rintro e w1 ⟨rfl, hb1⟩
      obtain ⟨p0, p1, p2, p3⟩ := (((GB.new w an am al ah).alloc _).below hb1).rules
      obtain ⟨q0, q1, q2, q3⟩ := ((GB.new2 w _ bn bm bl bh).below hb1).rules
      have hb0 : Below w.heap.size w w1 := ((below_new w _).alloc (by simp) _).trans (hb1.mono (by simp; omega))
      clear hb1
      go_wp2_with fail
      go_region_held3 (fun W' => Below w1.heap.size w1 W') (first | exact (Below.refl _ _).drew | exact below_then (by assumption) (by assumption)) (first | (go_at_call 19; (with_reducible refine (A1.out _).mono ?_); rintro e w2 ⟨rfl, hb2⟩) | (go_at_call 19; (with_reducible refine (B1.out _).mono ?_); rintro e w2 ⟨rfl, hb2⟩) | (go_at_call 11; (with_reducible refine (A2.out _).mono ?_); rintro e w2 ⟨rfl, hb2⟩) | (go_at_call 11; (with_reducible refine (B2.out _).mono ?_); rintro e w2 ⟨rfl, hb2⟩) | (go_at_call 12; (with_reducible refine (awake_any _).mono ?_); rintro e w2 ⟨rfl, hb2⟩))
      all_goals
        go_wp2
        all_goals go_ret
        all_goals exact ⟨rfl, below_then hb0 (by assumption)⟩
  · rcases hcb : checkG ⟨bn, bm, bl, bh⟩ with _ | _
    · have A1 := Lib.hid (check_at wf0 hca)
      have A2 := Lib.hid (rcheck_at wf0 hca)
      have B1 := Lib.hid (check_at wf1 hcb)
      have B2 := Lib.hid (rcheck_at wf1 hcb)
      clear hca hcb wf0 wf1
      show Calls Try.prog 8 #[.agg #[.int .u64 (an : Int), .int .u64 (am : Int), .int .u64 (al : Int), .int .u64 (ah : Int)], .agg #[.int .u64 (bn : Int), .int .u64 (bm : Int), .int .u64 (bl : Int), .int .u64 (bh : Int)]] w _
      go_enter Try.func8, Try.ntmps8
      go_wp2_with fail
      refine (A2.out _).mono ?_
      rintro e w0 ⟨rfl, hb1⟩
      obtain ⟨r0, r1, r2, r3⟩ := ((GB.new2 w _ bn bm bl bh).below hb1).cells
      have ga := Lib.hid (((GB.new w an am al ah).alloc _).below hb1)
      have gb := Lib.hid ((GB.new2 w _ bn bm bl bh).below hb1)
      have hb3 : Below w.heap.size w w0 := ((below_new w _).alloc (by simp) _).trans (hb1.mono (by simp; omega))
      clear hb1
      go_wp2_with fail
      refine (B2.out _).mono ?_
      rintro e w1 ⟨rfl, hb1⟩
      obtain ⟨p0, p1, p2, p3⟩ := (ga.out.below hb1).rules
      obtain ⟨q0, q1, q2, q3⟩ := (gb.out.below hb1).rules
      have hb0 := below_then hb3 hb1
      clear hb1 hb3 r0 r1 r2 r3
      go_wp2_with fail
      go_region_held3 (fun W' => Below w1.heap.size w1 W') (first | exact (Below.refl _ _).drew | exact below_then (by assumption) (by assumption)) (first | (go_at_call 19; (with_reducible refine (A1.out _).mono ?_); rintro e w2 ⟨rfl, hb2⟩) | (go_at_call 19; (with_reducible refine (B1.out _).mono ?_); rintro e w2 ⟨rfl, hb2⟩) | (go_at_call 11; (with_reducible refine (A2.out _).mono ?_); rintro e w2 ⟨rfl, hb2⟩) | (go_at_call 11; (with_reducible refine (B2.out _).mono ?_); rintro e w2 ⟨rfl, hb2⟩) | (go_at_call 12; (with_reducible refine (awake_any _).mono ?_); rintro e w2 ⟨rfl, hb2⟩))
      all_goals
        go_wp2
        all_goals go_ret
        all_goals exact ⟨rfl, below_then hb0 (by assumption)⟩
    · rcases hg : mergeG ⟨an, am, al, ah⟩ ⟨bn, bm, bl, bh⟩ with ⟨gn, gm, gl, gh⟩
      have oka := (check_iff _ wf0).1 hca
      have okb := (check_iff _ wf1).1 hcb
      have okg := ok_merge oka okb
      rw [hg] at okg
      have A2 := Lib.hid (rcheck_at wf0 hca)
      have B2 := Lib.hid (rcheck_at wf1 hcb)
      have M1 := Lib.hid (merge_at wf0 wf1 hg)
      have M2 := Lib.hid (rmerge_at wf0 wf1 hg)
      have G1 := Lib.hid (check_at okg.1 ((check_iff _ okg.1).2 okg))
      clear hca hcb wf0 wf1 oka okb okg hg
      show Calls Try.prog 8 #[.agg #[.int .u64 (an : Int), .int .u64 (am : Int), .int .u64 (al : Int), .int .u64 (ah : Int)], .agg #[.int .u64 (bn : Int), .int .u64 (bm : Int), .int .u64 (bl : Int), .int .u64 (bh : Int)]] w _
      go_enter Try.func8, Try.ntmps8
      go_wp2_with fail
      refine (A2.out _).mono ?_
      rintro e w0 ⟨rfl, hb1⟩
      obtain ⟨r0, r1, r2, r3⟩ := ((GB.new2 w _ bn bm bl bh).below hb1).cells
      have ga := Lib.hid (((GB.new w an am al ah).alloc _).below hb1)
      have gb := Lib.hid ((GB.new2 w _ bn bm bl bh).below hb1)
      have hb3 : Below w.heap.size w w0 := ((below_new w _).alloc (by simp) _).trans (hb1.mono (by simp; omega))
      clear hb1
      go_wp2_with fail
      refine (B2.out _).mono ?_
      rintro e w1 ⟨rfl, hb1⟩
      clear r0 r1 r2 r3
      obtain ⟨p0, p1, p2, p3⟩ := (ga.out.below hb1).cells
      obtain ⟨q0, q1, q2, q3⟩ := (gb.out.below hb1).cells
      have gc := Lib.hid (ga.out.below hb1)
      have gd := Lib.hid (gb.out.below hb1)
      have hb4 := below_then hb3 hb1
      clear hb1 hb3 ga gb
      go_wp2_with fail
      refine (M1.out _).mono ?_
      rintro e w2 ⟨rfl, hb1⟩
      clear p0 p1 p2 p3 q0 q1 q2 q3
      have ge := Lib.hid (gc.out.below hb1)
      have gf := Lib.hid (gd.out.below hb1)
      have hb5 := below_then hb4 hb1
      have hsz := hb5.size
      clear hb1 hb4 gc gd
      go_wp2_with fail
      obtain ⟨wz, hwz⟩ : ∃ wz, wz = w2.alloc (.cells #[.int .u64 (gn : Int), .int .u64 (gm : Int), .int .u64 (gl : Int), .int .u64 (gh : Int)] 24) := ⟨_, rfl⟩
      rw [← hwz]
      obtain ⟨p0, p1, p2, p3⟩ : _ := by
        have := (ge.out.alloc (.cells #[.int .u64 (gn : Int), .int .u64 (gm : Int), .int .u64 (gl : Int), .int .u64 (gh : Int)] 24)).rules
        rw [← hwz] at this
        exact this
      obtain ⟨q0, q1, q2, q3⟩ : _ := by
        have := (gf.out.alloc (.cells #[.int .u64 (gn : Int), .int .u64 (gm : Int), .int .u64 (gl : Int), .int .u64 (gh : Int)] 24)).rules
        rw [← hwz] at this
        exact this
      obtain ⟨s0, s1, s2, s3⟩ : _ := by
        have := (GB.new w2 gn gm gl gh).rules
        rw [← hwz] at this
        exact this
      have hb0 : Below w.heap.size w wz := by rw [hwz]; exact hb5.alloc hsz _
      clear hwz ge gf hb5 hsz
      go_region_held3 (fun W' => Below wz.heap.size wz W') (first | exact (Below.refl _ _).drew | exact below_then (by assumption) (by assumption)) (first | (go_at_call 21; (with_reducible refine (M2.out _).mono ?_); rintro e w2 ⟨rfl, hb2⟩) | (go_at_call 19; (with_reducible refine (G1.out _).mono ?_); rintro e w2 ⟨rfl, hb2⟩) | (go_at_call 12; (with_reducible refine (awake_any _).mono ?_); rintro e w2 ⟨rfl, hb2⟩))
      all_goals
        go_wp2
        all_goals go_ret
        all_goals exact ⟨rfl, below_then hb0 (by assumption)⟩
end Go.Proofs.Yteohmcjclmaanaa
