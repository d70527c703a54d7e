/- The reference's Get of a gauge: the walk (written by mk_gref.py). -/
import Derived.Test.YteohmcjclmaanaaGaugeRefG
import Derived.Deep.Cut
namespace Go.Proofs.Yteohmcjclmaanaa
set_option linter.unusedVariables false
set_option linter.unusedSimpArgs false
open Go.RowKit
theorem only_setNew {a w : World} {row : Option Nat} (h : a.grownBy w row) {p : Addr} (hp : a.heap.size ≤ p.block) (u : Value) : a.grownBy (w.setCell p u) row :=
  ⟨h.os, h.tape, h.output, by simpa [World.setCell] using h.size, fun i hi hne => (Below.heap_setCell w p u i (by omega)).trans (h.block i hi hne)⟩
/-- the reader, the result's cell, the gauge that is filled -/
structure GS (w W : World) (g : Nat) (A : Option Addr) (bs : List UInt8) (c : Nat) (i : Int) (bad : Bool) (x0 x1 x2 x3 : Int) : Prop where
  rd : RdAt W g A bs c i bad
  gr : w.grownBy W (some g)
  res : Blk W w.heap.size 24 #[.int .u64 0, .int .u64 0, .int .u64 0, .int .u64 0]
  cur : Blk W (w.heap.size + 1) 24 #[.int .u64 x0, .int .u64 x1, .int .u64 x2, .int .u64 x3]
  old : RdAt w g A bs c 0 true ∨ ∃ j b, RdAt w g A bs c j b
section
variable {w W W' : World} {g c : Nat} {A : Option Addr} {bs : List UInt8} {i i' : Int} {bad bad' : Bool} {x0 x1 x2 x3 u : Int}
theorem GS.lt (h : GS w W g A bs c i bad x0 x1 x2 x3) : g < w.heap.size := by
  rcases h.old with h | ⟨j, b, h⟩ <;> exact h.blk.lt
theorem GS.reads (h : GS w W g A bs c i bad x0 x1 x2 x3) (hg : w.grownBy W' (some g)) : ReadsB W' A bs := by
  rcases h.old with h | ⟨j, b, h⟩ <;> exact h.keep hg
theorem GS.start (w : World) (hr : RdAt w g A bs c i bad) : GS w ((w.alloc (.cells #[.int .u64 0, .int .u64 0, .int .u64 0, .int .u64 0] 24)).alloc (.cells #[.int .u64 0, .int .u64 0, .int .u64 0, .int .u64 0] 24)) g A bs c i bad 0 0 0 0 :=
  ⟨hr.below ((below_new _ _).alloc (by simp) _), World.grownBy.trans (World.grownBy_alloc _ _ _) (World.grownBy_alloc _ _ _), (Blk.new _ _ _).alloc _, blk_here (by simp), .inr ⟨_, _, hr⟩⟩
theorem GS.call (h : GS w W g A bs c i bad x0 x1 x2 x3) (hr : RdAt W' g A bs c i' bad') (hg : W.grownBy W' (some g)) : GS w W' g A bs c i' bad' x0 x1 x2 x3 :=
  ⟨hr, World.grownBy.trans h.gr hg, blk_grown h.res hg (by have := h.lt; intro he; injection he; omega), blk_grown h.cur hg (by have := h.lt; intro he; injection he; omega), h.old⟩
theorem GS.below (h : GS w W g A bs c i bad x0 x1 x2 x3) (hb : Below W.heap.size W W') : GS w W' g A bs c i bad x0 x1 x2 x3 :=
  ⟨h.rd.below hb, World.grownBy.trans h.gr ⟨hb.os, hb.tape, hb.output, hb.size, fun k hk _ => hb.block k hk⟩, h.res.below hb, h.cur.below hb, h.old⟩
theorem GS.set (h : GS w W g A bs c i bad x0 x1 x2 x3) (k : Nat) (u : Int) {y0 y1 y2 y3 : Int} (hy : (#[.int .u64 x0, .int .u64 x1, .int .u64 x2, .int .u64 x3] : Array Value).setIfInBounds k (.int .u64 u) = #[.int .u64 y0, .int .u64 y1, .int .u64 y2, .int .u64 y3]) : GS w (W.setCell ⟨w.heap.size + 1, k, none⟩ (.int .u64 u)) g A bs c i bad y0 y1 y2 y3 := by
  have hgr := only_setNew h.gr (p := ⟨w.heap.size + 1, k, none⟩) (Nat.le_succ _) (.int .u64 u)
  have hlt := h.lt
  exact ⟨⟨h.rd.blk.far (p := ⟨w.heap.size + 1, k, none⟩) (Nat.ne_of_lt (Nat.lt_succ_of_lt hlt)) _, h.reads hgr⟩, hgr, h.res.far (p := ⟨w.heap.size + 1, k, none⟩) (Nat.ne_of_lt (Nat.lt_succ_self _)) _, by rw [← hy]; exact h.cur.set_ k _, h.old⟩
theorem GS.wrong (h : GS w W g A bs c i bad x0 x1 x2 x3) : GS w (W.setCell ⟨g, 2, none⟩ (.bool true)) g A bs c i true x0 x1 x2 x3 :=
  h.call (h.rd.setBad true) (only_setCell (World.grownBy.refl _ _) rfl _)
theorem GS.fin (h : GS w W g A bs c i bad x0 x1 x2 x3) (y0 y1 y2 y3 : Value) : RdAt (set4v W w.heap.size y0 y1 y2 y3) g A bs c i bad ∧ w.grownBy (set4v W w.heap.size y0 y1 y2 y3) (some g) ∧ Blk (set4v W w.heap.size y0 y1 y2 y3) w.heap.size 24 #[y0, y1, y2, y3] := by
  have hlt := h.lt
  have hgr : w.grownBy (set4v W w.heap.size y0 y1 y2 y3) (some g) := only_setNew (only_setNew (only_setNew (only_setNew h.gr (p := ⟨w.heap.size, 0, none⟩) (Nat.le_refl _) y0) (p := ⟨w.heap.size, 1, none⟩) (Nat.le_refl _) y1) (p := ⟨w.heap.size, 2, none⟩) (Nat.le_refl _) y2) (p := ⟨w.heap.size, 3, none⟩) (Nat.le_refl _) y3
  refine ⟨⟨?_, h.reads hgr⟩, hgr, blk4 h.res y0 y1 y2 y3⟩
  exact Blk.far (Blk.far (Blk.far (Blk.far h.rd.blk (p := ⟨w.heap.size, 0, none⟩) (Nat.ne_of_lt hlt) y0) (p := ⟨w.heap.size, 1, none⟩) (Nat.ne_of_lt hlt) y1) (p := ⟨w.heap.size, 2, none⟩) (Nat.ne_of_lt hlt) y2) (p := ⟨w.heap.size, 3, none⟩) (Nat.ne_of_lt hlt) y3
theorem GS.facts (h : GS w W g A bs c i bad x0 x1 x2 x3) : W.cell? ⟨g, 2, none⟩ = some (.bool bad) ∧ W.frozen? ⟨g, 2, none⟩ = false ∧ (W.cell? ⟨w.heap.size + 1, 0, none⟩ = some (.int .u64 x0) ∧ W.cell? ⟨w.heap.size + 1, 1, none⟩ = some (.int .u64 x1) ∧ W.cell? ⟨w.heap.size + 1, 2, none⟩ = some (.int .u64 x2) ∧ W.cell? ⟨w.heap.size + 1, 3, none⟩ = some (.int .u64 x3)) ∧
    (W.frozen? ⟨w.heap.size + 1, 0, none⟩ = false ∧ W.frozen? ⟨w.heap.size + 1, 1, none⟩ = false ∧ W.frozen? ⟨w.heap.size + 1, 2, none⟩ = false ∧ W.frozen? ⟨w.heap.size + 1, 3, none⟩ = false) ∧
    (W.frozen? ⟨w.heap.size, 0, none⟩ = false ∧ W.frozen? ⟨w.heap.size, 1, none⟩ = false ∧ W.frozen? ⟨w.heap.size, 2, none⟩ = false ∧ W.frozen? ⟨w.heap.size, 3, none⟩ = false) ∧ (W.cell? ⟨w.heap.size, 0, none⟩ = some (.int .u64 0) ∧ W.cell? ⟨w.heap.size, 1, none⟩ = some (.int .u64 0) ∧ W.cell? ⟨w.heap.size, 2, none⟩ = some (.int .u64 0) ∧ W.cell? ⟨w.heap.size, 3, none⟩ = some (.int .u64 0)) :=
  ⟨h.rd.c2, h.rd.blk.frozen 2, blk4_cells h.cur, ⟨h.cur.frozen 0, h.cur.frozen 1, h.cur.frozen 2, h.cur.frozen 3⟩, ⟨h.res.frozen 0, h.res.frozen 1, h.res.frozen 2, h.res.frozen 3⟩, blk4_cells h.res⟩
end
/-- what reading a gauge leaves -/
def GPost (w : World) (g : Nat) (A : Option Addr) (bs : List UInt8) (c : Nat) (T : Option (G4 × Nat)) (w' : World) : Prop :=
  ∃ i' : Int, RdAt w' g A bs c i' T.isNone ∧ (∀ p, T = some p → i' = p.2) ∧ w.grownBy w' (some g)
set_option maxRecDepth 100000 in
set_option maxHeartbeats 3200000 in
theorem rgget_none1 (g : Nat) (A : Option Addr) (bs : List UInt8) (c dummy : Nat) (i0 : Int) (w : World) (hl : bs.length ≤ 140737488355328) (h0 : -9223372036854775808 ≤ i0) (h1 : i0 ≤ 9223372036854775807) (hr : RdAt w g A bs c i0 false) (hT : getAt bs i0 = none) :
    Calls Try.prog 28 #[.pointer (some ⟨g, 0, none⟩)] w fun e w' => e = .returned (.agg #[.int .u64 0, .int .u64 0, .int .u64 0, .int .u64 0]) ∧ GPost w g A bs c none w' := by
  have HS0 := Lib.hid (GS.start w hr)
  have HHT := Lib.hid hT
  clear hr hT
  go_enter Try.func28, Try.ntmps28
  go_wp2_with fail
  refine (num_none g A bs c i0 _ hl h0 h1 HS0.out.rd HHT.out).mono ?_
  rintro e W1 ⟨rfl, hp⟩
  obtain ⟨i1, hrd, hi, hg⟩ := hp
  have HS1 := Lib.hid (GS.call (bad' := true) HS0.out hrd hg)
  clear hrd hi hg
  obtain ⟨z2, y2, ⟨a0, a1, a2, a3⟩, ⟨m0, m1, m2, m3⟩, ⟨n0, n1, n2, n3⟩, ⟨r0, r1, r2, r3⟩⟩ := HS1.out.facts
  have HS2 := Lib.hid (HS1.out.set 1 0 rfl)
  go_wp2_with fail
  refine (num_bad g A bs c i1 _ HS2.out.rd).mono ?_
  rintro e W3 ⟨rfl, hp⟩
  obtain ⟨i3, hrd, hi, hg⟩ := hp
  have HS3 := Lib.hid (GS.call (bad' := true) HS2.out hrd hg)
  clear hrd hi hg
  clear z2 y2 a0 a1 a2 a3 m0 m1 m2 m3 n0 n1 n2 n3 r0 r1 r2 r3
  obtain ⟨z2, y2, ⟨a0, a1, a2, a3⟩, ⟨m0, m1, m2, m3⟩, ⟨n0, n1, n2, n3⟩, ⟨r0, r1, r2, r3⟩⟩ := HS3.out.facts
  have HS4 := Lib.hid (HS3.out.set 0 0 rfl)
  go_upto_region 4 with fail
  obtain ⟨W4, hW4⟩ : ∃ W', W3.setCell ⟨w.heap.size + 1, 0, none⟩ (.int .u64 0) = W' := ⟨_, rfl⟩
  rw [hW4] at HS4 ⊢
  clear hW4
  clear z2 y2 a0 a1 a2 a3 m0 m1 m2 m3 n0 n1 n2 n3 r0 r1 r2 r3
  obtain ⟨z2, y2, ⟨a0, a1, a2, a3⟩, ⟨m0, m1, m2, m3⟩, ⟨n0, n1, n2, n3⟩, ⟨r0, r1, r2, r3⟩⟩ := HS4.out.facts
  go_upto_region 9 with fail
  have HSz := Lib.hid HS4.out.wrong
  obtain ⟨Wz, hWz⟩ : ∃ W', W4.setCell ⟨g, 2, none⟩ (.bool true) = W' := ⟨_, rfl⟩
  rw [hWz] at HSz ⊢
  clear hWz
  clear z2 y2 a0 a1 a2 a3 m0 m1 m2 m3 n0 n1 n2 n3 r0 r1 r2 r3
  obtain ⟨z2, y2, ⟨a0, a1, a2, a3⟩, ⟨m0, m1, m2, m3⟩, ⟨n0, n1, n2, n3⟩, ⟨r0, r1, r2, r3⟩⟩ := HSz.out.facts
  go_wp2
  obtain ⟨k1, k2, k3⟩ := HSz.out.fin (.int .u64 0) (.int .u64 0) (.int .u64 0) (.int .u64 0)
  obtain ⟨q0, q1, q2, q3⟩ := blk4_cells k3
  simp only [set4v] at q0 q1 q2 q3
  exact bodyPost_ret (v := .agg #[.int .u64 0, .int .u64 0, .int .u64 0, .int .u64 0]) (by simp [results, Try.results28, go_sem, q0, q1, q2, q3]) rfl ⟨rfl, _, k1, fun p hp => (by cases hp), k2⟩
set_option maxRecDepth 100000 in
set_option maxHeartbeats 3200000 in
theorem rgget_none2 (g : Nat) (A : Option Addr) (bs : List UInt8) (c m a : Nat) (i0 : Int) (w : World) (hl : bs.length ≤ 140737488355328) (h0 : -9223372036854775808 ≤ i0) (h1 : i0 ≤ 9223372036854775807) (hr : RdAt w g A bs c i0 false) (hT : getAt bs i0 = some (m, a)) (hT2 : getAt bs (a : Int) = none) :
    Calls Try.prog 28 #[.pointer (some ⟨g, 0, none⟩)] w fun e w' => e = .returned (.agg #[.int .u64 0, .int .u64 0, .int .u64 0, .int .u64 0]) ∧ GPost w g A bs c none w' := by
  obtain ⟨b1, b2, b3, b4, _⟩ := getAt_bounds hT
  have HS0 := Lib.hid (GS.start w hr)
  have HHT := Lib.hid hT
  have HHT2 := Lib.hid hT2
  clear hr hT hT2
  go_enter Try.func28, Try.ntmps28
  go_wp2_with fail
  refine (num_some g A bs c i0 m a _ hl h0 h1 HS0.out.rd HHT.out).mono ?_
  rintro e W1 ⟨rfl, hp⟩
  obtain ⟨i1, hrd, hi, hg⟩ := hp
  obtain rfl := hi _ rfl
  have HS1 := Lib.hid (GS.call (bad' := false) HS0.out hrd hg)
  clear hrd hi hg
  obtain ⟨z2, y2, ⟨a0, a1, a2, a3⟩, ⟨m0, m1, m2, m3⟩, ⟨n0, n1, n2, n3⟩, ⟨r0, r1, r2, r3⟩⟩ := HS1.out.facts
  have HS2 := Lib.hid (HS1.out.set 1 (m : Int) rfl)
  go_wp2_with fail
  refine (num_none g A bs c (a : Int) _ hl (by omega) (by omega) HS2.out.rd HHT2.out).mono ?_
  rintro e W3 ⟨rfl, hp⟩
  obtain ⟨i3, hrd, hi, hg⟩ := hp
  have HS3 := Lib.hid (GS.call (bad' := true) HS2.out hrd hg)
  clear hrd hi hg
  clear z2 y2 a0 a1 a2 a3 m0 m1 m2 m3 n0 n1 n2 n3 r0 r1 r2 r3
  obtain ⟨z2, y2, ⟨a0, a1, a2, a3⟩, ⟨m0, m1, m2, m3⟩, ⟨n0, n1, n2, n3⟩, ⟨r0, r1, r2, r3⟩⟩ := HS3.out.facts
  have HS4 := Lib.hid (HS3.out.set 0 0 rfl)
  go_upto_region 4 with fail
  obtain ⟨W4, hW4⟩ : ∃ W', W3.setCell ⟨w.heap.size + 1, 0, none⟩ (.int .u64 0) = W' := ⟨_, rfl⟩
  rw [hW4] at HS4 ⊢
  clear hW4
  clear z2 y2 a0 a1 a2 a3 m0 m1 m2 m3 n0 n1 n2 n3 r0 r1 r2 r3
  obtain ⟨z2, y2, ⟨a0, a1, a2, a3⟩, ⟨m0, m1, m2, m3⟩, ⟨n0, n1, n2, n3⟩, ⟨r0, r1, r2, r3⟩⟩ := HS4.out.facts
  go_upto_region 9 with fail
  have HSz := Lib.hid HS4.out.wrong
  obtain ⟨Wz, hWz⟩ : ∃ W', W4.setCell ⟨g, 2, none⟩ (.bool true) = W' := ⟨_, rfl⟩
  rw [hWz] at HSz ⊢
  clear hWz
  clear z2 y2 a0 a1 a2 a3 m0 m1 m2 m3 n0 n1 n2 n3 r0 r1 r2 r3
  obtain ⟨z2, y2, ⟨a0, a1, a2, a3⟩, ⟨m0, m1, m2, m3⟩, ⟨n0, n1, n2, n3⟩, ⟨r0, r1, r2, r3⟩⟩ := HSz.out.facts
  go_wp2
  obtain ⟨k1, k2, k3⟩ := HSz.out.fin (.int .u64 0) (.int .u64 0) (.int .u64 0) (.int .u64 0)
  obtain ⟨q0, q1, q2, q3⟩ := blk4_cells k3
  simp only [set4v] at q0 q1 q2 q3
  exact bodyPost_ret (v := .agg #[.int .u64 0, .int .u64 0, .int .u64 0, .int .u64 0]) (by simp [results, Try.results28, go_sem, q0, q1, q2, q3]) rfl ⟨rfl, _, k1, fun p hp => (by cases hp), k2⟩
set_option maxRecDepth 100000 in
set_option maxHeartbeats 3200000 in
theorem rgget_zero (g : Nat) (A : Option Addr) (bs : List UInt8) (c m a b : Nat) (i0 : Int) (w : World) (hl : bs.length ≤ 140737488355328) (h0 : -9223372036854775808 ≤ i0) (h1 : i0 ≤ 9223372036854775807) (hr : RdAt w g A bs c i0 false) (hT : getAt bs i0 = some (m, a)) (hT2 : getAt bs (a : Int) = some (0, b)) :
    Calls Try.prog 28 #[.pointer (some ⟨g, 0, none⟩)] w fun e w' => e = .returned (.agg #[.int .u64 0, .int .u64 (m : Int), .int .u64 0, .int .u64 0]) ∧ GPost w g A bs c (some (⟨0, m, 0, 0⟩, b)) w' := by
  obtain ⟨b1, b2, b3, b4, _⟩ := getAt_bounds hT
  obtain ⟨_, _, b7, b8, _⟩ := getAt_bounds hT2
  have HC := Lib.hid (rcheck_at (c := true) (an := 0) (am := m) (al := 0) (ah := 0) ⟨by simp, b4, by simp, by simp⟩ (by simp [checkG]))
  have HS0 := Lib.hid (GS.start w hr)
  have HHT := Lib.hid hT
  have HHT2 := Lib.hid hT2
  clear hr hT hT2
  go_enter Try.func28, Try.ntmps28
  go_wp2_with fail
  refine (num_some g A bs c i0 m a _ hl h0 h1 HS0.out.rd HHT.out).mono ?_
  rintro e W1 ⟨rfl, hp⟩
  obtain ⟨i1, hrd, hi, hg⟩ := hp
  obtain rfl := hi _ rfl
  have HS1 := Lib.hid (GS.call (bad' := false) HS0.out hrd hg)
  clear hrd hi hg
  obtain ⟨z2, y2, ⟨a0, a1, a2, a3⟩, ⟨m0, m1, m2, m3⟩, ⟨n0, n1, n2, n3⟩, ⟨r0, r1, r2, r3⟩⟩ := HS1.out.facts
  have HS2 := Lib.hid (HS1.out.set 1 (m : Int) rfl)
  go_wp2_with fail
  refine (num_some g A bs c (a : Int) 0 b _ hl (by omega) (by omega) HS2.out.rd HHT2.out).mono ?_
  rintro e W3 ⟨rfl, hp⟩
  obtain ⟨i3, hrd, hi, hg⟩ := hp
  obtain rfl := hi _ rfl
  have HS3 := Lib.hid (GS.call (bad' := false) HS2.out hrd hg)
  clear hrd hi hg
  clear z2 y2 a0 a1 a2 a3 m0 m1 m2 m3 n0 n1 n2 n3 r0 r1 r2 r3
  obtain ⟨z2, y2, ⟨a0, a1, a2, a3⟩, ⟨m0, m1, m2, m3⟩, ⟨n0, n1, n2, n3⟩, ⟨r0, r1, r2, r3⟩⟩ := HS3.out.facts
  have HS4 := Lib.hid (HS3.out.set 0 0 rfl)
  go_upto_region 4 with fail
  obtain ⟨W4, hW4⟩ : ∃ W', W3.setCell ⟨w.heap.size + 1, 0, none⟩ (.int .u64 0) = W' := ⟨_, rfl⟩
  rw [hW4] at HS4 ⊢
  clear hW4
  clear z2 y2 a0 a1 a2 a3 m0 m1 m2 m3 n0 n1 n2 n3 r0 r1 r2 r3
  obtain ⟨z2, y2, ⟨a0, a1, a2, a3⟩, ⟨m0, m1, m2, m3⟩, ⟨n0, n1, n2, n3⟩, ⟨r0, r1, r2, r3⟩⟩ := HS4.out.facts
  go_wp2_with fail
  refine (HC.out _).mono ?_
  rintro e W5 ⟨rfl, hb⟩
  have HS5 := Lib.hid (HS4.out.below hb)
  clear hb
  clear z2 y2 a0 a1 a2 a3 m0 m1 m2 m3 n0 n1 n2 n3 r0 r1 r2 r3
  obtain ⟨z2, y2, ⟨a0, a1, a2, a3⟩, ⟨m0, m1, m2, m3⟩, ⟨n0, n1, n2, n3⟩, ⟨r0, r1, r2, r3⟩⟩ := HS5.out.facts
  go_wp2
  obtain ⟨k1, k2, k3⟩ := HS5.out.fin (.int .u64 0) (.int .u64 (m : Int)) (.int .u64 0) (.int .u64 0)
  obtain ⟨q0, q1, q2, q3⟩ := blk4_cells k3
  simp only [set4v] at q0 q1 q2 q3
  exact bodyPost_ret (v := .agg #[.int .u64 0, .int .u64 (m : Int), .int .u64 0, .int .u64 0]) (by simp [results, Try.results28, go_sem, q0, q1, q2, q3]) rfl ⟨rfl, _, k1, fun p hp => (by injection hp with hp; subst hp; rfl), k2⟩
set_option maxRecDepth 100000 in
set_option maxHeartbeats 3200000 in
theorem rgget_short1 (g : Nat) (A : Option Addr) (bs : List UInt8) (c m a k b : Nat) (i0 : Int) (w : World) (hl : bs.length ≤ 140737488355328) (h0 : -9223372036854775808 ≤ i0) (h1 : i0 ≤ 9223372036854775807) (hr : RdAt w g A bs c i0 false) (hT : getAt bs i0 = some (m, a)) (hT2 : getAt bs (a : Int) = some (k, b)) (hk : k ≠ 0) (hs : bs.length < b + 8) :
    Calls Try.prog 28 #[.pointer (some ⟨g, 0, none⟩)] w fun e w' => e = .returned (.agg #[.int .u64 0, .int .u64 0, .int .u64 0, .int .u64 0]) ∧ GPost w g A bs c none w' := by
  obtain ⟨b1, b2, b3, b4, _⟩ := getAt_bounds hT
  obtain ⟨_, _, b7, b8, _⟩ := getAt_bounds hT2
  have v0 : (0 : Int) < (k : Int) := by omega
  have HS0 := Lib.hid (GS.start w hr)
  have HHT := Lib.hid hT
  have HHT2 := Lib.hid hT2
  clear hr hT hT2
  go_enter Try.func28, Try.ntmps28
  go_wp2_with fail
  refine (num_some g A bs c i0 m a _ hl h0 h1 HS0.out.rd HHT.out).mono ?_
  rintro e W1 ⟨rfl, hp⟩
  obtain ⟨i1, hrd, hi, hg⟩ := hp
  obtain rfl := hi _ rfl
  have HS1 := Lib.hid (GS.call (bad' := false) HS0.out hrd hg)
  clear hrd hi hg
  obtain ⟨z2, y2, ⟨a0, a1, a2, a3⟩, ⟨m0, m1, m2, m3⟩, ⟨n0, n1, n2, n3⟩, ⟨r0, r1, r2, r3⟩⟩ := HS1.out.facts
  have HS2 := Lib.hid (HS1.out.set 1 (m : Int) rfl)
  go_wp2_with fail
  refine (num_some g A bs c (a : Int) k b _ hl (by omega) (by omega) HS2.out.rd HHT2.out).mono ?_
  rintro e W3 ⟨rfl, hp⟩
  obtain ⟨i3, hrd, hi, hg⟩ := hp
  obtain rfl := hi _ rfl
  have HS3 := Lib.hid (GS.call (bad' := false) HS2.out hrd hg)
  clear hrd hi hg
  clear z2 y2 a0 a1 a2 a3 m0 m1 m2 m3 n0 n1 n2 n3 r0 r1 r2 r3
  obtain ⟨z2, y2, ⟨a0, a1, a2, a3⟩, ⟨m0, m1, m2, m3⟩, ⟨n0, n1, n2, n3⟩, ⟨r0, r1, r2, r3⟩⟩ := HS3.out.facts
  have HS4 := Lib.hid (HS3.out.set 0 (k : Int) rfl)
  go_upto_region 4 with fail
  obtain ⟨W4, hW4⟩ : ∃ W', W3.setCell ⟨w.heap.size + 1, 0, none⟩ (.int .u64 (k : Int)) = W' := ⟨_, rfl⟩
  rw [hW4] at HS4 ⊢
  clear hW4
  clear z2 y2 a0 a1 a2 a3 m0 m1 m2 m3 n0 n1 n2 n3 r0 r1 r2 r3
  obtain ⟨z2, y2, ⟨a0, a1, a2, a3⟩, ⟨m0, m1, m2, m3⟩, ⟨n0, n1, n2, n3⟩, ⟨r0, r1, r2, r3⟩⟩ := HS4.out.facts
  go_wp2_with fail
  refine (fixed_short g A bs c b _ hl hs b7 HS4.out.rd).mono ?_
  rintro e W5 ⟨rfl, hp⟩
  have HS5 := Lib.hid (HS4.out.call hp.1 hp.2)
  clear hp
  clear z2 y2 a0 a1 a2 a3 m0 m1 m2 m3 n0 n1 n2 n3 r0 r1 r2 r3
  obtain ⟨z2, y2, ⟨a0, a1, a2, a3⟩, ⟨m0, m1, m2, m3⟩, ⟨n0, n1, n2, n3⟩, ⟨r0, r1, r2, r3⟩⟩ := HS5.out.facts
  have HS6 := Lib.hid (HS5.out.set 2 0 rfl)
  go_wp2_with fail
  refine (fixed_bad g A bs c (b : Int) _ HS6.out.rd).mono ?_
  rintro e W7 ⟨rfl, hp⟩
  have HS7 := Lib.hid (HS6.out.call hp.1 hp.2)
  clear hp
  clear z2 y2 a0 a1 a2 a3 m0 m1 m2 m3 n0 n1 n2 n3 r0 r1 r2 r3
  obtain ⟨z2, y2, ⟨a0, a1, a2, a3⟩, ⟨m0, m1, m2, m3⟩, ⟨n0, n1, n2, n3⟩, ⟨r0, r1, r2, r3⟩⟩ := HS7.out.facts
  have HS8 := Lib.hid (HS7.out.set 3 0 rfl)
  go_upto_region 7 with fail
  obtain ⟨W8, hW8⟩ : ∃ W', W7.setCell ⟨w.heap.size + 1, 3, none⟩ (.int .u64 0) = W' := ⟨_, rfl⟩
  rw [hW8] at HS8 ⊢
  clear hW8
  clear z2 y2 a0 a1 a2 a3 m0 m1 m2 m3 n0 n1 n2 n3 r0 r1 r2 r3
  obtain ⟨z2, y2, ⟨a0, a1, a2, a3⟩, ⟨m0, m1, m2, m3⟩, ⟨n0, n1, n2, n3⟩, ⟨r0, r1, r2, r3⟩⟩ := HS8.out.facts
  go_upto_region 9 with fail
  have HSz := Lib.hid HS8.out.wrong
  obtain ⟨Wz, hWz⟩ : ∃ W', W8.setCell ⟨g, 2, none⟩ (.bool true) = W' := ⟨_, rfl⟩
  rw [hWz] at HSz ⊢
  clear hWz
  clear z2 y2 a0 a1 a2 a3 m0 m1 m2 m3 n0 n1 n2 n3 r0 r1 r2 r3
  obtain ⟨z2, y2, ⟨a0, a1, a2, a3⟩, ⟨m0, m1, m2, m3⟩, ⟨n0, n1, n2, n3⟩, ⟨r0, r1, r2, r3⟩⟩ := HSz.out.facts
  go_wp2
  obtain ⟨k1, k2, k3⟩ := HSz.out.fin (.int .u64 0) (.int .u64 0) (.int .u64 0) (.int .u64 0)
  obtain ⟨q0, q1, q2, q3⟩ := blk4_cells k3
  simp only [set4v] at q0 q1 q2 q3
  exact bodyPost_ret (v := .agg #[.int .u64 0, .int .u64 0, .int .u64 0, .int .u64 0]) (by simp [results, Try.results28, go_sem, q0, q1, q2, q3]) rfl ⟨rfl, _, k1, fun p hp => (by cases hp), k2⟩
set_option maxRecDepth 100000 in
set_option maxHeartbeats 3200000 in
theorem rgget_short2 (g : Nat) (A : Option Addr) (bs : List UInt8) (c m a k b : Nat) (i0 : Int) (w : World) (hl : bs.length ≤ 140737488355328) (h0 : -9223372036854775808 ≤ i0) (h1 : i0 ≤ 9223372036854775807) (hr : RdAt w g A bs c i0 false) (hT : getAt bs i0 = some (m, a)) (hT2 : getAt bs (a : Int) = some (k, b)) (hk : k ≠ 0) (hs : ¬ bs.length < b + 8) (hs2 : bs.length < b + 16) :
    Calls Try.prog 28 #[.pointer (some ⟨g, 0, none⟩)] w fun e w' => e = .returned (.agg #[.int .u64 0, .int .u64 0, .int .u64 0, .int .u64 0]) ∧ GPost w g A bs c none w' := by
  obtain ⟨b1, b2, b3, b4, _⟩ := getAt_bounds hT
  obtain ⟨_, _, b7, b8, _⟩ := getAt_bounds hT2
  have v0 : (0 : Int) < (k : Int) := by omega
  obtain ⟨lo, hlo⟩ : ∃ lo, numN 8 (bs.drop b) = lo := ⟨_, rfl⟩
  have HS0 := Lib.hid (GS.start w hr)
  have HHT := Lib.hid hT
  have HHT2 := Lib.hid hT2
  have HHLO := Lib.hid hlo
  clear hr hT hT2 hlo
  go_enter Try.func28, Try.ntmps28
  go_wp2_with fail
  refine (num_some g A bs c i0 m a _ hl h0 h1 HS0.out.rd HHT.out).mono ?_
  rintro e W1 ⟨rfl, hp⟩
  obtain ⟨i1, hrd, hi, hg⟩ := hp
  obtain rfl := hi _ rfl
  have HS1 := Lib.hid (GS.call (bad' := false) HS0.out hrd hg)
  clear hrd hi hg
  obtain ⟨z2, y2, ⟨a0, a1, a2, a3⟩, ⟨m0, m1, m2, m3⟩, ⟨n0, n1, n2, n3⟩, ⟨r0, r1, r2, r3⟩⟩ := HS1.out.facts
  have HS2 := Lib.hid (HS1.out.set 1 (m : Int) rfl)
  go_wp2_with fail
  refine (num_some g A bs c (a : Int) k b _ hl (by omega) (by omega) HS2.out.rd HHT2.out).mono ?_
  rintro e W3 ⟨rfl, hp⟩
  obtain ⟨i3, hrd, hi, hg⟩ := hp
  obtain rfl := hi _ rfl
  have HS3 := Lib.hid (GS.call (bad' := false) HS2.out hrd hg)
  clear hrd hi hg
  clear z2 y2 a0 a1 a2 a3 m0 m1 m2 m3 n0 n1 n2 n3 r0 r1 r2 r3
  obtain ⟨z2, y2, ⟨a0, a1, a2, a3⟩, ⟨m0, m1, m2, m3⟩, ⟨n0, n1, n2, n3⟩, ⟨r0, r1, r2, r3⟩⟩ := HS3.out.facts
  have HS4 := Lib.hid (HS3.out.set 0 (k : Int) rfl)
  go_upto_region 4 with fail
  obtain ⟨W4, hW4⟩ : ∃ W', W3.setCell ⟨w.heap.size + 1, 0, none⟩ (.int .u64 (k : Int)) = W' := ⟨_, rfl⟩
  rw [hW4] at HS4 ⊢
  clear hW4
  clear z2 y2 a0 a1 a2 a3 m0 m1 m2 m3 n0 n1 n2 n3 r0 r1 r2 r3
  obtain ⟨z2, y2, ⟨a0, a1, a2, a3⟩, ⟨m0, m1, m2, m3⟩, ⟨n0, n1, n2, n3⟩, ⟨r0, r1, r2, r3⟩⟩ := HS4.out.facts
  go_wp2_with fail
  refine (fixed_ok g A bs c b lo _ hl (by omega) HS4.out.rd HHLO.out).mono ?_
  rintro e W5 ⟨rfl, hp⟩
  have HS5 := Lib.hid (HS4.out.call hp.1 hp.2)
  clear hp
  clear z2 y2 a0 a1 a2 a3 m0 m1 m2 m3 n0 n1 n2 n3 r0 r1 r2 r3
  obtain ⟨z2, y2, ⟨a0, a1, a2, a3⟩, ⟨m0, m1, m2, m3⟩, ⟨n0, n1, n2, n3⟩, ⟨r0, r1, r2, r3⟩⟩ := HS5.out.facts
  have HS6 := Lib.hid (HS5.out.set 2 (lo : Int) rfl)
  go_wp2_with fail
  refine (fixed_short g A bs c (b + 8) _ hl (by omega) (by omega) HS6.out.rd).mono ?_
  rintro e W7 ⟨rfl, hp⟩
  have HS7 := Lib.hid (HS6.out.call hp.1 hp.2)
  clear hp
  clear z2 y2 a0 a1 a2 a3 m0 m1 m2 m3 n0 n1 n2 n3 r0 r1 r2 r3
  obtain ⟨z2, y2, ⟨a0, a1, a2, a3⟩, ⟨m0, m1, m2, m3⟩, ⟨n0, n1, n2, n3⟩, ⟨r0, r1, r2, r3⟩⟩ := HS7.out.facts
  have HS8 := Lib.hid (HS7.out.set 3 0 rfl)
  go_upto_region 7 with fail
  obtain ⟨W8, hW8⟩ : ∃ W', W7.setCell ⟨w.heap.size + 1, 3, none⟩ (.int .u64 0) = W' := ⟨_, rfl⟩
  rw [hW8] at HS8 ⊢
  clear hW8
  clear z2 y2 a0 a1 a2 a3 m0 m1 m2 m3 n0 n1 n2 n3 r0 r1 r2 r3
  obtain ⟨z2, y2, ⟨a0, a1, a2, a3⟩, ⟨m0, m1, m2, m3⟩, ⟨n0, n1, n2, n3⟩, ⟨r0, r1, r2, r3⟩⟩ := HS8.out.facts
  go_upto_region 9 with fail
  have HSz := Lib.hid HS8.out.wrong
  obtain ⟨Wz, hWz⟩ : ∃ W', W8.setCell ⟨g, 2, none⟩ (.bool true) = W' := ⟨_, rfl⟩
  rw [hWz] at HSz ⊢
  clear hWz
  clear z2 y2 a0 a1 a2 a3 m0 m1 m2 m3 n0 n1 n2 n3 r0 r1 r2 r3
  obtain ⟨z2, y2, ⟨a0, a1, a2, a3⟩, ⟨m0, m1, m2, m3⟩, ⟨n0, n1, n2, n3⟩, ⟨r0, r1, r2, r3⟩⟩ := HSz.out.facts
  go_wp2
  obtain ⟨k1, k2, k3⟩ := HSz.out.fin (.int .u64 0) (.int .u64 0) (.int .u64 0) (.int .u64 0)
  obtain ⟨q0, q1, q2, q3⟩ := blk4_cells k3
  simp only [set4v] at q0 q1 q2 q3
  exact bodyPost_ret (v := .agg #[.int .u64 0, .int .u64 0, .int .u64 0, .int .u64 0]) (by simp [results, Try.results28, go_sem, q0, q1, q2, q3]) rfl ⟨rfl, _, k1, fun p hp => (by cases hp), k2⟩
set_option maxRecDepth 100000 in
set_option maxHeartbeats 3200000 in
theorem rgget_bad (g : Nat) (A : Option Addr) (bs : List UInt8) (c m a k b : Nat) (i0 : Int) (w : World) (hl : bs.length ≤ 140737488355328) (h0 : -9223372036854775808 ≤ i0) (h1 : i0 ≤ 9223372036854775807) (hr : RdAt w g A bs c i0 false) (hT : getAt bs i0 = some (m, a)) (hT2 : getAt bs (a : Int) = some (k, b)) (hk : k ≠ 0) (hs : ¬ bs.length < b + 16) (hck : checkG ⟨k, m, numN 8 (bs.drop b), numN 8 (bs.drop (b + 8))⟩ = false) :
    Calls Try.prog 28 #[.pointer (some ⟨g, 0, none⟩)] w fun e w' => e = .returned (.agg #[.int .u64 0, .int .u64 0, .int .u64 0, .int .u64 0]) ∧ GPost w g A bs c none w' := by
  obtain ⟨b1, b2, b3, b4, _⟩ := getAt_bounds hT
  obtain ⟨_, _, b7, b8, _⟩ := getAt_bounds hT2
  have v0 : (0 : Int) < (k : Int) := by omega
  obtain ⟨lo, hlo⟩ : ∃ lo, numN 8 (bs.drop b) = lo := ⟨_, rfl⟩
  obtain ⟨hi, hhi⟩ : ∃ hi, numN 8 (bs.drop (b + 8)) = hi := ⟨_, rfl⟩
  have hlo1 : lo < 18446744073709551616 := by rw [← hlo]; exact numN_lt 8 _
  have hhi1 : hi < 18446744073709551616 := by rw [← hhi]; exact numN_lt 8 _
  rw [hlo, hhi] at hck
  have HC := Lib.hid (rcheck_at (c := false) (an := k) (am := m) (al := lo) (ah := hi) ⟨b8, b4, hlo1, hhi1⟩ hck)
  clear hlo1 hhi1 hck
  have HS0 := Lib.hid (GS.start w hr)
  have HHT := Lib.hid hT
  have HHT2 := Lib.hid hT2
  have HHLO := Lib.hid hlo
  have HHHI := Lib.hid hhi
  clear hr hT hT2 hlo hhi
  go_enter Try.func28, Try.ntmps28
  go_wp2_with fail
  refine (num_some g A bs c i0 m a _ hl h0 h1 HS0.out.rd HHT.out).mono ?_
  rintro e W1 ⟨rfl, hp⟩
  obtain ⟨i1, hrd, hi, hg⟩ := hp
  obtain rfl := hi _ rfl
  have HS1 := Lib.hid (GS.call (bad' := false) HS0.out hrd hg)
  clear hrd hi hg
  obtain ⟨z2, y2, ⟨a0, a1, a2, a3⟩, ⟨m0, m1, m2, m3⟩, ⟨n0, n1, n2, n3⟩, ⟨r0, r1, r2, r3⟩⟩ := HS1.out.facts
  have HS2 := Lib.hid (HS1.out.set 1 (m : Int) rfl)
  go_wp2_with fail
  refine (num_some g A bs c (a : Int) k b _ hl (by omega) (by omega) HS2.out.rd HHT2.out).mono ?_
  rintro e W3 ⟨rfl, hp⟩
  obtain ⟨i3, hrd, hi, hg⟩ := hp
  obtain rfl := hi _ rfl
  have HS3 := Lib.hid (GS.call (bad' := false) HS2.out hrd hg)
  clear hrd hi hg
  clear z2 y2 a0 a1 a2 a3 m0 m1 m2 m3 n0 n1 n2 n3 r0 r1 r2 r3
  obtain ⟨z2, y2, ⟨a0, a1, a2, a3⟩, ⟨m0, m1, m2, m3⟩, ⟨n0, n1, n2, n3⟩, ⟨r0, r1, r2, r3⟩⟩ := HS3.out.facts
  have HS4 := Lib.hid (HS3.out.set 0 (k : Int) rfl)
  go_upto_region 4 with fail
  obtain ⟨W4, hW4⟩ : ∃ W', W3.setCell ⟨w.heap.size + 1, 0, none⟩ (.int .u64 (k : Int)) = W' := ⟨_, rfl⟩
  rw [hW4] at HS4 ⊢
  clear hW4
  clear z2 y2 a0 a1 a2 a3 m0 m1 m2 m3 n0 n1 n2 n3 r0 r1 r2 r3
  obtain ⟨z2, y2, ⟨a0, a1, a2, a3⟩, ⟨m0, m1, m2, m3⟩, ⟨n0, n1, n2, n3⟩, ⟨r0, r1, r2, r3⟩⟩ := HS4.out.facts
  go_wp2_with fail
  refine (fixed_ok g A bs c b lo _ hl (by omega) HS4.out.rd HHLO.out).mono ?_
  rintro e W5 ⟨rfl, hp⟩
  have HS5 := Lib.hid (HS4.out.call hp.1 hp.2)
  clear hp
  clear z2 y2 a0 a1 a2 a3 m0 m1 m2 m3 n0 n1 n2 n3 r0 r1 r2 r3
  obtain ⟨z2, y2, ⟨a0, a1, a2, a3⟩, ⟨m0, m1, m2, m3⟩, ⟨n0, n1, n2, n3⟩, ⟨r0, r1, r2, r3⟩⟩ := HS5.out.facts
  have HS6 := Lib.hid (HS5.out.set 2 (lo : Int) rfl)
  go_wp2_with fail
  refine (fixed_ok g A bs c (b + 8) hi _ hl (by omega) HS6.out.rd HHHI.out).mono ?_
  rintro e W7 ⟨rfl, hp⟩
  have HS7 := Lib.hid (HS6.out.call hp.1 hp.2)
  clear hp
  clear z2 y2 a0 a1 a2 a3 m0 m1 m2 m3 n0 n1 n2 n3 r0 r1 r2 r3
  obtain ⟨z2, y2, ⟨a0, a1, a2, a3⟩, ⟨m0, m1, m2, m3⟩, ⟨n0, n1, n2, n3⟩, ⟨r0, r1, r2, r3⟩⟩ := HS7.out.facts
  have HS8 := Lib.hid (HS7.out.set 3 (hi : Int) rfl)
  go_upto_region 7 with fail
  obtain ⟨W8, hW8⟩ : ∃ W', W7.setCell ⟨w.heap.size + 1, 3, none⟩ (.int .u64 (hi : Int)) = W' := ⟨_, rfl⟩
  rw [hW8] at HS8 ⊢
  clear hW8
  clear z2 y2 a0 a1 a2 a3 m0 m1 m2 m3 n0 n1 n2 n3 r0 r1 r2 r3
  obtain ⟨z2, y2, ⟨a0, a1, a2, a3⟩, ⟨m0, m1, m2, m3⟩, ⟨n0, n1, n2, n3⟩, ⟨r0, r1, r2, r3⟩⟩ := HS8.out.facts
  go_wp2_with fail
  refine (HC.out _).mono ?_
  rintro e W9 ⟨rfl, hb⟩
  have HS9 := Lib.hid (HS8.out.below hb)
  clear hb
  clear z2 y2 a0 a1 a2 a3 m0 m1 m2 m3 n0 n1 n2 n3 r0 r1 r2 r3
  obtain ⟨z2, y2, ⟨a0, a1, a2, a3⟩, ⟨m0, m1, m2, m3⟩, ⟨n0, n1, n2, n3⟩, ⟨r0, r1, r2, r3⟩⟩ := HS9.out.facts
  go_upto_region 9 with fail
  have HSz := Lib.hid HS9.out.wrong
  obtain ⟨Wz, hWz⟩ : ∃ W', W9.setCell ⟨g, 2, none⟩ (.bool true) = W' := ⟨_, rfl⟩
  rw [hWz] at HSz ⊢
  clear hWz
  clear z2 y2 a0 a1 a2 a3 m0 m1 m2 m3 n0 n1 n2 n3 r0 r1 r2 r3
  obtain ⟨z2, y2, ⟨a0, a1, a2, a3⟩, ⟨m0, m1, m2, m3⟩, ⟨n0, n1, n2, n3⟩, ⟨r0, r1, r2, r3⟩⟩ := HSz.out.facts
  go_wp2
  obtain ⟨k1, k2, k3⟩ := HSz.out.fin (.int .u64 0) (.int .u64 0) (.int .u64 0) (.int .u64 0)
  obtain ⟨q0, q1, q2, q3⟩ := blk4_cells k3
  simp only [set4v] at q0 q1 q2 q3
  exact bodyPost_ret (v := .agg #[.int .u64 0, .int .u64 0, .int .u64 0, .int .u64 0]) (by simp [results, Try.results28, go_sem, q0, q1, q2, q3]) rfl ⟨rfl, _, k1, fun p hp => (by cases hp), k2⟩
set_option maxRecDepth 100000 in
set_option maxHeartbeats 3200000 in
theorem rgget_good (g : Nat) (A : Option Addr) (bs : List UInt8) (c m a k b : Nat) (i0 : Int) (w : World) (hl : bs.length ≤ 140737488355328) (h0 : -9223372036854775808 ≤ i0) (h1 : i0 ≤ 9223372036854775807) (hr : RdAt w g A bs c i0 false) (hT : getAt bs i0 = some (m, a)) (hT2 : getAt bs (a : Int) = some (k, b)) (hk : k ≠ 0) (hs : ¬ bs.length < b + 16) (hck : checkG ⟨k, m, numN 8 (bs.drop b), numN 8 (bs.drop (b + 8))⟩ = true) :
    Calls Try.prog 28 #[.pointer (some ⟨g, 0, none⟩)] w fun e w' => e = .returned (.agg #[.int .u64 (k : Int), .int .u64 (m : Int), .int .u64 (numN 8 (bs.drop b) : Int), .int .u64 (numN 8 (bs.drop (b + 8)) : Int)]) ∧ GPost w g A bs c (some (⟨k, m, numN 8 (bs.drop b), numN 8 (bs.drop (b + 8))⟩, b + 16)) w' := by
  obtain ⟨b1, b2, b3, b4, _⟩ := getAt_bounds hT
  obtain ⟨_, _, b7, b8, _⟩ := getAt_bounds hT2
  have v0 : (0 : Int) < (k : Int) := by omega
  obtain ⟨lo, hlo⟩ : ∃ lo, numN 8 (bs.drop b) = lo := ⟨_, rfl⟩
  obtain ⟨hi, hhi⟩ : ∃ hi, numN 8 (bs.drop (b + 8)) = hi := ⟨_, rfl⟩
  have hlo1 : lo < 18446744073709551616 := by rw [← hlo]; exact numN_lt 8 _
  have hhi1 : hi < 18446744073709551616 := by rw [← hhi]; exact numN_lt 8 _
  rw [hlo, hhi] at hck ⊢
  have HC := Lib.hid (rcheck_at (c := true) (an := k) (am := m) (al := lo) (ah := hi) ⟨b8, b4, hlo1, hhi1⟩ hck)
  clear hlo1 hhi1 hck
  have HS0 := Lib.hid (GS.start w hr)
  have HHT := Lib.hid hT
  have HHT2 := Lib.hid hT2
  have HHLO := Lib.hid hlo
  have HHHI := Lib.hid hhi
  clear hr hT hT2 hlo hhi
  go_enter Try.func28, Try.ntmps28
  go_wp2_with fail
  refine (num_some g A bs c i0 m a _ hl h0 h1 HS0.out.rd HHT.out).mono ?_
  rintro e W1 ⟨rfl, hp⟩
  obtain ⟨i1, hrd, hi, hg⟩ := hp
  obtain rfl := hi _ rfl
  have HS1 := Lib.hid (GS.call (bad' := false) HS0.out hrd hg)
  clear hrd hi hg
  obtain ⟨z2, y2, ⟨a0, a1, a2, a3⟩, ⟨m0, m1, m2, m3⟩, ⟨n0, n1, n2, n3⟩, ⟨r0, r1, r2, r3⟩⟩ := HS1.out.facts
  have HS2 := Lib.hid (HS1.out.set 1 (m : Int) rfl)
  go_wp2_with fail
  refine (num_some g A bs c (a : Int) k b _ hl (by omega) (by omega) HS2.out.rd HHT2.out).mono ?_
  rintro e W3 ⟨rfl, hp⟩
  obtain ⟨i3, hrd, hi, hg⟩ := hp
  obtain rfl := hi _ rfl
  have HS3 := Lib.hid (GS.call (bad' := false) HS2.out hrd hg)
  clear hrd hi hg
  clear z2 y2 a0 a1 a2 a3 m0 m1 m2 m3 n0 n1 n2 n3 r0 r1 r2 r3
  obtain ⟨z2, y2, ⟨a0, a1, a2, a3⟩, ⟨m0, m1, m2, m3⟩, ⟨n0, n1, n2, n3⟩, ⟨r0, r1, r2, r3⟩⟩ := HS3.out.facts
  have HS4 := Lib.hid (HS3.out.set 0 (k : Int) rfl)
  go_upto_region 4 with fail
  obtain ⟨W4, hW4⟩ : ∃ W', W3.setCell ⟨w.heap.size + 1, 0, none⟩ (.int .u64 (k : Int)) = W' := ⟨_, rfl⟩
  rw [hW4] at HS4 ⊢
  clear hW4
  clear z2 y2 a0 a1 a2 a3 m0 m1 m2 m3 n0 n1 n2 n3 r0 r1 r2 r3
  obtain ⟨z2, y2, ⟨a0, a1, a2, a3⟩, ⟨m0, m1, m2, m3⟩, ⟨n0, n1, n2, n3⟩, ⟨r0, r1, r2, r3⟩⟩ := HS4.out.facts
  go_wp2_with fail
  refine (fixed_ok g A bs c b lo _ hl (by omega) HS4.out.rd HHLO.out).mono ?_
  rintro e W5 ⟨rfl, hp⟩
  have HS5 := Lib.hid (HS4.out.call hp.1 hp.2)
  clear hp
  clear z2 y2 a0 a1 a2 a3 m0 m1 m2 m3 n0 n1 n2 n3 r0 r1 r2 r3
  obtain ⟨z2, y2, ⟨a0, a1, a2, a3⟩, ⟨m0, m1, m2, m3⟩, ⟨n0, n1, n2, n3⟩, ⟨r0, r1, r2, r3⟩⟩ := HS5.out.facts
  have HS6 := Lib.hid (HS5.out.set 2 (lo : Int) rfl)
  go_wp2_with fail
  refine (fixed_ok g A bs c (b + 8) hi _ hl (by omega) HS6.out.rd HHHI.out).mono ?_
  rintro e W7 ⟨rfl, hp⟩
  have HS7 := Lib.hid (HS6.out.call hp.1 hp.2)
  clear hp
  clear z2 y2 a0 a1 a2 a3 m0 m1 m2 m3 n0 n1 n2 n3 r0 r1 r2 r3
  obtain ⟨z2, y2, ⟨a0, a1, a2, a3⟩, ⟨m0, m1, m2, m3⟩, ⟨n0, n1, n2, n3⟩, ⟨r0, r1, r2, r3⟩⟩ := HS7.out.facts
  have HS8 := Lib.hid (HS7.out.set 3 (hi : Int) rfl)
  go_upto_region 7 with fail
  obtain ⟨W8, hW8⟩ : ∃ W', W7.setCell ⟨w.heap.size + 1, 3, none⟩ (.int .u64 (hi : Int)) = W' := ⟨_, rfl⟩
  rw [hW8] at HS8 ⊢
  clear hW8
  clear z2 y2 a0 a1 a2 a3 m0 m1 m2 m3 n0 n1 n2 n3 r0 r1 r2 r3
  obtain ⟨z2, y2, ⟨a0, a1, a2, a3⟩, ⟨m0, m1, m2, m3⟩, ⟨n0, n1, n2, n3⟩, ⟨r0, r1, r2, r3⟩⟩ := HS8.out.facts
  go_wp2_with fail
  refine (HC.out _).mono ?_
  rintro e W9 ⟨rfl, hb⟩
  have HS9 := Lib.hid (HS8.out.below hb)
  clear hb
  clear z2 y2 a0 a1 a2 a3 m0 m1 m2 m3 n0 n1 n2 n3 r0 r1 r2 r3
  obtain ⟨z2, y2, ⟨a0, a1, a2, a3⟩, ⟨m0, m1, m2, m3⟩, ⟨n0, n1, n2, n3⟩, ⟨r0, r1, r2, r3⟩⟩ := HS9.out.facts
  go_wp2
  obtain ⟨k1, k2, k3⟩ := HS9.out.fin (.int .u64 (k : Int)) (.int .u64 (m : Int)) (.int .u64 (lo : Int)) (.int .u64 (hi : Int))
  obtain ⟨q0, q1, q2, q3⟩ := blk4_cells k3
  simp only [set4v] at q0 q1 q2 q3
  exact bodyPost_ret (v := .agg #[.int .u64 (k : Int), .int .u64 (m : Int), .int .u64 (lo : Int), .int .u64 (hi : Int)]) (by simp [results, Try.results28, go_sem, q0, q1, q2, q3]) rfl ⟨rfl, _, k1, fun p hp => (by injection hp with hp; subst hp; rfl), k2⟩
end Go.Proofs.Yteohmcjclmaanaa
