/- What gauge.Get computes: the walk. -/
import Derived.Test.YteohmcjclmaanaaGaugePutW
namespace Go.Proofs.Yteohmcjclmaanaa
set_option linter.unusedVariables false
set_option linter.unusedSimpArgs false
open Go.RowKit
def set4v (W : World) (g : Nat) (x0 x1 x2 x3 : Value) : World := (((W.setCell ⟨g, 0, none⟩ x0).setCell ⟨g, 1, none⟩ x1).setCell ⟨g, 2, none⟩ x2).setCell ⟨g, 3, none⟩ x3
theorem blk4 {W : World} {g : Nat} {t : TypeId} {a b c d : Value} (h : Blk W g t #[a, b, c, d]) (x0 x1 x2 x3 : Value) : Blk (set4v W g x0 x1 x2 x3) g t #[x0, x1, x2, x3] :=
  Blk.set_ (Blk.set_ (Blk.set_ (Blk.set_ h 0 x0) 1 x1) 2 x2) 3 x3
theorem blk4_cells {W : World} {g : Nat} {t : TypeId} {a b c d : Value} (h : Blk W g t #[a, b, c, d]) : W.cell? ⟨g, 0, none⟩ = some a ∧ W.cell? ⟨g, 1, none⟩ = some b ∧ W.cell? ⟨g, 2, none⟩ = some c ∧ W.cell? ⟨g, 3, none⟩ = some d :=
  ⟨by rw [h.cell]; rfl, by rw [h.cell]; rfl, by rw [h.cell]; rfl, by rw [h.cell]; rfl⟩
theorem blk_here {w : World} {t : TypeId} {cs : Array Value} {k : Nat} (h : k = w.heap.size) : Blk (w.alloc (.cells cs t)) k t cs := by subst h; exact Blk.new _ _ _
theorem below_set4v {B : Nat} {w W : World} {g : Nat} (hb : Below B w W) (hg : B ≤ g) (x0 x1 x2 x3 : Value) : Below B w (set4v W g x0 x1 x2 x3) :=
  (((hb.setCell (p := ⟨g, 0, none⟩) hg _).setCell (p := ⟨g, 1, none⟩) hg _).setCell (p := ⟨g, 2, none⟩) hg _).setCell (p := ⟨g, 3, none⟩) hg _
set_option maxRecDepth 100000 in
set_option maxHeartbeats 1600000 in
theorem gget_none (A : Option Addr) (bs : List UInt8) (n c : Nat) (i0 : Int) (w : World) (hn : bs.length = n) (hl : n ≤ 140737488355328) (h0 : -9223372036854775808 ≤ i0) (h1 : i0 ≤ 9223372036854775807) (hr : ReadsB w A bs) (hT : getAt bs i0 = none) :
    Calls Try.prog 26 #[.slice A n c, .int .i64 i0] w fun e w' => e = .returned (.tuple #[.agg #[.int .u64 0, .int .u64 0, .int .u64 0, .int .u64 0], .int .i64 0, .bool false]) ∧ Below w.heap.size w w' := by
  have HR := Lib.hid hr
  have HN := Lib.hid hn
  have HT := Lib.hid hT
  clear hr hn hT
  go_enter Try.func26, Try.ntmps26
  go_wp2_with fail
  refine (vget_none A bs n c i0 _ HN.out hl h0 h1 (HR.out.below (below_new _ _)) HT.out).mono ?_
  rintro e w1 ⟨rfl, rfl⟩
  go_wp2
  have hB : Blk (w.alloc (.cells #[.int .u64 0, .int .u64 0, .int .u64 0, .int .u64 0] 24)) w.heap.size 24 #[.int .u64 0, .int .u64 0, .int .u64 0, .int .u64 0] := Blk.new _ _ _
  obtain ⟨q0, q1, q2, q3⟩ := blk4_cells hB
  exact bodyPost_ret (v := .tuple #[.agg #[.int .u64 0, .int .u64 0, .int .u64 0, .int .u64 0], .int .i64 0, .bool false]) (by simp [results, Try.results26, go_sem, q0, q1, q2, q3]) rfl ⟨rfl, below_new _ _⟩
set_option maxRecDepth 100000 in
set_option maxHeartbeats 1600000 in
theorem gget_none2 (A : Option Addr) (bs : List UInt8) (n c m a : Nat) (i0 : Int) (w : World) (hn : bs.length = n) (hl : n ≤ 140737488355328) (h0 : -9223372036854775808 ≤ i0) (h1 : i0 ≤ 9223372036854775807) (hr : ReadsB w A bs) (hT : getAt bs i0 = some (m, a)) (hT2 : getAt bs (a : Int) = none) :
    Calls Try.prog 26 #[.slice A n c, .int .i64 i0] w fun e w' => e = .returned (.tuple #[.agg #[.int .u64 0, .int .u64 0, .int .u64 0, .int .u64 0], .int .i64 0, .bool false]) ∧ Below w.heap.size w w' := by
  obtain ⟨k1, k2, k3, k4, _⟩ := getAt_bounds hT
  rw [hn] at k3
  have HR := Lib.hid hr
  have HN := Lib.hid hn
  have HT := Lib.hid hT
  have HT2 := Lib.hid hT2
  clear hr hn hT hT2 k1 k2
  go_enter Try.func26, Try.ntmps26
  go_wp2_with fail
  refine (vget_some A bs n c i0 m a _ HN.out hl h0 h1 (HR.out.below (below_new _ _)) HT.out).mono ?_
  rintro e w1 ⟨rfl, rfl⟩
  go_wp2_with fail
  refine (vget_none A bs n c (a : Int) _ HN.out hl (by omega) (by omega) (HR.out.below (below_new _ _)) HT2.out).mono ?_
  rintro e w1 ⟨rfl, rfl⟩
  go_wp2
  have hB : Blk (w.alloc (.cells #[.int .u64 0, .int .u64 0, .int .u64 0, .int .u64 0] 24)) w.heap.size 24 #[.int .u64 0, .int .u64 0, .int .u64 0, .int .u64 0] := Blk.new _ _ _
  obtain ⟨q0, q1, q2, q3⟩ := blk4_cells hB
  exact bodyPost_ret (v := .tuple #[.agg #[.int .u64 0, .int .u64 0, .int .u64 0, .int .u64 0], .int .i64 0, .bool false]) (by simp [results, Try.results26, go_sem, q0, q1, q2, q3]) rfl ⟨rfl, below_new _ _⟩
set_option maxRecDepth 100000 in
set_option maxHeartbeats 1600000 in
theorem gget_short (A : Option Addr) (bs : List UInt8) (n c m a k b : Nat) (i0 : Int) (w : World) (hn : bs.length = n) (hl : n ≤ 140737488355328) (h0 : -9223372036854775808 ≤ i0) (h1 : i0 ≤ 9223372036854775807) (hr : ReadsB w A bs) (hT : getAt bs i0 = some (m, a)) (hT2 : getAt bs (a : Int) = some (k, b)) (hk : k ≠ 0) (hs : n < b + 16) :
    Calls Try.prog 26 #[.slice A n c, .int .i64 i0] w fun e w' => e = .returned (.tuple #[.agg #[.int .u64 0, .int .u64 0, .int .u64 0, .int .u64 0], .int .i64 0, .bool false]) ∧ Below w.heap.size w w' := by
  obtain ⟨k1, k2, k3, k4, _⟩ := getAt_bounds hT
  obtain ⟨_, _, k7, k8, _⟩ := getAt_bounds hT2
  rw [hn] at k3 k7
  have HR := Lib.hid hr
  have HN := Lib.hid hn
  have HT := Lib.hid hT
  have HT2 := Lib.hid hT2
  have q1 : (0 : Int) < (k : Int) := by omega
  have q2 : (n : Int) - (b : Int) < 16 := by omega
  clear hr hn hT hT2 k1 k2
  go_enter Try.func26, Try.ntmps26
  go_wp2_with fail
  refine (vget_some A bs n c i0 m a _ HN.out hl h0 h1 (HR.out.below (below_new _ _)) HT.out).mono ?_
  rintro e w1 ⟨rfl, rfl⟩
  go_wp2_with fail
  refine (vget_some A bs n c (a : Int) k b _ HN.out hl (by omega) (by omega) (HR.out.below (below_new _ _)) HT2.out).mono ?_
  rintro e w1 ⟨rfl, rfl⟩
  go_wp2
  have hB : Blk (w.alloc (.cells #[.int .u64 0, .int .u64 0, .int .u64 0, .int .u64 0] 24)) w.heap.size 24 #[.int .u64 0, .int .u64 0, .int .u64 0, .int .u64 0] := Blk.new _ _ _
  have hB2 := hB.alloc (.cells #[.int .u64 0, .int .u64 0] 58)
  obtain ⟨q0, q1, q2, q3⟩ := blk4_cells hB2
  exact bodyPost_ret (v := .tuple #[.agg #[.int .u64 0, .int .u64 0, .int .u64 0, .int .u64 0], .int .i64 0, .bool false]) (by simp [results, Try.results26, go_sem, q0, q1, q2, q3]) rfl ⟨rfl, (below_new _ _).alloc (by simp) _⟩
set_option maxRecDepth 100000 in
set_option maxHeartbeats 1600000 in
theorem gget_zero (A : Option Addr) (bs : List UInt8) (n c m a b : Nat) (i0 : Int) (w : World) (hn : bs.length = n) (hl : n ≤ 140737488355328) (h0 : -9223372036854775808 ≤ i0) (h1 : i0 ≤ 9223372036854775807) (hr : ReadsB w A bs) (hT : getAt bs i0 = some (m, a)) (hT2 : getAt bs (a : Int) = some (0, b)) :
    Calls Try.prog 26 #[.slice A n c, .int .i64 i0] w fun e w' => e = .returned (.tuple #[.agg #[.int .u64 0, .int .u64 (m : Int), .int .u64 0, .int .u64 0], .int .i64 (b : Int), .bool true]) ∧ Below w.heap.size w w' := by
  obtain ⟨k1, k2, k3, k4, _⟩ := getAt_bounds hT
  obtain ⟨_, _, k7, k8, _⟩ := getAt_bounds hT2
  rw [hn] at k3 k7
  have HC := Lib.hid (check_at (c := true) (an := 0) (am := m) (al := 0) (ah := 0) ⟨by simp, k4, by simp, by simp⟩ (by simp [checkG]))
  have HR := Lib.hid hr
  have HN := Lib.hid hn
  have HT := Lib.hid hT
  have HT2 := Lib.hid hT2
  clear hr hn hT hT2 k1 k2
  go_enter Try.func26, Try.ntmps26
  go_wp2_with fail
  refine (vget_some A bs n c i0 m a _ HN.out hl h0 h1 (HR.out.below (below_new _ _)) HT.out).mono ?_
  rintro e w1 ⟨rfl, rfl⟩
  go_wp2_with fail
  refine (vget_some A bs n c (a : Int) 0 b _ HN.out hl (by omega) (by omega) (HR.out.below (below_new _ _)) HT2.out).mono ?_
  rintro e w1 ⟨rfl, rfl⟩
  go_wp2_with fail
  have hR : Blk (((w.alloc (.cells #[.int .u64 0, .int .u64 0, .int .u64 0, .int .u64 0] 24)).alloc (.cells #[.int .u64 0, .int .u64 0] 58)).alloc (.cells #[.int .u64 0, .int .u64 (m : Int), .int .u64 0, .int .u64 0] 24)) w.heap.size 24 #[.int .u64 0, .int .u64 0, .int .u64 0, .int .u64 0] := ((Blk.new _ _ _).alloc _).alloc _
  have hG : Blk (((w.alloc (.cells #[.int .u64 0, .int .u64 0, .int .u64 0, .int .u64 0] 24)).alloc (.cells #[.int .u64 0, .int .u64 0] 58)).alloc (.cells #[.int .u64 0, .int .u64 (m : Int), .int .u64 0, .int .u64 0] 24)) (w.heap.size + 1 + 1) 24 #[.int .u64 0, .int .u64 (m : Int), .int .u64 0, .int .u64 0] := blk_here (by simp)
  have hB : Below w.heap.size w (((w.alloc (.cells #[.int .u64 0, .int .u64 0, .int .u64 0, .int .u64 0] 24)).alloc (.cells #[.int .u64 0, .int .u64 0] 58)).alloc (.cells #[.int .u64 0, .int .u64 (m : Int), .int .u64 0, .int .u64 0] 24)) := ((below_new _ _).alloc (by simp) _).alloc (by simp; omega) _
  refine (HC.out _).mono ?_
  rintro e w2 ⟨rfl, hb2⟩
  have hR2 := hR.below hb2
  have hb3 := below_then hB hb2
  obtain ⟨p0, p1, p2, p3⟩ := blk4_cells (hG.below hb2)
  have f0 := hR2.frozen 0
  have f1 := hR2.frozen 1
  have f2 := hR2.frozen 2
  have f3 := hR2.frozen 3
  obtain ⟨r0, r1, r2, r3⟩ := blk4_cells hR2
  have HR2 := Lib.hid hR2
  clear hR hG hB hb2 hR2
  go_wp2
  obtain ⟨q0, q1, q2, q3⟩ := blk4_cells (blk4 HR2.out (.int .u64 0) (.int .u64 (m : Int)) (.int .u64 0) (.int .u64 0))
  simp only [set4v] at q0 q1 q2 q3
  exact bodyPost_ret (v := .tuple #[.agg #[.int .u64 0, .int .u64 (m : Int), .int .u64 0, .int .u64 0], .int .i64 (b : Int), .bool true]) (by simp [results, Try.results26, go_sem, q0, q1, q2, q3]) rfl ⟨rfl, below_set4v hb3 (Nat.le_refl _) _ _ _ _⟩
end Go.Proofs.Yteohmcjclmaanaa
