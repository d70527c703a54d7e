/- What frame.Ends computes: the walk. -/
import Derived.Test.YtimmemkiilblcaaFrameIter
namespace Go.Proofs.Ytimmemkiilblcaa
set_option linter.unusedVariables false
set_option linter.unusedSimpArgs false
open Go.RowKit Go.Shelf
attribute [local go_sem] Oper.semAt_some
theorem all1_stops (n : Nat) (hn : 1 ≤ n) (Bn n₀ : Nat) (A : Option Addr) (bs : List UInt8) (c : Nat) (w0 w : World) (hl : bs.length ≤ 140737488355328) (hc : bs.length ≤ c) (hr : ReadsB w0 A bs) (hn0 : w0.heap.size = n₀)
    (hb0 : Below n₀ w0 w) (hBn : w.cell? ⟨Bn, 0, none⟩ = some (.slice A bs.length c)) (hBs : Bn < w.heap.size) :
    SeqStopsK Fence.wide n Try.prog 34 #[.pointer (some ⟨Bn, 0, none⟩)] (gencs bs) (KpF n₀ Bn) (fun ys => told ys = frames bs) (fun _ => True) (bs.length + 1) w := fun l J Jx W hW hJ hJx hY h0 => by
  have h1 := hb0.size
  refine all1_in n hn l Bn n₀ A bs c w0 hl hc hr hn0 J Jx hY W hJ (hb0.trans (hW.mono (by omega))) ?_ (by have := hW.size; omega) h0
  exact (World.cell?_of_block (hW.block Bn hBs)).trans hBn
theorem all_any (A : Option Addr) (n c : Nat) (w : World) :
    Calls Try.prog 27 #[.slice A n c] w fun e w' => e = .returned (.func (.func 34) #[] #[.pointer (some ⟨w.heap.size, 0, none⟩)]) ∧ w' = w.alloc (.cells #[.slice A n c] 22) := by
  go_enter Try.func27, Try.ntmps27
  go_wp2
  go_ret
  exact ⟨rfl, rfl⟩
theorem blk_kept {W W' : World} {g : Nat} {t : TypeId} {cs : Array Value} {row : Option Nat} (h : Blk W g t cs) (hg : W.grownBy W' row) (hr : ∀ r, row = some r → ∃ o : Obj, W.heap[r]? = some o ∧ o.isCells = false) : Blk W' g t cs := by
  refine (hg.block g (Blk.lt h) ?_).trans h
  intro he
  obtain ⟨o, ho, hc⟩ := hr g he.symm
  have h' : W.heap[g]? = some (.cells cs t (0, 0)) := h
  rw [h'] at ho
  injection ho with ho
  subst ho
  simp [Obj.isCells] at hc
theorem kpF_b {n₀ Bn : Nat} {w : World} (hn : n₀ ≤ w.heap.size) (hB : Bn < w.heap.size) (W : World) (l : Nat) (o o' : Obj) (hl : w.heap.size ≤ l) (h : W.heap[l]? = some o) (h1 : o.isCells = false) (h2 : o.isWalk = false) : KpF n₀ Bn W (W.putObj l o') :=
  ⟨belowK_b hn W l o o' hl h h1 h2, World.putObj_heap_other (by omega)⟩
theorem keeps_below {W W' : World} (hb : Below W.heap.size W W') : KeepsOthers W W' :=
  ⟨hb.size, fun k o hk _ => (hb.block k (Array.getElem?_eq_some_iff.1 hk).1).trans hk⟩
set_option maxRecDepth 100000 in
set_option maxHeartbeats 2000000 in
theorem ends_any (A : Option Addr) (bs : List UInt8) (n c : Nat) (w : World) (hn : bs.length = n) (hl : n ≤ 140737488355328) (hc : n ≤ c) (hr : ReadsB w A bs) :
    Calls Try.prog 17 #[.slice A n c] w fun e w' => e = .returned (.tuple #[.int .i64 (endOf (frames bs) : Int), .bool ((endOf (frames bs) : Int) == (n : Int))]) ∧ Below w.heap.size w w' := by
  subst hn
  have HR := Lib.hid hr
  clear hr
  refine (callsIn_wide (n := 3)).1 ?_
  refine callsIn_of_wp_marks Try.func17 rfl trivial ?_ rfl
  simp only [Try.ntmps17, List.size_toArray, List.length_cons, List.length_nil, Nat.reduceAdd, Nat.reduceSub, Array.replicate_succ, Array.replicate_zero, List.push_toArray, List.append_toArray, List.nil_append, List.cons_append]
  gi_wp2_with (refine ⟨trivial, ?_⟩; gi_at_call 27; refine (callsIn_wide.2 (all_any A bs.length c _)).mono ?_; rintro e w1 ⟨rfl, rfl⟩)
  have hB0 : Below w.heap.size w (((w.alloc (.cells #[.slice A bs.length c] 22)).alloc (.cells #[.int .i64 0] 3)).alloc (.cells #[.slice A bs.length c] 22)) := (below_two w _ _).alloc (by simp; omega) _
  have k0 : Blk (((w.alloc (.cells #[.slice A bs.length c] 22)).alloc (.cells #[.int .i64 0] 3)).alloc (.cells #[.slice A bs.length c] 22)) w.heap.size 22 #[.slice A bs.length c] := ((Blk.new _ _ _).alloc _).alloc _
  have k1 : Blk (((w.alloc (.cells #[.slice A bs.length c] 22)).alloc (.cells #[.int .i64 0] 3)).alloc (.cells #[.slice A bs.length c] 22)) (w.heap.size + 1) 3 #[.int .i64 0] := by
    have h := Blk.new (w.alloc (.cells #[.slice A bs.length c] 22)) 3 #[.int .i64 0]
    rw [show (w.alloc (.cells #[.slice A bs.length c] 22)).heap.size = w.heap.size + 1 by simp] at h
    exact h.alloc _
  have k2 : Blk (((w.alloc (.cells #[.slice A bs.length c] 22)).alloc (.cells #[.int .i64 0] 3)).alloc (.cells #[.slice A bs.length c] 22)) (w.heap.size + 1 + 1) 22 #[.slice A bs.length c] := by
    have h := Blk.new ((w.alloc (.cells #[.slice A bs.length c] 22)).alloc (.cells #[.int .i64 0] 3)) 22 #[.slice A bs.length c]
    rwa [show ((w.alloc (.cells #[.slice A bs.length c] 22)).alloc (.cells #[.int .i64 0] 3)).heap.size = w.heap.size + 1 + 1 by simp] at h
  obtain ⟨W0, hW0⟩ : ∃ W0, ((w.alloc (.cells #[.slice A bs.length c] 22)).alloc (.cells #[.int .i64 0] 3)).alloc (.cells #[.slice A bs.length c] 22) = W0 := ⟨_, rfl⟩
  have hsz : W0.heap.size = w.heap.size + 3 := by rw [← hW0]; simp
  rw [hW0] at hB0 k0 k1 k2 ⊢
  clear hW0
  refine wpIn_rangeFunc_ownF rfl (by decide) (gf := 34) (lb := #[.pointer (some ⟨w.heap.size + 1 + 1, 0, none⟩)]) rfl trivial (enters_of Try.func34 (by kernel_rfl) rfl)
    (all1_stops 2 (by decide) (w.heap.size + 1 + 1) w.heap.size A bs c w W0 hl hc HR.out rfl hB0 (by rw [k2.cell]; rfl) (by omega)) (fun h k => h.trans k) (kpF_b (by omega) (by omega)) (Below.refl _ _) (fun _ => rfl)
    (fun pre W => (Blk W w.heap.size 22 #[.slice A bs.length c] ∧ Blk W (w.heap.size + 1 + 1) 22 #[.slice A bs.length c] ∧ Blk W (w.heap.size + 1) 3 #[.int .i64 (endOf (told pre) : Int)]) ∧ Below w.heap.size w W)
    (fun _ _ _ => False)
    (OwnFrom.and (Own.from (fun s A B row hs hg hr => ⟨blk_kept hs.1 hg hr, blk_kept hs.2.1 hg hr, blk_kept hs.2.2 hg hr⟩) _) (ownFrom_below (Nat.le_refl _) (by omega)))
    (fun _ _ _ _ _ hs _ _ => hs)
    ⟨⟨k0, k2, k1⟩, hB0⟩
    (fun x => { tmps := #[.slice A bs.length c, .pointer (some ⟨w.heap.size, 0, none⟩), .int .i64 0, .bool false, .pointer (some ⟨w.heap.size + 1, 0, none⟩), .int .i64 (x.1.2.1 : Int), .slice A bs.length c, .func (.func 34) #[] #[.pointer (some ⟨w.heap.size + 1 + 1, 0, none⟩)], .int .i64 (x.1.2.1 : Int), .slice x.1.1.1 x.1.2.2.1.length x.1.1.2, undef, undef, undef, undef, undef, undef, undef, undef, undef, undef, undef, undef], defers := [] }) ?assign ?body ?done ?stop
  case assign =>
    intro l x W K hK
    simp only [gencs]
    gi_wp2
    exact hK
  case body =>
    rintro l pre ⟨⟨⟨Ax, cx⟩, ⟨a, B, e'⟩⟩, hx⟩ W ⟨⟨hk0, hk2, hk1⟩, hB⟩ _
    have HX := Lib.hid hx
    have c0 : W.cell? ⟨w.heap.size, 0, none⟩ = some (.slice A bs.length c) := by rw [hk0.cell]; rfl
    dsimp only
    have n1 : (1 : Nat) ≤ 3 - 1 - 1 := by decide
    gi_wp2_with (refine ⟨trivial, ?_⟩; gi_at_call 14; refine (CallsIn.inRound l (callsIn_wide.2 (fget_some A bs c a _ hl hc (HR.out.below hB) B e' _ HX.out rfl))).mono ?_; rintro e w1 ⟨A', c', rfl, hown, hb1⟩; have hq1 := hk1.below hb1; have d1 : w1.cell? ⟨w.heap.size + 1, 0, none⟩ = some (.int .i64 (endOf (told pre) : Int)) := (by rw [hq1.cell]; rfl); have d2 := hq1.frozen 0)
    refine ⟨(keeps_below hb1).trans (KeepsOthers.setCell _ _ _), ⟨(hb1.mono hB.size).setCell (p := ⟨w.heap.size + 1, 0, none⟩) (Nat.le_succ _) _, ?_⟩, ⟨⟨(hk0.below hb1).far (p := ⟨w.heap.size + 1, 0, none⟩) (Nat.ne_of_lt (Nat.lt_succ_self _)) _, (hk2.below hb1).far (p := ⟨w.heap.size + 1, 0, none⟩) (Nat.ne_of_gt (Nat.lt_succ_self _)) _, ?_⟩, (hB.trans (hb1.mono hB.size)).setCell (p := ⟨w.heap.size + 1, 0, none⟩) (Nat.le_succ _) _⟩⟩
    · exact (Below.heap_setCell _ _ _ _ (Nat.ne_of_gt (Nat.lt_succ_self _))).trans (hb1.block _ hk2.lt)
    · have h := hq1.set_ 0 (.int .i64 (e' : Int))
      rw [told_snoc, endOf_snoc]
      exact h
  case done =>
    rintro D ys W hD hys ⟨⟨hk0, hk2, hk1⟩, hB⟩ hK
    have c0 : W.cell? ⟨w.heap.size, 0, none⟩ = some (.slice A bs.length c) := by rw [hk0.cell]; rfl
    have c1 : W.cell? ⟨w.heap.size + 1, 0, none⟩ = some (.int .i64 (endOf (frames bs) : Int)) := by rw [hk1.cell, hys]; rfl
    gi_wp2
    refine (wpIn_wide (n := 3)).2 ?_
    go_quiet (fail)
    gi_wp2
    have hK' : (W.drewN nq).heap[D]? = some (.deferred (some [])) := hK
    refine ⟨by simp, .inl ⟨_, _, rfl, run_takeDeferred hK', ?_⟩⟩
    refine ⟨.tuple #[.int .i64 (endOf (frames bs) : Int), .bool ((endOf (frames bs) : Int) == (bs.length : Int))], ?_, rfl, (below_drewN hB nq).trans (belowK_b (w := w) (Nat.le_refl _) _ D _ _ (by omega) hK' rfl rfl)⟩
    simp [results, Try.f17, go_sem]
  case stop =>
    rintro D c pre W _ _ h _
    exact h.elim
end Go.Proofs.Ytimmemkiilblcaa
