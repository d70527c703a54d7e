/- GaugeBytes: what it comes to. -/
import Derived.Test.YteohmcjclmaanaaGaugeRefH
import Derived.Test.YteohmcjclmaanaaGaugeRefP
namespace Go.Proofs.Yteohmcjclmaanaa
set_option linter.unusedVariables false
set_option linter.unusedSimpArgs false
open Go.RowKit
def gAV : Option (G4 × Nat) → Value
  | none => .agg #[.int .u64 0, .int .u64 0, .int .u64 0, .int .u64 0]
  | some p => .agg #[.int .u64 (p.1.n : Int), .int .u64 (p.1.nans : Int), .int .u64 (p.1.lo : Int), .int .u64 (p.1.hi : Int)]
theorem rgget_any (g : Nat) (A : Option Addr) (bs : List UInt8) (c : Nat) (i0 : Int) (T : Option (G4 × Nat)) (w : World) (hl : bs.length ≤ 140737488355328) (h0 : -9223372036854775808 ≤ i0) (h1 : i0 ≤ 9223372036854775807) (hr : RdAt w g A bs c i0 false) (hT : getG bs i0 = T) :
    Calls Try.prog 28 #[.pointer (some ⟨g, 0, none⟩)] w fun e w' => e = .returned (gAV T) ∧ GPost w g A bs c T w' := by
  subst hT
  rcases e1 : getAt bs i0 with _ | ⟨m, a⟩
  · rw [getG_none1 e1]
    exact rgget_none1 g A bs c 0 i0 w hl h0 h1 hr e1
  rcases e2 : getAt bs (a : Int) with _ | ⟨k, b⟩
  · rw [getG_none2 e1 e2]
    exact rgget_none2 g A bs c m a i0 w hl h0 h1 hr e1 e2
  by_cases hk : k = 0
  · subst hk
    rw [getG_zero e1 e2]
    exact rgget_zero g A bs c m a b i0 w hl h0 h1 hr e1 e2
  by_cases hs : bs.length < b + 16
  · rw [getG_short e1 e2 hk hs]
    by_cases hs2 : bs.length < b + 8
    · exact rgget_short1 g A bs c m a k b i0 w hl h0 h1 hr e1 e2 hk hs2
    · exact rgget_short2 g A bs c m a k b i0 w hl h0 h1 hr e1 e2 hk hs2 hs
  rcases hck : checkG ⟨k, m, numN 8 (bs.drop b), numN 8 (bs.drop (b + 8))⟩ with _ | _
  · rw [getG_bad e1 e2 hk hs hck]
    exact rgget_bad g A bs c m a k b i0 w hl h0 h1 hr e1 e2 hk hs hck
  · rw [getG_good e1 e2 hk hs hck]
    exact rgget_good g A bs c m a k b i0 w hl h0 h1 hr e1 e2 hk hs hck
theorem bytesOwn_n (A : Option Addr) (bs : List UInt8) (n c : Nat) (w : World) (hn : bs.length = n) (hl : n ≤ 140737488355328) (hr : ReadsB w A bs) :
    Calls Try.prog 25 #[.slice A n c] w fun e w' => ∃ A' c', e = .returned (.slice A' n c') ∧ OwnB w' w.heap.size (.slice A' n c') bs ∧ Below w.heap.size w w' := by
  subst hn
  exact bytesOwn_any A bs c w hl hr
theorem gget_noneT (A : Option Addr) (bs : List UInt8) (n c : Nat) (i0 : Int) (w : World) (hn : bs.length = n) (hl : n ≤ 140737488355312) (h0 : -9223372036854775808 ≤ i0) (h1 : i0 ≤ 9223372036854775807) (hr : ReadsB w A bs) (hT : getG bs i0 = none) :
    Calls Try.prog 26 #[.slice A n c, .int .i64 i0] w fun e w' => e = .returned (.tuple #[.agg #[.int .u64 0, .int .u64 0, .int .u64 0, .int .u64 0], .int .i64 0, .bool false]) ∧ Below w.heap.size w w' := gget_any A bs n c i0 none w hn hl h0 h1 hr hT
theorem gget_someT (A : Option Addr) (bs : List UInt8) (n c : Nat) (i0 : Int) (k m l h e' : Nat) (w : World) (hn : bs.length = n) (hl : n ≤ 140737488355312) (h0 : -9223372036854775808 ≤ i0) (h1 : i0 ≤ 9223372036854775807) (hr : ReadsB w A bs) (hT : getG bs i0 = some (⟨k, m, l, h⟩, e')) :
    Calls Try.prog 26 #[.slice A n c, .int .i64 i0] w fun e w' => e = .returned (.tuple #[.agg #[.int .u64 (k : Int), .int .u64 (m : Int), .int .u64 (l : Int), .int .u64 (h : Int)], .int .i64 (e' : Int), .bool true]) ∧ Below w.heap.size w w' := gget_any A bs n c i0 (some (⟨k, m, l, h⟩, e')) w hn hl h0 h1 hr hT
theorem rgget_noneT (g : Nat) (A : Option Addr) (bs : List UInt8) (c : Nat) (i0 : Int) (w : World) (hl : bs.length ≤ 140737488355328) (h0 : -9223372036854775808 ≤ i0) (h1 : i0 ≤ 9223372036854775807) (hr : RdAt w g A bs c i0 false) (hT : getG bs i0 = none) :
    Calls Try.prog 28 #[.pointer (some ⟨g, 0, none⟩)] w fun e w' => e = .returned (.agg #[.int .u64 0, .int .u64 0, .int .u64 0, .int .u64 0]) ∧ GPost w g A bs c none w' := rgget_any g A bs c i0 none w hl h0 h1 hr hT
theorem rgget_someT (g : Nat) (A : Option Addr) (bs : List UInt8) (c : Nat) (i0 : Int) (k m l h e' : Nat) (w : World) (hl : bs.length ≤ 140737488355328) (h0 : -9223372036854775808 ≤ i0) (h1 : i0 ≤ 9223372036854775807) (hr : RdAt w g A bs c i0 false) (hT : getG bs i0 = some (⟨k, m, l, h⟩, e')) :
    Calls Try.prog 28 #[.pointer (some ⟨g, 0, none⟩)] w fun e w' => e = .returned (.agg #[.int .u64 (k : Int), .int .u64 (m : Int), .int .u64 (l : Int), .int .u64 (h : Int)]) ∧ RdAt w' g A bs c (e' : Int) false ∧ w.grownBy w' (some g) := by
  refine (rgget_any g A bs c i0 (some (⟨k, m, l, h⟩, e')) w hl h0 h1 hr hT).mono ?_
  rintro e w' ⟨rfl, i', hrd, hi, hg⟩
  obtain rfl := hi _ rfl
  exact ⟨rfl, hrd, hg⟩
theorem wpAnyH_mono {P : Program} {ops : Array Oper} {Q : Exit → Act → World → Prop} {md : Region.Mode} {S S' : World → Prop} (h : ∀ w, S' w → S w) : ∀ (fuel : Nat) {listed : Array Bool} {a : Act} {w : World}, wpAnyH P md ops Q S' fuel listed a w → wpAnyH P md ops Q S fuel listed a w
  | 0, _, _, _, H => H
  | fuel + 1, _, _, _, H => ⟨H.1, fun i hi => wpOp_mono (fun a' w' h' => ⟨h _ h'.1, wpAnyH_mono h fuel h'.2⟩) (H.2 i hi)⟩
set_option maxRecDepth 100000 in
set_option maxHeartbeats 6400000 in
theorem gaugeBytes_walk (x0 : G4) (A : Option Addr) (bs : List UInt8) (c : Nat) (x2 : Int) (w : World) (wf0 : x0.wf) (hr : ReadsB w A bs) (hc : bs.length ≤ c) (hb : c ≤ 140737488351232) (wf2 : (Lit.int .i64 x2).wf = true) :
    Calls Try.prog 10 #[gval x0, .slice A bs.length c, .int .i64 x2] w fun e w' => e = .returned (.bool true) ∧ Below w.heap.size w w' := by
  obtain ⟨gn, gm, lo, hi⟩ := x0
  obtain ⟨n, hn⟩ : ∃ n, bs.length = n := ⟨_, rfl⟩
  obtain ⟨x, hx⟩ : ∃ x, (bs ++ encG ⟨gn, gm, lo, hi⟩).length = x := ⟨_, rfl⟩
  obtain ⟨y, hy⟩ : ∃ y, (encG ⟨gn, gm, lo, hi⟩).length = y := ⟨_, rfl⟩
  obtain ⟨T, hT⟩ : ∃ T, getG bs x2 = T := ⟨_, rfl⟩
  obtain ⟨ck, hck⟩ : ∃ ck, checkG ⟨gn, gm, lo, hi⟩ = ck := ⟨_, rfl⟩
  have hxn : x = n + y := by rw [← hx, ← hn, ← hy, List.length_append]
  have hy36 : y ≤ 36 := by rw [← hy]; exact encG_length _ wf0
  have HW := Lib.hid wf0
  have HR := Lib.hid hr
  have HN := Lib.hid hn
  have HXN := Lib.hid hxn
  have hx36 : x ≤ 140737488351268 := by omega
  have HX := Lib.hid hx
  have HY := Lib.hid hy
  have HT := Lib.hid hT
  have HCK := Lib.hid hck
  have HC := Lib.hid (rcheck_at wf0 hck)
  have H2 := Lib.hid (wf_i64 wf2)
  rw [hn] at hc ⊢
  clear wf0 hr hn hx hy hT hck wf2 hxn
  show Calls Try.prog 10 #[.agg #[.int .u64 (gn : Int), .int .u64 (gm : Int), .int .u64 (lo : Int), .int .u64 (hi : Int)], .slice A n c, .int .i64 x2] w _
  go_enter Try.func10, Try.ntmps10
  go_wp2_with fail
  obtain ⟨w0, hw0⟩ : ∃ w0, w0 = w.alloc (.cells #[.int .u64 (gn : Int), .int .u64 (gm : Int), .int .u64 (lo : Int), .int .u64 (hi : Int)] 24) := ⟨_, rfl⟩
  have hb0 : Below w.heap.size w w0 := by rw [hw0]; exact below_new _ _
  have ga : GB w0 w.heap.size gn gm lo hi := by rw [hw0]; exact GB.new _ _ _ _ _
  rw [← hw0]
  have GA := Lib.hid ga
  obtain ⟨p0, p1, p2, p3⟩ := ga.rules
  clear hw0 ga
  have hS0 : Below w0.heap.size w0 w0 := Below.refl _ _
  go_region_held3 (fun W' => Below w0.heap.size w0 W') (first | exact (Below.refl _ _).drew | exact below_then (by assumption) (by assumption) | assumption) (first
    | (go_at_call 25; (with_reducible refine (bytesOwn_n A bs n c _ HN.out (by omega) (HR.out.below (below_then hb0 (by assumption)))).mono ?_); rintro e w2 ⟨A2, c2, rfl, ho2, hb2⟩)
    | (go_at_call 24; (with_reducible refine (gput_any A2 bs n c2 gn gm lo hi x _ HN.out (by omega) (own_cap (ownB_of ho2 HN.out)) ho2.reads HW.out HX.out).mono ?_); rintro e w3 ⟨A3, c3, rfl, ho3, hb3⟩))
  all_goals
    have hS3 : Below w0.heap.size w0 w3 := by assumption
    have HO3 := Lib.hid ho3
    have hcap3 : x ≤ c3 := own_cap (ownB_of ho3 HX.out)
    have hb3' := below_then hb0 hS3
    have HG3 := Lib.hid (GA.out.below hS3)
    obtain ⟨c0, c1', c2', c3'⟩ := HG3.out.cells
    clear ho2 ho3 hb2 hb3 p0 p1 p2 p3 hS0 GA hb0 hS3
    go_wp2_with fail
    refine (HC.out _).mono ?_
    rintro e w4 ⟨rfl, hb4⟩
    have hb4' := below_then hb3' hb4
    have HG4 := Lib.hid (HG3.out.below hb4)
    have HR4 := Lib.hid (HO3.out.reads.below hb4)
    clear c0 c1' c2' c3' HG3 HO3 hb3' hb4
    rcases ck with _ | _
    · go_wp2_with fail
      refine (bytesOwn_n A bs n c _ HN.out (by omega) (HR.out.below hb4')).mono ?_
      rintro e w8 ⟨A8, c8, rfl, ho8, hb8⟩
      have hb8' := below_then hb4' hb8
      have hc8 : n ≤ c8 := own_cap (ownB_of ho8 HN.out)
      have HR8 := Lib.hid ho8.reads
      clear ho8
      go_wp2_with fail
      rcases T with _ | ⟨⟨tk, tm, tl, th⟩, te⟩
      · refine (gget_noneT A8 bs n c8 x2 _ HN.out (by omega) H2.out.1 H2.out.2 HR8.out HT.out).mono ?_
        rintro e w9 ⟨rfl, hb9⟩
        have hb9' := below_then hb8' hb9
        have HRX : Hid (ReadsB w9 A bs) := HR.out.below hb9'
        go_wp2_with fail
        have hrd : RdAt ((w9.alloc (.cells #[.int .u64 0, .int .u64 0, .int .u64 0, .int .u64 0] 24)).alloc (.cells #[.slice A n c, .int .i64 x2, .bool false] 50)) (w9.heap.size + 1) A bs c x2 false := ⟨by unfold rcells; rw [HN.out]; exact blk_here (by simp), HRX.out.below ((below_new _ _).alloc (by simp) _)⟩
        have hhB : Blk ((w9.alloc (.cells #[.int .u64 0, .int .u64 0, .int .u64 0, .int .u64 0] 24)).alloc (.cells #[.slice A n c, .int .i64 x2, .bool false] 50)) w9.heap.size 24 #[.int .u64 0, .int .u64 0, .int .u64 0, .int .u64 0] := (Blk.new _ _ _).alloc _
        have hbA : Below w.heap.size w ((w9.alloc (.cells #[.int .u64 0, .int .u64 0, .int .u64 0, .int .u64 0] 24)).alloc (.cells #[.slice A n c, .int .i64 x2, .bool false] 50)) := (hb9'.alloc hb9'.size _).alloc (by have := hb9'.size; simp; omega) _
        refine (rgget_noneT (w9.heap.size + 1) A bs c x2 _ (by rw [HN.out]; omega) H2.out.1 H2.out.2 hrd HT.out).mono ?_
        rintro e w11 ⟨rfl, hp⟩
        obtain ⟨i', hrd', hi', hg'⟩ := hp
        obtain ⟨h0, h1, h2, h3⟩ := blk4_cells (blk_grown hhB hg' (by intro he; injection he; omega))
        have hbB : Below w.heap.size w w11 := hbA.grown hg' hbA.size (by intro k hk; injection hk with hk; have := hb9'.size; omega)
        have d1 := hrd'.c1
        have hz := hrd'.blk.lt
        have hz2 : w9.heap.size < w11.heap.size := by omega
        have d2 : w11.cell? ⟨w9.heap.size + 1, 2, none⟩ = some (.bool true) := hrd'.c2
        clear hrd hhB hbA hrd' hg' hi'
        go_wp2_with fail
        refine (awake_any _).mono ?_
        rintro e w12 ⟨rfl, hb12⟩
        have hb13 : Below w.heap.size w w12 := below_then (hbB.alloc hbB.size _) hb12
        go_wp2
        go_ret
        exact ⟨rfl, hb13⟩
      · refine (gget_someT A8 bs n c8 x2 tk tm tl th te _ HN.out (by omega) H2.out.1 H2.out.2 HR8.out HT.out).mono ?_
        rintro e w9 ⟨rfl, hb9⟩
        have hb9' := below_then hb8' hb9
        have HRX : Hid (ReadsB w9 A bs) := HR.out.below hb9'
        go_wp2_with fail
        have hrd : RdAt ((w9.alloc (.cells #[.int .u64 (tk : Int), .int .u64 (tm : Int), .int .u64 (tl : Int), .int .u64 (th : Int)] 24)).alloc (.cells #[.slice A n c, .int .i64 x2, .bool false] 50)) (w9.heap.size + 1) A bs c x2 false := ⟨by unfold rcells; rw [HN.out]; exact blk_here (by simp), HRX.out.below ((below_new _ _).alloc (by simp) _)⟩
        have hhB : Blk ((w9.alloc (.cells #[.int .u64 (tk : Int), .int .u64 (tm : Int), .int .u64 (tl : Int), .int .u64 (th : Int)] 24)).alloc (.cells #[.slice A n c, .int .i64 x2, .bool false] 50)) w9.heap.size 24 #[.int .u64 (tk : Int), .int .u64 (tm : Int), .int .u64 (tl : Int), .int .u64 (th : Int)] := (Blk.new _ _ _).alloc _
        have hbA : Below w.heap.size w ((w9.alloc (.cells #[.int .u64 (tk : Int), .int .u64 (tm : Int), .int .u64 (tl : Int), .int .u64 (th : Int)] 24)).alloc (.cells #[.slice A n c, .int .i64 x2, .bool false] 50)) := (hb9'.alloc hb9'.size _).alloc (by have := hb9'.size; simp; omega) _
        refine (rgget_someT (w9.heap.size + 1) A bs c x2 tk tm tl th te _ (by rw [HN.out]; omega) H2.out.1 H2.out.2 hrd HT.out).mono ?_
        rintro e w11 ⟨rfl, hp⟩
        obtain ⟨hrd', hg'⟩ := hp
        obtain ⟨h0, h1, h2, h3⟩ := blk4_cells (blk_grown hhB hg' (by intro he; injection he; omega))
        have hbB : Below w.heap.size w w11 := hbA.grown hg' hbA.size (by intro k hk; injection hk with hk; have := hb9'.size; omega)
        have d1 := hrd'.c1
        have hz := hrd'.blk.lt
        have hz2 : w9.heap.size < w11.heap.size := by omega
        have d2 : w11.cell? ⟨w9.heap.size + 1, 2, none⟩ = some (.bool false) := hrd'.c2
        clear hrd hhB hbA hrd' hg'
        go_wp2_with fail
        refine (awake_any _).mono ?_
        rintro e w12 ⟨rfl, hb12⟩
        have hb13 : Below w.heap.size w w12 := below_then (hbB.alloc hbB.size _) hb12
        go_wp2
        go_ret
        exact ⟨rfl, hb13⟩
    · go_wp2_with fail
      refine (gget_someT A3 (bs ++ encG ⟨gn, gm, lo, hi⟩) x c3 (n : Int) gn gm lo hi x _ HX.out (by omega) (by omega) (by omega) HR4.out (by have := get_put bs _ HW.out HCK.out; rw [HN.out, HX.out] at this; exact this)).mono ?_
      rintro e w5 ⟨rfl, hb5⟩
      have hb5' := below_then hb4' hb5
      have HG5 := Lib.hid (HG4.out.below hb5)
      have HR5 := Lib.hid (HR4.out.below hb5)
      clear HG4 HR4 hb5
      go_wp2
      obtain ⟨w6, hw6⟩ : ∃ w6, w5.alloc (.cells #[.int .u64 (gn : Int), .int .u64 (gm : Int), .int .u64 (lo : Int), .int .u64 (hi : Int)] 24) = w6 := ⟨_, rfl⟩
      have hb6' : Below w.heap.size w w6 := by rw [← hw6]; exact hb5'.alloc hb5'.size _
      have hG6 : GB w6 w.heap.size gn gm lo hi := by rw [← hw6]; exact Blk.alloc HG5.out _
      have hH6 : GB w6 w5.heap.size gn gm lo hi := by rw [← hw6]; exact Blk.new _ _ _
      have hR6 : ReadsB w6 A3 (bs ++ encG ⟨gn, gm, lo, hi⟩) := by rw [← hw6]; exact HR5.out.below (below_new _ _)
      rw [hw6]
      clear hw6
      obtain ⟨p0, p1, p2, p3⟩ := hG6.rules
      obtain ⟨h0, h1, h2, h3⟩ := hH6.rules
      obtain ⟨X, hX⟩ : ∃ X, bs ++ encG ⟨gn, gm, lo, hi⟩ = X := ⟨_, rfl⟩
      have hSS : strOf bs ++ strOf (encG ⟨gn, gm, lo, hi⟩) = strOf X := by rw [← hX, strOf_append]
      have hzz : ¬ (9223372036854775807 < (strOf bs).size + (strOf (encG ⟨gn, gm, lo, hi⟩)).size) := by rw [strOf_size, strOf_size, HN.out, HY.out]; omega
      rw [hX] at hR6
      have hs1 := string_rule hR6 x c3 (by rw [← hX]; exact HX.out)
      have hs2 := string_rule (HR.out.below hb6') n c HN.out
      have hS0 : Below w6.heap.size w6 w6.drew := (Below.refl _ _).drew
      clear hG6 hH6 hR6 hX
      refine wp_region_held_drew (S := fun w' => Below w6.heap.size w6 w') (by kernel_rfl) hS0 (fun _ => ?_)
      -- 0: slot 30 := Op.move t7
      refine wpAnyH_take (i := 0) (v := ?_) rfl (by kernel_rfl) (by kernel_rfl) (by kernel_rfl) (fun _ _ _ h => h) (Or.inl ⟨by rfl, ?_⟩) (by assumption) ?_
      rotate_left
      · intro w hSw; go_simp; try with_reducible rfl
      try simp only [Act.put, List.setIfInBounds_toArray, List.set_cons_zero, List.set_cons_succ, List.getElem_toArray, List.getElem_cons_zero, List.getElem_cons_succ]
      -- 1: slot 31 := Op.convert 42 9 t30
      refine wpAnyH_take (i := 1) (v := ?_) rfl (by kernel_rfl) (by kernel_rfl) (by kernel_rfl) (fun _ _ _ h => h) (Or.inl ⟨by rfl, ?_⟩) (by assumption) ?_
      rotate_left
      · intro w hSw; go_simp; try with_reducible rfl
      try simp only [Act.put, List.setIfInBounds_toArray, List.set_cons_zero, List.set_cons_succ, List.getElem_toArray, List.getElem_cons_zero, List.getElem_cons_succ]
      -- 2: slot 32 := Op.move t1
      refine wpAnyH_take (i := 2) (v := ?_) rfl (by kernel_rfl) (by kernel_rfl) (by kernel_rfl) (fun _ _ _ h => h) (Or.inl ⟨by rfl, ?_⟩) (by assumption) ?_
      rotate_left
      · intro w hSw; go_simp; try with_reducible rfl
      try simp only [Act.put, List.setIfInBounds_toArray, List.set_cons_zero, List.set_cons_succ, List.getElem_toArray, List.getElem_cons_zero, List.getElem_cons_succ]
      -- 3: slot 33 := Op.convert 42 9 t32
      refine wpAnyH_take (i := 3) (v := ?_) rfl (by kernel_rfl) (by kernel_rfl) (by kernel_rfl) (fun _ _ _ h => h) (Or.inl ⟨by rfl, ?_⟩) (by assumption) ?_
      rotate_left
      · intro w hSw; go_simp; try with_reducible rfl
      try simp only [Act.put, List.setIfInBounds_toArray, List.set_cons_zero, List.set_cons_succ, List.getElem_toArray, List.getElem_cons_zero, List.getElem_cons_succ]
      -- 4: slot 34 := Op.load 24 t3
      refine wpAnyH_take (i := 4) (v := ?_) rfl (by kernel_rfl) (by kernel_rfl) (by kernel_rfl) (fun _ _ _ h => h) (Or.inl ⟨by rfl, ?_⟩) (by assumption) ?_
      rotate_left
      · intro w hSw; go_simp; try with_reducible rfl
      try simp only [Act.put, List.setIfInBounds_toArray, List.set_cons_zero, List.set_cons_succ, List.getElem_toArray, List.getElem_cons_zero, List.getElem_cons_succ]
      -- 5: slot 35 := Op.call { value, args := #[t34], argTypes := #[24] }
      refine wpAnyH_ready (rs := [5]) (by kernel_rfl) (by simp) ?_
      refine AllReadyH.cons rfl (fun K hK => ?_) AllReadyH.nil
      go_simp
      refine (rgput_any gn gm lo hi y _ HW.out HY.out).mono ?_
      rintro e w7 ⟨A7, c7, rfl, ho7, hb7⟩
      have hs3 := string_rule ho7.reads y c7 HY.out
      have hb67 := below_then hS0 hb7
      refine hK.out _ _ hb67 (fun hHeld => ?_)
      clear hK K
      refine wpAnyH_mono (S' := fun w' => Below w7.heap.size w7 w') (fun W h => below_then hb67 h) _ ?_
      have hS1 : Below w7.heap.size w7 w7 := Below.refl _ _
      replace p0 : ∀ V : World, Below w7.heap.size w7 V → _ := fun V h => p0 V (below_then hb67 h)
      replace p1 : ∀ V : World, Below w7.heap.size w7 V → _ := fun V h => p1 V (below_then hb67 h)
      replace p2 : ∀ V : World, Below w7.heap.size w7 V → _ := fun V h => p2 V (below_then hb67 h)
      replace p3 : ∀ V : World, Below w7.heap.size w7 V → _ := fun V h => p3 V (below_then hb67 h)
      replace h0 : ∀ V : World, Below w7.heap.size w7 V → _ := fun V h => h0 V (below_then hb67 h)
      replace h1 : ∀ V : World, Below w7.heap.size w7 V → _ := fun V h => h1 V (below_then hb67 h)
      replace h2 : ∀ V : World, Below w7.heap.size w7 V → _ := fun V h => h2 V (below_then hb67 h)
      replace h3 : ∀ V : World, Below w7.heap.size w7 V → _ := fun V h => h3 V (below_then hb67 h)
      replace hs1 : ∀ V : World, Below w7.heap.size w7 V → _ := fun V h => hs1 V (below_then hb67 h)
      try simp only [Act.put, List.setIfInBounds_toArray, List.set_cons_zero, List.set_cons_succ, List.getElem_toArray, List.getElem_cons_zero, List.getElem_cons_succ]
      -- 6: slot 36 := Op.convert 42 9 t35
      refine wpAnyH_take (i := 6) (v := ?_) rfl (by kernel_rfl) (by kernel_rfl) (by kernel_rfl) (fun _ _ _ h => h) (Or.inl ⟨by rfl, ?_⟩) (by assumption) ?_
      rotate_left
      · intro w hSw; go_simp; try with_reducible rfl
      try simp only [Act.put, List.setIfInBounds_toArray, List.set_cons_zero, List.set_cons_succ, List.getElem_toArray, List.getElem_cons_zero, List.getElem_cons_succ]
      -- 7: slot 37 := Op.binOp BinOp.add 9 t33 t36 9
      refine wpAnyH_take (i := 7) (v := ?_) rfl (by kernel_rfl) (by kernel_rfl) (by kernel_rfl) (fun _ _ _ h => h) (Or.inl ⟨by rfl, ?_⟩) (by assumption) ?_
      rotate_left
      · intro w hSw; go_simp; try with_reducible rfl
      try simp only [Act.put, List.setIfInBounds_toArray, List.set_cons_zero, List.set_cons_succ, List.getElem_toArray, List.getElem_cons_zero, List.getElem_cons_succ]
      -- 8: slot 38 := Op.binOp BinOp.neq 9 t31 t37 9
      refine wpAnyH_take (i := 8) (v := ?_) rfl (by kernel_rfl) (by kernel_rfl) (by kernel_rfl) (fun _ _ _ h => h) (Or.inl ⟨by rfl, ?_⟩) (by assumption) ?_
      rotate_left
      · intro w hSw; go_simp; try with_reducible rfl
      try simp only [Act.put, List.setIfInBounds_toArray, List.set_cons_zero, List.set_cons_succ, List.getElem_toArray, List.getElem_cons_zero, List.getElem_cons_succ]
      -- 9: slot 39 := Op.move t38
      refine wpAnyH_take (i := 9) (v := ?_) rfl (by kernel_rfl) (by kernel_rfl) (by kernel_rfl) (fun _ _ _ h => h) (Or.inl ⟨by rfl, ?_⟩) (by assumption) ?_
      rotate_left
      · intro w hSw; go_simp; try with_reducible rfl
      try simp only [Act.put, List.setIfInBounds_toArray, List.set_cons_zero, List.set_cons_succ, List.getElem_toArray, List.getElem_cons_zero, List.getElem_cons_succ]
      -- 10: slot 40 := Op.load 24 t8 [guarded: some (9, false)]
      refine wpAnyH_take (i := 10) (v := ?_) rfl (by kernel_rfl) (by kernel_rfl) (by kernel_rfl) (fun _ _ _ h => h) (Or.inl ⟨by rfl, ?_⟩) (by assumption) ?_
      rotate_left
      · intro w hSw; go_simp; try with_reducible rfl
      try simp only [Act.put, List.setIfInBounds_toArray, List.set_cons_zero, List.set_cons_succ, List.getElem_toArray, List.getElem_cons_zero, List.getElem_cons_succ]
      -- 11: slot 41 := Op.load 24 t3 [guarded: some (9, false)]
      refine wpAnyH_take (i := 11) (v := ?_) rfl (by kernel_rfl) (by kernel_rfl) (by kernel_rfl) (fun _ _ _ h => h) (Or.inl ⟨by rfl, ?_⟩) (by assumption) ?_
      rotate_left
      · intro w hSw; go_simp; try with_reducible rfl
      try simp only [Act.put, List.setIfInBounds_toArray, List.set_cons_zero, List.set_cons_succ, List.getElem_toArray, List.getElem_cons_zero, List.getElem_cons_succ]
      -- 12: slot 42 := Op.binOp BinOp.neq 24 t40 t41 24 [guarded: some (9, false)]
      refine wpAnyH_take (i := 12) (v := ?_) rfl (by kernel_rfl) (by kernel_rfl) (by kernel_rfl) (fun _ _ _ h => h) (Or.inl ⟨by rfl, ?_⟩) (by assumption) ?_
      rotate_left
      · intro w hSw; go_simp; try with_reducible rfl
      try simp only [Act.put, List.setIfInBounds_toArray, List.set_cons_zero, List.set_cons_succ, List.getElem_toArray, List.getElem_cons_zero, List.getElem_cons_succ]
      -- 13: slot 43 := Op.pick t39 (const (Value.bool true)) t42
      refine wpAnyH_take (i := 13) (v := ?_) rfl (by kernel_rfl) (by kernel_rfl) (by kernel_rfl) (fun _ _ _ h => h) (Or.inl ⟨by rfl, ?_⟩) (by assumption) ?_
      rotate_left
      · intro w hSw; go_simp; try with_reducible rfl
      try simp only [Act.put, List.setIfInBounds_toArray, List.set_cons_zero, List.set_cons_succ, List.getElem_toArray, List.getElem_cons_zero, List.getElem_cons_succ]
      -- 14: slot 44 := Op.move t43
      refine wpAnyH_take (i := 14) (v := ?_) rfl (by kernel_rfl) (by kernel_rfl) (by kernel_rfl) (fun _ _ _ h => h) (Or.inl ⟨by rfl, ?_⟩) (by assumption) ?_
      rotate_left
      · intro w hSw; go_simp; try with_reducible rfl
      try simp only [Act.put, List.setIfInBounds_toArray, List.set_cons_zero, List.set_cons_succ, List.getElem_toArray, List.getElem_cons_zero, List.getElem_cons_succ]
      -- 15: slot 45 := Op.move t9 [guarded: some (14, false)]
      refine wpAnyH_take (i := 15) (v := ?_) rfl (by kernel_rfl) (by kernel_rfl) (by kernel_rfl) (fun _ _ _ h => h) (Or.inl ⟨by rfl, ?_⟩) (by assumption) ?_
      rotate_left
      · intro w hSw; go_simp; try with_reducible rfl
      try simp only [Act.put, List.setIfInBounds_toArray, List.set_cons_zero, List.set_cons_succ, List.getElem_toArray, List.getElem_cons_zero, List.getElem_cons_succ]
      -- 16: slot 46 := Op.move t7 [guarded: some (14, false)]
      refine wpAnyH_take (i := 16) (v := ?_) rfl (by kernel_rfl) (by kernel_rfl) (by kernel_rfl) (fun _ _ _ h => h) (Or.inl ⟨by rfl, ?_⟩) (by assumption) ?_
      rotate_left
      · intro w hSw; go_simp; try with_reducible rfl
      try simp only [Act.put, List.setIfInBounds_toArray, List.set_cons_zero, List.set_cons_succ, List.getElem_toArray, List.getElem_cons_zero, List.getElem_cons_succ]
      -- 17: slot 47 := Op.call { builtin len, args := #[t46], argTypes := #[42] } [guarded: some (
      refine wpAnyH_take (i := 17) (v := ?_) rfl (by kernel_rfl) (by kernel_rfl) (by kernel_rfl) (fun _ _ _ h => h) (Or.inl ⟨by rfl, ?_⟩) (by assumption) ?_
      rotate_left
      · intro w hSw; go_simp; try with_reducible rfl
      try simp only [Act.put, List.setIfInBounds_toArray, List.set_cons_zero, List.set_cons_succ, List.getElem_toArray, List.getElem_cons_zero, List.getElem_cons_succ]
      -- 18: slot 48 := Op.binOp BinOp.neq 3 t45 t47 3 [guarded: some (14, false)]
      refine wpAnyH_take (i := 18) (v := ?_) rfl (by kernel_rfl) (by kernel_rfl) (by kernel_rfl) (fun _ _ _ h => h) (Or.inl ⟨by rfl, ?_⟩) (by assumption) ?_
      rotate_left
      · intro w hSw; go_simp; try with_reducible rfl
      try simp only [Act.put, List.setIfInBounds_toArray, List.set_cons_zero, List.set_cons_succ, List.getElem_toArray, List.getElem_cons_zero, List.getElem_cons_succ]
      -- 19: slot 49 := Op.pick t44 (const (Value.bool true)) t48
      refine wpAnyH_take (i := 19) (v := ?_) rfl (by kernel_rfl) (by kernel_rfl) (by kernel_rfl) (fun _ _ _ h => h) (Or.inl ⟨by rfl, ?_⟩) (by assumption) ?_
      rotate_left
      · intro w hSw; go_simp; try with_reducible rfl
      try simp only [Act.put, List.setIfInBounds_toArray, List.set_cons_zero, List.set_cons_succ, List.getElem_toArray, List.getElem_cons_zero, List.getElem_cons_succ]
      -- 20: slot 50 := Op.move t49
      refine wpAnyH_take (i := 20) (v := ?_) rfl (by kernel_rfl) (by kernel_rfl) (by kernel_rfl) (fun _ _ _ h => h) (Or.inl ⟨by rfl, ?_⟩) (by assumption) ?_
      rotate_left
      · intro w hSw; go_simp; try with_reducible rfl
      try simp only [Act.put, List.setIfInBounds_toArray, List.set_cons_zero, List.set_cons_succ, List.getElem_toArray, List.getElem_cons_zero, List.getElem_cons_succ]
      -- 21: slot 51 := Op.move t10 [guarded: some (20, false)]
      refine wpAnyH_take (i := 21) (v := ?_) rfl (by kernel_rfl) (by kernel_rfl) (by kernel_rfl) (fun _ _ _ h => h) (Or.inl ⟨by rfl, ?_⟩) (by assumption) ?_
      rotate_left
      · intro w hSw; go_simp; try with_reducible rfl
      try simp only [Act.put, List.setIfInBounds_toArray, List.set_cons_zero, List.set_cons_succ, List.getElem_toArray, List.getElem_cons_zero, List.getElem_cons_succ]
      -- 22: slot 52 := Op.unOp UnOp.not 4 t51 [guarded: some (20, false)]
      refine wpAnyH_take (i := 22) (v := ?_) rfl (by kernel_rfl) (by kernel_rfl) (by kernel_rfl) (fun _ _ _ h => h) (Or.inl ⟨by rfl, ?_⟩) (by assumption) ?_
      rotate_left
      · intro w hSw; go_simp; try with_reducible rfl
      try simp only [Act.put, List.setIfInBounds_toArray, List.set_cons_zero, List.set_cons_succ, List.getElem_toArray, List.getElem_cons_zero, List.getElem_cons_succ]
      -- 23: slot 53 := Op.pick t50 (const (Value.bool true)) t52
      refine wpAnyH_take (i := 23) (v := ?_) rfl (by kernel_rfl) (by kernel_rfl) (by kernel_rfl) (fun _ _ _ h => h) (Or.inl ⟨by rfl, ?_⟩) (by assumption) ?_
      rotate_left
      · intro w hSw; go_simp; try with_reducible rfl
      try simp only [Act.put, List.setIfInBounds_toArray, List.set_cons_zero, List.set_cons_succ, List.getElem_toArray, List.getElem_cons_zero, List.getElem_cons_succ]
      refine wpAnyH_done (by kernel_rfl) ?_ _
      have hb7' : Below w.heap.size w w7 := below_then hb6' hb67
      clear p0 p1 p2 p3 h0 h1 h2 h3 hs1 hs2 hs3 hSS hzz hS0 hS1 hb67 ho7 hb6' hb5'
      go_wp2_with fail
      refine (bytesOwn_n A bs n c _ HN.out (by omega) (HR.out.below hb7')).mono ?_
      rintro e w8 ⟨A8, c8, rfl, ho8, hb8⟩
      have hb8' := below_then hb7' hb8
      have hc8 : n ≤ c8 := own_cap (ownB_of ho8 HN.out)
      have HR8 := Lib.hid ho8.reads
      clear ho8
      go_wp2_with fail
      rcases T with _ | ⟨⟨tk, tm, tl, th⟩, te⟩
      · refine (gget_noneT A8 bs n c8 x2 _ HN.out (by omega) H2.out.1 H2.out.2 HR8.out HT.out).mono ?_
        rintro e w9 ⟨rfl, hb9⟩
        have hb9' := below_then hb8' hb9
        have HRX : Hid (ReadsB w9 A bs) := HR.out.below hb9'
        go_wp2_with fail
        have hrd : RdAt ((w9.alloc (.cells #[.int .u64 0, .int .u64 0, .int .u64 0, .int .u64 0] 24)).alloc (.cells #[.slice A n c, .int .i64 x2, .bool false] 50)) (w9.heap.size + 1) A bs c x2 false := ⟨by unfold rcells; rw [HN.out]; exact blk_here (by simp), HRX.out.below ((below_new _ _).alloc (by simp) _)⟩
        have hhB : Blk ((w9.alloc (.cells #[.int .u64 0, .int .u64 0, .int .u64 0, .int .u64 0] 24)).alloc (.cells #[.slice A n c, .int .i64 x2, .bool false] 50)) w9.heap.size 24 #[.int .u64 0, .int .u64 0, .int .u64 0, .int .u64 0] := (Blk.new _ _ _).alloc _
        have hbA : Below w.heap.size w ((w9.alloc (.cells #[.int .u64 0, .int .u64 0, .int .u64 0, .int .u64 0] 24)).alloc (.cells #[.slice A n c, .int .i64 x2, .bool false] 50)) := (hb9'.alloc hb9'.size _).alloc (by have := hb9'.size; simp; omega) _
        refine (rgget_noneT (w9.heap.size + 1) A bs c x2 _ (by rw [HN.out]; omega) H2.out.1 H2.out.2 hrd HT.out).mono ?_
        rintro e w11 ⟨rfl, hp⟩
        obtain ⟨i', hrd', hi', hg'⟩ := hp
        obtain ⟨h0, h1, h2, h3⟩ := blk4_cells (blk_grown hhB hg' (by intro he; injection he; omega))
        have hbB : Below w.heap.size w w11 := hbA.grown hg' hbA.size (by intro k hk; injection hk with hk; have := hb9'.size; omega)
        have d1 := hrd'.c1
        have hz := hrd'.blk.lt
        have hz2 : w9.heap.size < w11.heap.size := by omega
        have d2 : w11.cell? ⟨w9.heap.size + 1, 2, none⟩ = some (.bool true) := hrd'.c2
        clear hrd hhB hbA hrd' hg' hi'
        go_wp2_with fail
        refine (awake_any _).mono ?_
        rintro e w12 ⟨rfl, hb12⟩
        have hb13 : Below w.heap.size w w12 := below_then (hbB.alloc hbB.size _) hb12
        go_wp2
        go_ret
        exact ⟨rfl, hb13⟩
      · refine (gget_someT A8 bs n c8 x2 tk tm tl th te _ HN.out (by omega) H2.out.1 H2.out.2 HR8.out HT.out).mono ?_
        rintro e w9 ⟨rfl, hb9⟩
        have hb9' := below_then hb8' hb9
        have HRX : Hid (ReadsB w9 A bs) := HR.out.below hb9'
        go_wp2_with fail
        have hrd : RdAt ((w9.alloc (.cells #[.int .u64 (tk : Int), .int .u64 (tm : Int), .int .u64 (tl : Int), .int .u64 (th : Int)] 24)).alloc (.cells #[.slice A n c, .int .i64 x2, .bool false] 50)) (w9.heap.size + 1) A bs c x2 false := ⟨by unfold rcells; rw [HN.out]; exact blk_here (by simp), HRX.out.below ((below_new _ _).alloc (by simp) _)⟩
        have hhB : Blk ((w9.alloc (.cells #[.int .u64 (tk : Int), .int .u64 (tm : Int), .int .u64 (tl : Int), .int .u64 (th : Int)] 24)).alloc (.cells #[.slice A n c, .int .i64 x2, .bool false] 50)) w9.heap.size 24 #[.int .u64 (tk : Int), .int .u64 (tm : Int), .int .u64 (tl : Int), .int .u64 (th : Int)] := (Blk.new _ _ _).alloc _
        have hbA : Below w.heap.size w ((w9.alloc (.cells #[.int .u64 (tk : Int), .int .u64 (tm : Int), .int .u64 (tl : Int), .int .u64 (th : Int)] 24)).alloc (.cells #[.slice A n c, .int .i64 x2, .bool false] 50)) := (hb9'.alloc hb9'.size _).alloc (by have := hb9'.size; simp; omega) _
        refine (rgget_someT (w9.heap.size + 1) A bs c x2 tk tm tl th te _ (by rw [HN.out]; omega) H2.out.1 H2.out.2 hrd HT.out).mono ?_
        rintro e w11 ⟨rfl, hp⟩
        obtain ⟨hrd', hg'⟩ := hp
        obtain ⟨h0, h1, h2, h3⟩ := blk4_cells (blk_grown hhB hg' (by intro he; injection he; omega))
        have hbB : Below w.heap.size w w11 := hbA.grown hg' hbA.size (by intro k hk; injection hk with hk; have := hb9'.size; omega)
        have d1 := hrd'.c1
        have hz := hrd'.blk.lt
        have hz2 : w9.heap.size < w11.heap.size := by omega
        have d2 : w11.cell? ⟨w9.heap.size + 1, 2, none⟩ = some (.bool false) := hrd'.c2
        clear hrd hhB hbA hrd' hg'
        go_wp2_with fail
        refine (awake_any _).mono ?_
        rintro e w12 ⟨rfl, hb12⟩
        have hb13 : Below w.heap.size w w12 := below_then (hbB.alloc hbB.size _) hb12
        go_wp2
        go_ret
        exact ⟨rfl, hb13⟩
end Go.Proofs.Yteohmcjclmaanaa
