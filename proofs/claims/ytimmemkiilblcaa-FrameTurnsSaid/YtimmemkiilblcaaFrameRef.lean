/- What the reference's one computes: the walk. -/
import Derived.Test.YtimmemkiilblcaaFrameGet
import Derived.StillTailTactics
namespace Go.Proofs.Ytimmemkiilblcaa
set_option linter.unusedVariables false
set_option linter.unusedSimpArgs false
open Go.RowKit
def FB (W : World) (g : Nat) (i : Int) (A : Option Addr) (n c : Nat) (e : Int) : Prop := Blk W g 43 #[.int .i64 i, .slice A n c, .int .i64 e]
section
variable {W W' : World} {g n c : Nat} {A : Option Addr} {i e : Int}
theorem FB.below (h : FB W g i A n c e) (hb : Below W.heap.size W W') : FB W' g i A n c e := Blk.below h hb
theorem FB.cells (h : FB W g i A n c e) : W.cell? ⟨g, 0, none⟩ = some (.int .i64 i) ∧ W.cell? ⟨g, 1, none⟩ = some (.slice A n c) ∧ W.cell? ⟨g, 2, none⟩ = some (.int .i64 e) :=
  ⟨by rw [Blk.cell h]; rfl, by rw [Blk.cell h]; rfl, by rw [Blk.cell h]; rfl⟩
theorem FB.marks (h : FB W g i A n c e) : W.frozen? ⟨g, 0, none⟩ = false ∧ W.frozen? ⟨g, 1, none⟩ = false ∧ W.frozen? ⟨g, 2, none⟩ = false :=
  ⟨Blk.frozen h _, Blk.frozen h _, Blk.frozen h _⟩
theorem FB.two (w : World) (o : Obj) : FB ((w.alloc (.cells #[.int .i64 0, .slice none 0 0, .int .i64 0] 43)).alloc o) w.heap.size 0 none 0 0 0 := (Blk.new _ _ _).alloc o
theorem FB.set3 (h : FB W g i A n c e) (i' : Int) (A' : Option Addr) (n' c' : Nat) (e' : Int) : FB (((W.setCell ⟨g, 0, none⟩ (.int .i64 i')).setCell ⟨g, 1, none⟩ (.slice A' n' c')).setCell ⟨g, 2, none⟩ (.int .i64 e')) g i' A' n' c' e' :=
  Blk.set_ (Blk.set_ (Blk.set_ h 0 (.int .i64 i')) 1 (.slice A' n' c')) 2 (.int .i64 e')
theorem below_set3 {B : Nat} {w : World} (hb : Below B w W) (hg : B ≤ g) (u v x : Value) : Below B w (((W.setCell ⟨g, 0, none⟩ u).setCell ⟨g, 1, none⟩ v).setCell ⟨g, 2, none⟩ x) :=
  ((hb.setCell (p := ⟨g, 0, none⟩) hg _).setCell (p := ⟨g, 1, none⟩) hg _).setCell (p := ⟨g, 2, none⟩) hg _
theorem FB.grown (h : FB W g i A n c e) {r : Nat} (hg : W.grownBy W' (some r)) (hne : g ≠ r) : FB W' g i A n c e := by
  have hlt := Blk.lt h
  exact (hg.block g hlt (by intro h'; injection h' with h'; exact hne h')).trans h
theorem FB.grownN (h : FB W g i A n c e) (hg : W.grownBy W' none) : FB W' g i A n c e := (hg.block g (Blk.lt h) (by intro h'; cases h')).trans h
end
theorem own_grown {w w1 : World} {base g n : Nat} {e : TypeId} {v : Value} {xs : List Value} (h : w.ownsRow base e 1 v n xs) (hg : w.grownBy w1 (some g)) (hlt : g < base) : w1.ownsRow base e 1 v n xs :=
  h.kept hg (by
    rcases hv : v.ownBlock with _ | k
    · exact .inl rfl
    · refine .inr ?_
      intro he
      injection he with he
      have := own_base h k hv
      omega)
theorem reader_two {w : World} {A : Option Addr} {bs : List UInt8} (o : Obj) (h : ReadsB w A bs) (c : Nat) (i : Int) : RdAt ((w.alloc o).alloc (.cells #[.slice A bs.length c, .int .i64 i, .bool false] 66)) (w.heap.size + 1) A bs c i false := by
  have h1 := reader_new (h.below (below_new w o)) c i
  have e : (w.alloc o).heap.size = w.heap.size + 1 := by simp
  rwa [e] at h1
theorem below_two (w : World) (o p : Obj) : Below w.heap.size w ((w.alloc o).alloc p) := (below_new w o).alloc (by simp) p
set_option maxRecDepth 100000 in
set_option maxHeartbeats 1600000 in
theorem one_num (A : Option Addr) (bs : List UInt8) (c a : Nat) (w : World) (hl : bs.length ≤ 140737488355328) (ha : a < bs.length) (hr : ReadsB w A bs) (hg : getAt bs (a : Int) = none) :
    Calls Try.prog 26 #[.slice A bs.length c, .int .i64 (a : Int)] w fun e w' => e = .returned (.tuple #[.agg #[.int .i64 0, .slice none 0 0, .int .i64 0], .bool false]) ∧ Below w.heap.size w w' := by
  have HR := Lib.hid hr
  have HG := Lib.hid hg
  clear hr hg
  go_enter Try.func26, Try.ntmps26
  go_wp2_with fail
  refine (num_any (w.heap.size + 1) A bs c a _ hl (by omega) (by omega) (reader_two _ HR.out c _)).mono ?_
  rintro e w2 ⟨rfl, hp⟩
  have hb2 := numPost_below hp (below_two _ _ _) (by omega)
  rw [HG.out] at hp ⊢
  obtain ⟨i', hrd, _, hg2⟩ := hp
  have hF := (FB.two w _).grown hg2 (by omega)
  obtain ⟨k0, k1, k2⟩ := hF.cells
  obtain ⟨f0, f1, f2⟩ := hF.marks
  have hRD := Lib.hid hrd
  have c1 := hrd.c1
  have c2 : w2.cell? ⟨w.heap.size + 1, 2, none⟩ = some (.bool true) := hrd.c2
  clear hrd hg2
  go_wp2
  obtain ⟨q0, q1, q2⟩ := (hF.set3 0 none 0 0 0).cells
  exact bodyPost_ret (v := .tuple #[.agg #[.int .i64 0, .slice none 0 0, .int .i64 0], .bool false]) (by simp [results, Try.results26, go_sem, q0, q1, q2]) rfl ⟨rfl, below_set3 hb2 (Nat.le_refl _) _ _ _⟩
set_option maxRecDepth 100000 in
set_option maxHeartbeats 1600000 in
theorem one_bad (A : Option Addr) (bs : List UInt8) (c a n fr : Nat) (w : World) (hl : bs.length ≤ 140737488355328) (ha : a < bs.length) (hr : ReadsB w A bs) (hg : getAt bs (a : Int) = some (n, fr)) (hb : n < 1 ∨ 1048576 < n ∨ bs.length < fr + (n + 4)) :
    Calls Try.prog 26 #[.slice A bs.length c, .int .i64 (a : Int)] w fun e w' => e = .returned (.tuple #[.agg #[.int .i64 0, .slice none 0 0, .int .i64 0], .bool false]) ∧ Below w.heap.size w w' := by
  have HR := Lib.hid hr
  obtain ⟨kk0, kk1, kk2, kk3, _⟩ := getAt_bounds hg
  have HG := Lib.hid hg
  have hcase : (n : Int) < 1 ∨ (1 : Int) ≤ (n : Int) ∧ ((1048576 : Int) < (n : Int) ∨ (n : Int) ≤ 1048576 ∧ ((bs.length : Int) - (fr : Int) < 4 ∨ (4 : Int) ≤ (bs.length : Int) - (fr : Int) ∧ (bs.length : Int) - (fr : Int) - 4 < (n : Int))) := by omega
  have HC := Lib.hid hcase
  have j1 : (fr : Int) ≤ (bs.length : Int) := by omega
  have j2 : (bs.length : Int) ≤ 140737488355328 := by omega
  have hn : n < 18446744073709551616 := kk3
  clear hr hg hb hcase kk0 kk1 kk2 kk3 
  rcases HC.out with c1 | ⟨c1, c2 | ⟨c2, c3 | ⟨c3, c4⟩⟩⟩
  all_goals
    go_enter Try.func26, Try.ntmps26
    go_wp2_with fail
    refine (num_any (w.heap.size + 1) A bs c a _ hl (by omega) (by omega) (reader_two _ HR.out c _)).mono ?_
    rintro e w2 ⟨rfl, hp⟩
    have hb2 := numPost_below hp (below_two _ _ _) (by omega)
    rw [HG.out] at hp ⊢
    obtain ⟨i', hrd, hi', hg2⟩ := hp
    obtain rfl : i' = (fr : Int) := hi' (n, fr) rfl
    have hF := (FB.two w _).grown hg2 (by omega)
    obtain ⟨k0, k1, k2⟩ := hF.cells
    obtain ⟨f0, f1, f2⟩ := hF.marks
    have d1 := hrd.c1
    have d2 : w2.cell? ⟨w.heap.size + 1, 2, none⟩ = some (.bool false) := hrd.c2
    clear hrd hg2 hi'
    have hnv : numV (some (n, fr)) = (n : Int) := rfl
    rw [hnv]
    go_wp2
    obtain ⟨q0, q1, q2⟩ := (hF.set3 0 none 0 0 0).cells
    exact bodyPost_ret (v := .tuple #[.agg #[.int .i64 0, .slice none 0 0, .int .i64 0], .bool false]) (by simp [results, Try.results26, go_sem, q0, q1, q2]) rfl ⟨rfl, below_set3 hb2 (Nat.le_refl _) _ _ _⟩
theorem ne_byte {x y : UInt8} (h : x ≠ y) : ((y.toNat : Int) != (x.toNat : Int)) = true := by
  rw [bne_iff_ne]
  intro h'
  exact h (UInt8.toNat_inj.1 (by omega))
theorem eq_byte {x y : UInt8} (h : x = y) : ((y.toNat : Int) != (x.toNat : Int)) = false := by
  subst h
  simp
set_option maxRecDepth 100000 in
set_option maxHeartbeats 1600000 in
theorem one_sum (A : Option Addr) (bs : List UInt8) (c a n fr : Nat) (B : List UInt8) (w : World) (hl : bs.length ≤ 140737488355328) (hc : bs.length ≤ c) (ha : a < bs.length) (hr : ReadsB w A bs) (hg : getAt bs (a : Int) = some (n, fr)) (hb : ¬ (n < 1 ∨ 1048576 < n ∨ bs.length < fr + (n + 4))) (hB : (bs.drop (fr + 4)).take n = B) (hq : ¬ le4 (Sum B) = (bs.drop fr).take 4) :
    Calls Try.prog 26 #[.slice A bs.length c, .int .i64 (a : Int)] w fun e w' => e = .returned (.tuple #[.agg #[.int .i64 0, .slice none 0 0, .int .i64 0], .bool false]) ∧ Below w.heap.size w w' := by
  have HR := Lib.hid hr
  obtain ⟨kk0, kk1, kk2, kk3, _⟩ := getAt_bounds hg
  have HG := Lib.hid hg
  obtain ⟨b0, b1, b2, b3, hle, e0, e1, e2, e3⟩ := le4_bytes (Sum B)
  obtain ⟨y0, hy0⟩ : ∃ y, bs.getD fr 0 = y := ⟨_, rfl⟩
  obtain ⟨y1, hy1⟩ : ∃ y, bs.getD (fr + 1) 0 = y := ⟨_, rfl⟩
  obtain ⟨y2, hy2⟩ : ∃ y, bs.getD (fr + 2) 0 = y := ⟨_, rfl⟩
  obtain ⟨y3, hy3⟩ : ∃ y, bs.getD (fr + 3) 0 = y := ⟨_, rfl⟩
  have h4 := drop4 (bs := bs) (k := fr) (by omega)
  rw [hy0, hy1, hy2, hy3] at h4
  rw [hle, h4] at hq
  simp only [List.cons.injEq, and_true] at hq
  obtain ⟨f1, t1⟩ : ∃ f1, ((fr : Int) + 1).toNat = f1 := ⟨_, rfl⟩
  obtain ⟨f2, t2⟩ : ∃ f2, ((fr : Int) + 2).toNat = f2 := ⟨_, rfl⟩
  obtain ⟨f3, t3⟩ : ∃ f3, ((fr : Int) + 3).toNat = f3 := ⟨_, rfl⟩
  obtain ⟨f4, t4⟩ : ∃ f4, fr + 4 = f4 := ⟨_, rfl⟩
  have g1 : fr + 1 = f1 := by omega
  have g2 : fr + 2 = f2 := by omega
  have g3 : fr + 3 = f3 := by omega
  rw [g1] at hy1
  rw [g2] at hy2
  rw [g3] at hy3
  have HY0 := Lib.hid hy0
  have HY1 := Lib.hid hy1
  have HY2 := Lib.hid hy2
  have HY3 := Lib.hid hy3
  obtain ⟨Ac, cc, hcut, hcR, hcc⟩ := cut_midN A bs.length c f4 n (by omega) hc
  rw [show (f4 : Int) = (fr : Int) + 4 by omega] at hcut
  rw [t4] at hB
  have HB := Lib.hid hB
  have hBl : B.length = n := by rw [← hB, List.length_take, List.length_drop]; omega
  have HBl := Lib.hid hBl
  have HT := Lib.hid (⟨t1, t2, t3⟩ : _ ∧ _ ∧ _)
  have HGG := Lib.hid (⟨g1, g2, g3, t4⟩ : _ ∧ _ ∧ _ ∧ _)
  have j1 : (fr : Int) + 4 + (n : Int) ≤ (bs.length : Int) := by omega
  have j2 : (bs.length : Int) ≤ 140737488355328 := by omega
  have j3 : (1 : Int) ≤ (n : Int) := by omega
  have j4 : (n : Int) ≤ 1048576 := by omega
  have hn : n < 18446744073709551616 := kk3
  have HE := Lib.hid (⟨e0, e1, e2, e3⟩ : _ ∧ _ ∧ _ ∧ _)
  have HQ := Lib.hid hq
  clear hr hg hb kk0 kk1 kk2 kk3 hle hy0 hy1 hy2 hy3 h4 t1 t2 t3 t4 g1 g2 g3 hB hBl e0 e1 e2 e3 hq
  go_enter Try.func26, Try.ntmps26
  go_wp2_with fail
  refine (num_any (w.heap.size + 1) A bs c a _ hl (by omega) (by omega) (reader_two _ HR.out c _)).mono ?_
  rintro e w2 ⟨rfl, hp⟩
  have hb2 := numPost_below hp (below_two _ _ _) (by omega)
  rw [HG.out] at hp ⊢
  obtain ⟨i', hrd, hi', hg2⟩ := hp
  obtain rfl : i' = (fr : Int) := hi' (n, fr) rfl
  have hF := (FB.two w _).grown hg2 (by omega)
  have hRD := Lib.hid hrd
  have d1 := hrd.c1
  have d2 : w2.cell? ⟨w.heap.size + 1, 2, none⟩ = some (.bool false) := hrd.c2
  clear hrd hg2 hi'
  have hnv : numV (some (n, fr)) = (n : Int) := rfl
  rw [hnv]
  clear hnv
  go_wp2_with fail
  have hcr := hcR.out _ bs rfl (HR.out.below hb2)
  rw [HB.out] at hcr
  have HCR := Lib.hid hcr
  clear hcr
  refine (refOf_m Ac B n cc _ HBl.out (by omega) HCR.out).mono ?_
  rintro e w3 ⟨rfl, hb3⟩
  have hb5 := below_then hb2 hb3
  have hRD3 := Lib.hid (hRD.out.below hb3)
  have hF3 := hF.below hb3
  have HR3 := Lib.hid (HR.out.below hb5)
  have HCR3 := Lib.hid (HCR.out.below hb3)
  have r1 : w3.cell? ⟨w.heap.size + 1, 1, none⟩ = some (.int .i64 (fr : Int)) := hRD3.out.c1
  clear d1 d2 hF hb3
  obtain ⟨ad, hA, d0⟩ := HR3.out.at (show fr < bs.length by omega)
  obtain ⟨ad1, hA1, d1⟩ := HR3.out.at (k := f1) (by have := HGG.out; omega)
  obtain ⟨ad2, hA2, d2⟩ := HR3.out.at (k := f2) (by have := HGG.out; omega)
  obtain ⟨ad3, hA3, d3⟩ := HR3.out.at (k := f3) (by have := HGG.out; omega)
  obtain rfl : ad = ad1 := by rw [hA] at hA1; injection hA1
  obtain rfl : ad = ad2 := by rw [hA] at hA2; injection hA2
  obtain rfl : ad = ad3 := by rw [hA] at hA3; injection hA3
  rw [HY0.out] at d0
  rw [HY1.out] at d1
  rw [HY2.out] at d2
  rw [HY3.out] at d3
  subst hA
  clear hA1 hA2 hA3
  obtain ⟨t1, t2, t3⟩ := HT.out
  obtain ⟨e0, e1, e2, e3⟩ := HE.out
  obtain ⟨k0, k1, k2⟩ := hF3.cells
  obtain ⟨p0, p1, p2⟩ := hF3.marks
  have hcase : b0 ≠ y0 ∨ b0 = y0 ∧ (b1 ≠ y1 ∨ b1 = y1 ∧ (b2 ≠ y2 ∨ b2 = y2 ∧ b3 ≠ y3)) := by
    have h := HQ.out
    by_cases h0 : b0 = y0
    · by_cases h1 : b1 = y1
      · by_cases h2 : b2 = y2
        · exact .inr ⟨h0, .inr ⟨h1, .inr ⟨h2, fun h3 => h ⟨h0, h1, h2, h3⟩⟩⟩⟩
        · exact .inr ⟨h0, .inr ⟨h1, .inl h2⟩⟩
      · exact .inr ⟨h0, .inl h1⟩
    · exact .inl h0
  obtain ⟨q0, q1, q2⟩ := (hF3.set3 0 none 0 0 0).cells
  have HC := Lib.hid hcase
  clear hcase
  go_upto_region 9 with fail
  refine wp_loop_rounds 5 ?_
  rcases HC.out with m0 | ⟨m0, m1 | ⟨m1, m2 | ⟨m2, m3⟩⟩⟩
  · have v0 := ne_byte m0
    clear m0
    rw [rounds_succ]
    go_wp2
    exact bodyPost_ret (v := .tuple #[.agg #[.int .i64 0, .slice none 0 0, .int .i64 0], .bool false]) (by simp [results, Try.results26, go_sem, q0, q1, q2]) rfl ⟨rfl, below_set3 hb5 (Nat.le_refl _) _ _ _⟩
  · have v0 := eq_byte m0
    have v1 := ne_byte m1
    clear m0 m1
    rw [rounds_succ]
    go_wp2
    rw [rounds_succ]
    go_wp2
    exact bodyPost_ret (v := .tuple #[.agg #[.int .i64 0, .slice none 0 0, .int .i64 0], .bool false]) (by simp [results, Try.results26, go_sem, q0, q1, q2]) rfl ⟨rfl, below_set3 hb5 (Nat.le_refl _) _ _ _⟩
  · have v0 := eq_byte m0
    have v1 := eq_byte m1
    have v2 := ne_byte m2
    clear m0 m1 m2
    rw [rounds_succ]
    go_wp2
    rw [rounds_succ]
    go_wp2
    rw [rounds_succ]
    go_wp2
    exact bodyPost_ret (v := .tuple #[.agg #[.int .i64 0, .slice none 0 0, .int .i64 0], .bool false]) (by simp [results, Try.results26, go_sem, q0, q1, q2]) rfl ⟨rfl, below_set3 hb5 (Nat.le_refl _) _ _ _⟩
  · have v0 := eq_byte m0
    have v1 := eq_byte m1
    have v2 := eq_byte m2
    have v3 := ne_byte m3
    clear m0 m1 m2 m3
    rw [rounds_succ]
    go_wp2
    rw [rounds_succ]
    go_wp2
    rw [rounds_succ]
    go_wp2
    rw [rounds_succ]
    go_wp2
    exact bodyPost_ret (v := .tuple #[.agg #[.int .i64 0, .slice none 0 0, .int .i64 0], .bool false]) (by simp [results, Try.results26, go_sem, q0, q1, q2]) rfl ⟨rfl, below_set3 hb5 (Nat.le_refl _) _ _ _⟩
set_option maxRecDepth 100000 in
set_option maxHeartbeats 1600000 in
theorem one_good (A : Option Addr) (bs : List UInt8) (c a n fr : Nat) (B : List UInt8) (w : World) (hl : bs.length ≤ 140737488355328) (hc : bs.length ≤ c) (ha : a < bs.length) (hr : ReadsB w A bs) (hg : getAt bs (a : Int) = some (n, fr)) (hb : ¬ (n < 1 ∨ 1048576 < n ∨ bs.length < fr + (n + 4))) (hB : (bs.drop (fr + 4)).take n = B) (hq : le4 (Sum B) = (bs.drop fr).take 4) :
    Calls Try.prog 26 #[.slice A bs.length c, .int .i64 (a : Int)] w fun e w' => ∃ A' c', e = .returned (.tuple #[.agg #[.int .i64 (a : Int), .slice A' n c', .int .i64 ((fr + 4 + n : Nat) : Int)], .bool true]) ∧ OwnB w' w.heap.size (.slice A' n c') B ∧ Below w.heap.size w w' := by
  have HR := Lib.hid hr
  obtain ⟨kk0, kk1, kk2, kk3, _⟩ := getAt_bounds hg
  have HG := Lib.hid hg
  obtain ⟨b0, b1, b2, b3, hle, e0, e1, e2, e3⟩ := le4_bytes (Sum B)
  obtain ⟨y0, hy0⟩ : ∃ y, bs.getD fr 0 = y := ⟨_, rfl⟩
  obtain ⟨y1, hy1⟩ : ∃ y, bs.getD (fr + 1) 0 = y := ⟨_, rfl⟩
  obtain ⟨y2, hy2⟩ : ∃ y, bs.getD (fr + 2) 0 = y := ⟨_, rfl⟩
  obtain ⟨y3, hy3⟩ : ∃ y, bs.getD (fr + 3) 0 = y := ⟨_, rfl⟩
  have h4 := drop4 (bs := bs) (k := fr) (by omega)
  rw [hy0, hy1, hy2, hy3] at h4
  rw [hle, h4] at hq
  simp only [List.cons.injEq, and_true] at hq
  obtain ⟨f1, t1⟩ : ∃ f1, ((fr : Int) + 1).toNat = f1 := ⟨_, rfl⟩
  obtain ⟨f2, t2⟩ : ∃ f2, ((fr : Int) + 2).toNat = f2 := ⟨_, rfl⟩
  obtain ⟨f3, t3⟩ : ∃ f3, ((fr : Int) + 3).toNat = f3 := ⟨_, rfl⟩
  obtain ⟨f4, t4⟩ : ∃ f4, fr + 4 = f4 := ⟨_, rfl⟩
  have g1 : fr + 1 = f1 := by omega
  have g2 : fr + 2 = f2 := by omega
  have g3 : fr + 3 = f3 := by omega
  rw [g1] at hy1
  rw [g2] at hy2
  rw [g3] at hy3
  have HY0 := Lib.hid hy0
  have HY1 := Lib.hid hy1
  have HY2 := Lib.hid hy2
  have HY3 := Lib.hid hy3
  obtain ⟨Ac, cc, hcut, hcR, hcc⟩ := cut_midN A bs.length c f4 n (by omega) hc
  rw [show (f4 : Int) = (fr : Int) + 4 by omega] at hcut
  rw [t4] at hB
  have HB := Lib.hid hB
  have hBl : B.length = n := by rw [← hB, List.length_take, List.length_drop]; omega
  have HBl := Lib.hid hBl
  have HT := Lib.hid (⟨t1, t2, t3⟩ : _ ∧ _ ∧ _)
  have HGG := Lib.hid (⟨g1, g2, g3, t4⟩ : _ ∧ _ ∧ _ ∧ _)
  have j1 : (fr : Int) + 4 + (n : Int) ≤ (bs.length : Int) := by omega
  have j2 : (bs.length : Int) ≤ 140737488355328 := by omega
  have j3 : (1 : Int) ≤ (n : Int) := by omega
  have j4 : (n : Int) ≤ 1048576 := by omega
  have hn : n < 18446744073709551616 := kk3
  have HE := Lib.hid (⟨e0, e1, e2, e3⟩ : _ ∧ _ ∧ _ ∧ _)
  have HQ := Lib.hid hq
  clear hr hg hb kk0 kk1 kk2 kk3 hle hy0 hy1 hy2 hy3 h4 t1 t2 t3 t4 g1 g2 g3 hB hBl e0 e1 e2 e3 hq
  go_enter Try.func26, Try.ntmps26
  go_wp2_with fail
  refine (num_any (w.heap.size + 1) A bs c a _ hl (by omega) (by omega) (reader_two _ HR.out c _)).mono ?_
  rintro e w2 ⟨rfl, hp⟩
  have hb2 := numPost_below hp (below_two _ _ _) (by omega)
  rw [HG.out] at hp ⊢
  obtain ⟨i', hrd, hi', hg2⟩ := hp
  obtain rfl : i' = (fr : Int) := hi' (n, fr) rfl
  have hF := (FB.two w _).grown hg2 (by omega)
  have hRD := Lib.hid hrd
  have d1 := hrd.c1
  have d2 : w2.cell? ⟨w.heap.size + 1, 2, none⟩ = some (.bool false) := hrd.c2
  clear hrd hg2 hi'
  have hnv : numV (some (n, fr)) = (n : Int) := rfl
  rw [hnv]
  clear hnv
  go_wp2_with fail
  have hcr := hcR.out _ bs rfl (HR.out.below hb2)
  rw [HB.out] at hcr
  have HCR := Lib.hid hcr
  clear hcr
  refine (refOf_m Ac B n cc _ HBl.out (by omega) HCR.out).mono ?_
  rintro e w3 ⟨rfl, hb3⟩
  have hb5 := below_then hb2 hb3
  have hRD3 := Lib.hid (hRD.out.below hb3)
  have hF3 := hF.below hb3
  have HR3 := Lib.hid (HR.out.below hb5)
  have HCR3 := Lib.hid (HCR.out.below hb3)
  have r1 : w3.cell? ⟨w.heap.size + 1, 1, none⟩ = some (.int .i64 (fr : Int)) := hRD3.out.c1
  clear d1 d2 hF hb3
  obtain ⟨ad, hA, d0⟩ := HR3.out.at (show fr < bs.length by omega)
  obtain ⟨ad1, hA1, d1⟩ := HR3.out.at (k := f1) (by have := HGG.out; omega)
  obtain ⟨ad2, hA2, d2⟩ := HR3.out.at (k := f2) (by have := HGG.out; omega)
  obtain ⟨ad3, hA3, d3⟩ := HR3.out.at (k := f3) (by have := HGG.out; omega)
  obtain rfl : ad = ad1 := by rw [hA] at hA1; injection hA1
  obtain rfl : ad = ad2 := by rw [hA] at hA2; injection hA2
  obtain rfl : ad = ad3 := by rw [hA] at hA3; injection hA3
  rw [HY0.out] at d0
  rw [HY1.out] at d1
  rw [HY2.out] at d2
  rw [HY3.out] at d3
  subst hA
  clear hA1 hA2 hA3
  obtain ⟨t1, t2, t3⟩ := HT.out
  obtain ⟨e0, e1, e2, e3⟩ := HE.out
  obtain ⟨k0, k1, k2⟩ := hF3.cells
  obtain ⟨p0, p1, p2⟩ := hF3.marks
  obtain ⟨m0, m1, m2, m3⟩ := HQ.out
  have v0 := eq_byte m0
  have v1 := eq_byte m1
  have v2 := eq_byte m2
  have v3 := eq_byte m3
  clear m0 m1 m2 m3
  go_upto_region 9 with fail
  refine wp_loop_rounds 5 ?_
  rw [rounds_succ]
  go_wp2
  rw [rounds_succ]
  go_wp2
  rw [rounds_succ]
  go_wp2
  rw [rounds_succ]
  go_wp2
  rw [rounds_succ]
  go_wp2_with (at_builtin; refine wpList_append_any _ rfl _ _ 22 rfl (w.heap.size + 1) 5 _ 1 Try.underlying22 binfo rfl (by omega) (.slice none 0 0) 0 [] rfl (World.ownsRow_nil _ _ _ _) Ac n cc (u8s B) rfl (by rw [u8s_length, HBl.out]) HCR3.out (u8s_one B) (by omega) (Blk.lt hF3) ?_; intro v3 w5 hown3 hg3 hat3; (obtain ⟨A3, c3, hv⟩ := own_slice hown3); subst hv; have hb6 : Below w.heap.size w w5 := hb5.grown hg3 hb5.size (by simp [Value.ownBlock]); have hF5 := hF3.grownN hg3; obtain ⟨s0, s1, s2⟩ := hF5.cells; obtain ⟨o0, o1, o2⟩ := hF5.marks; have HO5 := Lib.hid hown3; clear hown3 hg3 hat3)
  obtain ⟨q0, q1, q2⟩ := (hF5.set3 (a : Int) A3 n c3 ((fr : Int) + 4 + (n : Int))).cells
  have ho := HO5.out
  simp only [Nat.zero_add, List.nil_append] at ho q0 q1 q2 ⊢
  refine bodyPost_ret (v := .tuple #[.agg #[.int .i64 (a : Int), .slice A3 n c3, .int .i64 ((fr : Int) + 4 + (n : Int))], .bool true]) (by simp [results, Try.results26, go_sem, q0, q1, q2]) rfl ⟨A3, c3, by simp, ?_, below_set3 hb6 (Nat.le_refl _) _ _ _⟩
  have hoB : OwnB w5 (w.heap.size + 1) (.slice A3 n c3) B := by unfold OwnB; rw [HBl.out]; exact ho
  exact OwnB.mono (own_grown hoB (only_setCell (p := ⟨w.heap.size, 2, none⟩) (only_setCell (p := ⟨w.heap.size, 1, none⟩) (only_setCell (p := ⟨w.heap.size, 0, none⟩) (World.grownBy.refl _ _) rfl _) rfl _) rfl _) (Nat.lt_succ_self _)) (Nat.le_succ _)
end Go.Proofs.Ytimmemkiilblcaa
