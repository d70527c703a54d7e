/- The statements' closure that is told frames: one round. -/
import Derived.Test.YtimmemkiilblcaaFrameAwake
namespace Go.Proofs.Ytimmemkiilblcaa
set_option linter.unusedVariables false
set_option linter.unusedSimpArgs false
open Go.RowKit
theorem iinfo : (Try.prog.info? 3).map (fun i => (i.zero, i.size, i.bytes)) = some (some (.int .i64 0), 1, 8) := by kernel_rfl
theorem sinfo : (Try.prog.info? 9).map (fun i => (i.zero, i.size, i.bytes)) = some (some (.string ByteArray.empty), 1, 16) := by kernel_rfl
def intsF (l : List Fr) : List Value := l.map fun p => .int .i64 (p.1 : Int)
def textsF (l : List Fr) : List Value := l.map fun p => .string (strOf p.2.1)
theorem intsF_snoc (l : List Fr) (p : Fr) : intsF (l ++ [p]) = intsF l ++ [.int .i64 (p.1 : Int)] := by simp [intsF]
theorem textsF_snoc (l : List Fr) (p : Fr) : textsF (l ++ [p]) = textsF l ++ [.string (strOf p.2.1)] := by simp [textsF]
/-- rows of two types are apart -/
theorem rows_apart {w : World} {b1 b2 : Nat} {t1 t2 : TypeId} {v1 v2 : Value} {n1 n2 : Nat} {x1 x2 : List Value} (h1 : w.ownsRow b1 t1 1 v1 n1 x1) (h2 : w.ownsRow b2 t2 1 v2 n2 x2) (ht : t1 ≠ t2) : v1.ownBlock = none ∨ v1.ownBlock ≠ v2.ownBlock := by
  rcases h1.2 with ⟨rfl, _⟩ | ⟨g1, cap1, cur1, rfl, _, hh1, _⟩
  · exact .inl rfl
  · rcases h2.2 with ⟨rfl, _⟩ | ⟨g2, cap2, cur2, rfl, _, hh2, _⟩
    · exact .inr (by simp [Value.ownBlock])
    · refine .inr (fun he => ht ?_)
      simp only [Value.ownBlock, Option.some.injEq] at he
      subst he
      rw [hh1] at hh2
      injection hh2 with hh2
      injection hh2 with _ hh2
/-- what the closure holds: a row of places, a row of texts, how many there may be -/
structure Tell (W : World) (g0 g : Nat) (most : Int) (n : Nat) (A1 : Option Addr) (c1 : Nat) (A2 : Option Addr) (c2 : Nat) (P T : List Value) : Prop where
  b0 : Blk W g0 3 #[.int .i64 most]
  b1 : Blk W g 38 #[.slice A1 n c1]
  b2 : Blk W (g + 1) 39 #[.slice A2 n c2]
  o1 : W.ownsRow (g + 2) 3 1 (.slice A1 n c1) n P
  o2 : W.ownsRow (g + 2) 9 1 (.slice A2 n c2) n T
theorem Tell.below {W W' : World} {g0 g n c1 c2 : Nat} {most : Int} {A1 A2 : Option Addr} {P T : List Value} (h : Tell W g0 g most n A1 c1 A2 c2 P T) (hb : Below W.heap.size W W') : Tell W' g0 g most n A1 c1 A2 c2 P T :=
  ⟨h.b0.below hb, h.b1.below hb, h.b2.below hb, own_below h.o1 hb, own_below h.o2 hb⟩
theorem grown_any {w w3 : World} {g : Nat} {o : Obj} {v : Value} (hsz : g ≤ w.heap.size) (hg : (w.alloc o).grownBy w3 v.ownBlock) (hb : ∀ k, v.ownBlock = some k → g ≤ k) : Below g w w3 :=
  ((Below.refl g w).alloc hsz o).grown hg (by simp; omega) hb
theorem blk_low {w w3 : World} {g k : Nat} {t : TypeId} {cs : Array Value} (h : Blk w k t cs) (hb : Below g w w3) (hk : k < g) : Blk w3 k t cs := (hb.block k hk).trans h
theorem own_alloc_kept {w w3 : World} {b : Nat} {t : TypeId} {v : Value} {n : Nat} {xs : List Value} {o : Obj} {row : Option Nat} (h : w.ownsRow b t 1 v n xs) (hg : (w.alloc o).grownBy w3 row) (hne : v.ownBlock = none ∨ v.ownBlock ≠ row) : w3.ownsRow b t 1 v n xs := (h.alloc o).kept hg hne
theorem own_set {w : World} {b k : Nat} {t : TypeId} {v : Value} {n : Nat} {xs : List Value} (h : w.ownsRow b t 1 v n xs) (hk : k < b) (u : Value) : (w.setCell ⟨k, 0, none⟩ u).ownsRow b t 1 v n xs :=
  own_grown h (only_setCell (p := ⟨k, 0, none⟩) (World.grownBy.refl _ _) rfl u) hk
theorem reads_up {w : World} {base m c : Nat} {A : Option Addr} {B : List UInt8} (h : w.ownsRow base 5 1 (.slice A m c) m (u8s B)) (hm : B.length = m) : ReadsB w A B := by subst hm; exact OwnB.reads (base := base) h
theorem ownB_up {w : World} {base m : Nat} {v : Value} {B : List UInt8} (h : w.ownsRow base 5 1 v m (u8s B)) (hm : B.length = m) : OwnB w base v B := by subst hm; exact h
set_option maxRecDepth 100000 in
set_option maxHeartbeats 1600000 in
theorem tell_any (g0 g : Nat) (most : Int) (n : Nat) (A1 : Option Addr) (c1 : Nat) (A2 : Option Addr) (c2 : Nat) (P T : List Value) (a : Nat) (Ab : Option Addr) (B : List UInt8) (m cb : Nat) (w : World) (hg0 : g0 < g) (hn : n ≤ 1048576) (hm : B.length = m) (hT : Tell w g0 g most n A1 c1 A2 c2 P T) (hr : w.ownsRow (g + 2) 5 1 (.slice Ab m cb) m (u8s B)) :
    Calls Try.prog 28 #[.int .i64 (a : Int), .slice Ab m cb, .pointer (some ⟨g, 0, none⟩), .pointer (some ⟨g + 1, 0, none⟩), .pointer (some ⟨g0, 0, none⟩)] w fun e w' => ∃ A1' c1' A2' c2', e = .returned (.bool (decide ((n : Int) + 1 < most))) ∧
      Tell w' g0 g most (n + 1) A1' c1' A2' c2' (P ++ [.int .i64 (a : Int)]) (T ++ [.string (strOf B)]) ∧ Below g w w' := by
  have HT := Lib.hid hT
  have HR := Lib.hid hr
  have k0 : w.cell? ⟨g, 0, none⟩ = some (.slice A1 n c1) := by rw [hT.b1.cell]; rfl
  have hsz : g + 1 < w.heap.size := hT.b2.lt
  clear hT hr
  go_enter Try.func28, Try.ntmps28
  go_upto_region 2 with (at_builtin; refine wpList_append_any _ rfl _ _ 38 rfl (g + 2) 3 _ 8 Try.underlying38 iinfo rfl (by omega) (.slice A1 n c1) n P rfl (HT.out.o1.alloc _) (some ⟨w.heap.size, 0, none⟩) 1 1 [.int .i64 (a : Int)] rfl rfl (Reads.lit _ _ _ _ _ rfl) (by simp [Value.oneCell']) (by omega) (by simp; omega) ?_; intro v3 w3 hown3 hg3 hat3; (obtain ⟨A3, c3, hv3⟩ := own_slice hown3); subst hv3; have hb3 : Below (g + 2) w w3 := grown_any (by omega) hg3 (fun k hk => own_base HT.out.o1 k hk); have o23 := own_alloc_kept HT.out.o2 hg3 (rows_apart HT.out.o2 HT.out.o1 (by decide)); have b03 := blk_low HT.out.b0 hb3 (by omega); have b13 := blk_low HT.out.b1 hb3 (by omega); have b23 := blk_low HT.out.b2 hb3 (by omega); have k1 : w3.cell? ⟨g, 0, none⟩ = some (.slice A1 n c1) := (by rw [b13.cell]; rfl); have f1 := b13.frozen 0; have O83 := Lib.hid (own_alloc_kept HR.out hg3 (rows_apart HR.out HT.out.o1 (by decide))); have O13 := Lib.hid hown3; have O23 := Lib.hid o23; have B03 := Lib.hid b03; have B13 := Lib.hid b13; have B23 := Lib.hid b23; clear hown3 hg3 hat3 o23 b03 b13 b23)
  obtain ⟨w4, hw4⟩ : ∃ w4, w3.setCell ⟨g, 0, none⟩ (.slice A3 (n + 1) c3) = w4 := ⟨_, rfl⟩
  have b04 : Blk w4 g0 3 #[.int .i64 most] := by rw [← hw4]; exact B03.out.far (p := ⟨g, 0, none⟩) (Nat.ne_of_lt hg0) _
  have b14 : Blk w4 g 38 #[.slice A3 (n + 1) c3] := by rw [← hw4]; exact B13.out.set_ 0 _
  have b24 : Blk w4 (g + 1) 39 #[.slice A2 n c2] := by rw [← hw4]; exact B23.out.far (p := ⟨g, 0, none⟩) (Nat.ne_of_gt (Nat.lt_succ_self g)) _
  have o14 : w4.ownsRow (g + 2) 3 1 (.slice A3 (n + 1) c3) (n + 1) (P ++ [.int .i64 (a : Int)]) := by rw [← hw4]; exact own_set O13.out (by omega) _
  have o24 : w4.ownsRow (g + 2) 9 1 (.slice A2 n c2) n T := by rw [← hw4]; exact own_set O23.out (by omega) _
  have hb4 : Below g w w4 := by rw [← hw4]; exact (hb3.mono (Nat.le_add_right g 2)).setCell (p := ⟨g, 0, none⟩) (Nat.le_refl _) _
  have o84 : w4.ownsRow (g + 2) 5 1 (.slice Ab m cb) m (u8s B) := by rw [← hw4]; exact own_set O83.out (by omega) _
  have hsz4 : g + 1 < w4.heap.size := b24.lt
  rw [hw4]
  clear hw4 k1 f1 hb3
  have hs := string_rule (reads_up o84 hm) m cb hm w4 (Below.refl _ _)
  have l0 : w4.cell? ⟨g + 1, 0, none⟩ = some (.slice A2 n c2) := by rw [b24.cell]; rfl
  have B04 := Lib.hid b04
  have B14 := Lib.hid b14
  have B24 := Lib.hid b24
  have O14 := Lib.hid o14
  have O24 := Lib.hid o24
  clear b04 b14 b24 o14 o24 o84
  go_upto_region 3 with (at_builtin; refine wpList_append_any _ rfl _ _ 39 rfl (g + 2) 9 _ 16 Try.underlying39 sinfo rfl (by omega) (.slice A2 n c2) n T rfl (O24.out.alloc _) (some ⟨w4.heap.size, 0, none⟩) 1 1 [.string (strOf B)] rfl rfl (Reads.lit _ _ _ _ _ rfl) (by simp [Value.oneCell']) (by omega) (by simp; omega) ?_; intro v5 w5 hown5 hg5 hat5; (obtain ⟨A5, c5, hv5⟩ := own_slice hown5); subst hv5; have hb5 : Below (g + 2) w4 w5 := grown_any (by omega) hg5 (fun k hk => own_base O24.out k hk); have o15 := own_alloc_kept O14.out hg5 (rows_apart O14.out O24.out (by decide)); have b05 := blk_low B04.out hb5 (by omega); have b15 := blk_low B14.out hb5 (by omega); have b25 := blk_low B24.out hb5 (by omega); have k2 : w5.cell? ⟨g + 1, 0, none⟩ = some (.slice A2 n c2) := (by rw [b25.cell]; rfl); have f2 := b25.frozen 0; have O15 := Lib.hid o15; have O25 := Lib.hid hown5; have B05 := Lib.hid b05; have B15 := Lib.hid b15; have B25 := Lib.hid b25; clear hown5 hg5 hat5 o15 b05 b15 b25)
  obtain ⟨w6, hw6⟩ : ∃ w6, w5.setCell ⟨g + 1, 0, none⟩ (.slice A5 (n + 1) c5) = w6 := ⟨_, rfl⟩
  have hT6 : Tell w6 g0 g most (n + 1) A3 c3 A5 c5 (P ++ [.int .i64 (a : Int)]) (T ++ [.string (strOf B)]) := by
    rw [← hw6]
    exact ⟨B05.out.far (p := ⟨g + 1, 0, none⟩) (Nat.ne_of_lt (Nat.lt_succ_of_lt hg0)) _, B15.out.far (p := ⟨g + 1, 0, none⟩) (Nat.ne_of_lt (Nat.lt_succ_self g)) _, B25.out.set_ 0 _, own_set O15.out (by omega) _, own_set O25.out (by omega) _⟩
  have hb6 : Below g w w6 := by rw [← hw6]; exact (hb4.trans (hb5.mono (Nat.le_add_right g 2))).setCell (p := ⟨g + 1, 0, none⟩) (Nat.le_succ _) _
  rw [hw6]
  have m1 : w6.cell? ⟨g + 1, 0, none⟩ = some (.slice A5 (n + 1) c5) := by rw [hT6.b2.cell]; rfl
  have m2 : w6.cell? ⟨g0, 0, none⟩ = some (.int .i64 most) := by rw [hT6.b0.cell]; rfl
  clear hw6 k2 f2
  go_wp2
  go_ret
  exact ⟨A3, c3, A5, c5, rfl, hT6, hb6⟩
end Go.Proofs.Ytimmemkiilblcaa
