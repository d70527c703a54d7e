/- The reference's All: the walk. -/
import Derived.Test.YtimmemkiilblcaaFrameTell
namespace Go.Proofs.Ytimmemkiilblcaa
set_option linter.unusedVariables false
set_option linter.unusedSimpArgs false
open Go.RowKit
theorem finfo : (Try.prog.info? 43).map (fun i => (i.zero, i.size, i.bytes)) = some (some (.agg #[.int .i64 0, .slice none 0 0, .int .i64 0]), 3, 40) := by kernel_rfl
theorem info_all {P : Program} {e : TypeId} {z : Value} {size bytes : Nat} (h : (P.info? e).map (fun i => (i.zero, i.size, i.bytes)) = some (some z, size, bytes)) : ∃ i, P.info? e = some i ∧ i.zero = some z ∧ i.size = size ∧ i.bytes = bytes := by
  rcases hi : P.info? e with _ | i
  · rw [hi] at h; cases h
  · rw [hi] at h
    simp only [Option.map_some, Option.some.injEq, Prod.mk.injEq] at h
    exact ⟨i, rfl, h.1, h.2.1, h.2.2⟩
/-- frames, as they lie in a row of their own, their bodies in rows of their own -/
def FsOk (w : World) (base : Nat) (l : List Fr) (xs : List Value) : Prop :=
  xs.length = l.length * 3 ∧ ∀ i f, l[i]? = some f → ∃ A c, xs[3 * i]? = some (.int .i64 (f.1 : Int)) ∧ xs[3 * i + 1]? = some (.slice A f.2.1.length c) ∧ xs[3 * i + 2]? = some (.int .i64 (f.2.2 : Int)) ∧ OwnB w base (.slice A f.2.1.length c) f.2.1
theorem FsOk.nil (w : World) (base : Nat) : FsOk w base [] [] := ⟨rfl, fun i f h => by simp at h⟩
theorem FsOk.keep {w w' : World} {base : Nat} {l : List Fr} {xs : List Value} (h : FsOk w base l xs) (hk : ∀ v B, OwnB w base v B → OwnB w' base v B) : FsOk w' base l xs :=
  ⟨h.1, fun i f hf => by
    obtain ⟨A, c, h1, h2, h3, h4⟩ := h.2 i f hf
    exact ⟨A, c, h1, h2, h3, hk _ _ h4⟩⟩
theorem FsOk.below {w w' : World} {base : Nat} {l : List Fr} {xs : List Value} (h : FsOk w base l xs) (hb : Below w.heap.size w w') : FsOk w' base l xs := h.keep fun _ _ h => h.below hb
theorem FsOk.snoc {w : World} {base a e m c : Nat} {A : Option Addr} {B : List UInt8} {l : List Fr} {xs : List Value} (h : FsOk w base l xs) (hB : OwnB w base (.slice A m c) B) (hm : B.length = m) :
    FsOk w base (l ++ [(a, B, e)]) (xs ++ [.int .i64 (a : Int), .slice A m c, .int .i64 (e : Int)]) := by
  subst hm
  refine ⟨by simp [h.1]; omega, fun i f hf => ?_⟩
  rcases Nat.lt_trichotomy i l.length with hi | hi | hi
  · rw [List.getElem?_append_left hi] at hf
    obtain ⟨A', c', h1, h2, h3, h4⟩ := h.2 i f hf
    have hx := h.1
    exact ⟨A', c', by rw [List.getElem?_append_left (by omega)]; exact h1, by rw [List.getElem?_append_left (by omega)]; exact h2, by rw [List.getElem?_append_left (by omega)]; exact h3, h4⟩
  · subst hi
    simp only [List.getElem?_concat_length, Option.some.injEq] at hf
    subst hf
    have hx := h.1
    refine ⟨A, c, ?_, ?_, ?_, hB⟩
    · rw [List.getElem?_append_right (by omega), show 3 * l.length - xs.length = 0 by omega]; rfl
    · rw [List.getElem?_append_right (by omega), show 3 * l.length + 1 - xs.length = 1 by omega]; rfl
    · rw [List.getElem?_append_right (by omega), show 3 * l.length + 2 - xs.length = 2 by omega]; rfl
  · have hlt := (List.getElem?_eq_some_iff.1 hf).1
    simp at hlt
    omega
/-- rows of two types are apart, of whatever width -/
theorem rows_apartN {w : World} {b1 b2 s1 s2 : Nat} {t1 t2 : TypeId} {v1 v2 : Value} {n1 n2 : Nat} {x1 x2 : List Value} (h1 : w.ownsRow b1 t1 s1 v1 n1 x1) (h2 : w.ownsRow b2 t2 s2 v2 n2 x2) (ht : t1 ≠ t2) : v1.ownBlock = none ∨ v1.ownBlock ≠ v2.ownBlock := by
  rcases h1.2 with ⟨rfl, _⟩ | ⟨g1, cap1, cur1, rfl, _, hh1, _⟩
  · exact .inl rfl
  · rcases h2.2 with ⟨rfl, _⟩ | ⟨g2, cap2, cur2, rfl, _, hh2, _⟩
    · exact .inr (by simp [Value.ownBlock])
    · refine .inr (fun he => ht ?_)
      simp only [Value.ownBlock, Option.some.injEq] at he
      subst he
      rw [hh1] at hh2
      injection hh2 with hh2
      injection hh2 with _ hh2
theorem wpList_append_wide {P : Program} (w : World) {ops : Array Oper} {rest : List Oper} {o : Oper} {a : Act} {Q : Exit → Act → World → Prop} (hgd : o.guard = none) (s x : Operand) (t : TypeId)
    (ho : o.op = .call { callee := .builtin .append, args := #[s, x], argTypes := #[t, t] })
    (base : Nat) (e : TypeId) (z : Value) (size bytes : Nat) (ht : P.underlying t = some (.slice e)) (hinfo : (P.info? e).map (fun i => (i.zero, i.size, i.bytes)) = some (some z, size, bytes)) (hzs : z.cells.size = size) (hs0 : 0 < size) (hb0 : 0 < bytes)
    (v : Value) (n : Nat) (xs : List Value) (hs : a.eval s = v) (hown : w.ownsRow base e size v n xs)
    (ad : Addr) (m c : Nat) (news : List Value) (hx : a.eval x = .slice (some ad) m c) (hm : news.length = m * size) (hr : ∀ j u, news[j]? = some u → w.cell? (ad.add j) = some u) (h1 : ∀ u ∈ news, u.oneCell' = true)
    (hbytes : (n + m) * bytes ≤ 140737488355328) (hbase : base ≤ w.heap.size)
    (h : ∀ v' w', w'.ownsRow base e size v' (n + m) (xs ++ news) → w.grownBy w' v.ownBlock → (v'.ownBlock = v.ownBlock ∨ v'.ownBlock = some w.heap.size) → wpList P ops Q rest (a.put o.dst v') w') : wpList P ops Q (o :: rest) a w := by
  obtain ⟨i, hi, hz, hsize, hby⟩ := info_all hinfo
  have hle : n + m ≤ 140737488355328 := Nat.le_trans (Nat.le_mul_of_pos_right _ hb0) hbytes
  exact wpList_append_own_at (P := P) w hgd s x t ho base e i z size bytes ht hi hz hsize hby hzs hs0 v n xs hs hown ad m c news hx hm hr h1 (by simp only [maxLen]; omega) hbytes hbase fun v' w' h2 h3 _ h5 => h v' w' h2 h3 h5
theorem blk_two (w : World) (o : Obj) (cs : Array Value) (t : TypeId) : Blk ((w.alloc o).alloc (.cells cs t)) (w.heap.size + 1) t cs := by
  have h := Blk.new (w.alloc o) t cs
  rwa [show (w.alloc o).heap.size = w.heap.size + 1 by simp] at h
theorem cells_two (w : World) (o : Obj) (cs : Array Value) (t : TypeId) (news : List Value) (hn : cs.toList = news) : ∀ j u, news[j]? = some u → ((w.alloc o).alloc (.cells cs t)).cell? ((⟨w.heap.size + 1, 0, none⟩ : Addr).add j) = some u := by
  subst hn
  intro j u h
  rw [add_plain, (blk_two w o cs t).cell]
  simpa using h
theorem OwnB.alloc2 {w : World} {base : Nat} {v : Value} {B : List UInt8} {o p : Obj} (h : OwnB w base v B) : OwnB ((w.alloc o).alloc p) base v B := (h.alloc o).alloc p
theorem ownB_kept {w w' : World} {b1 b2 s2 n2 : Nat} {t2 : TypeId} {v1 v2 : Value} {B : List UInt8} {x2 : List Value} (h : OwnB w b1 v1 B) (h2 : w.ownsRow b2 t2 s2 v2 n2 x2) (hg : w.grownBy w' v2.ownBlock) (ht : 5 ≠ t2) : OwnB w' b1 v1 B :=
  World.ownsRow.kept (show w.ownsRow b1 5 1 v1 B.length (u8s B) from h) hg (rows_apartN (show w.ownsRow b1 5 1 v1 B.length (u8s B) from h) h2 ht)
theorem own_not {w w1 : World} {base n size c : Nat} {e : TypeId} {A : Option Addr} {xs : List Value} (h : w.ownsRow base e size (.slice A n c) n xs) (hb : Below w.heap.size w w1) : (Value.slice A n c).ownBlock ≠ some w1.heap.size := by
  intro he
  have h1 := (h.lt _ he).2
  have h2 := hb.size
  omega
theorem blk_grown {w w' : World} {k : Nat} {t : TypeId} {cs : Array Value} {row : Option Nat} (h : Blk w k t cs) (hg : w.grownBy w' row) (hne : row ≠ some k) : Blk w' k t cs :=
  (hg.block k (Blk.lt h) (fun he => hne he.symm)).trans h
set_option maxRecDepth 100000 in
set_option maxHeartbeats 3200000 in
theorem rall_any (A : Option Addr) (bs : List UInt8) (c : Nat) (w : World) (hl : bs.length ≤ 1048576) (hc : bs.length ≤ c) (hr : ReadsB w A bs) :
    Calls Try.prog 16 #[.slice A bs.length c] w fun e w' => ∃ Al cl xs, e = .returned (.tuple #[.slice Al (frames bs).length cl, .int .i64 (endOf (frames bs) : Int)]) ∧ w'.ownsRow w.heap.size 43 3 (.slice Al (frames bs).length cl) (frames bs).length xs ∧ FsOk w' w.heap.size (frames bs) xs ∧ Below w.heap.size w w' := by
  have HR := Lib.hid hr
  clear hr
  go_enter Try.func16, Try.ntmps16
  go_wp2
  go_loopw [4, 5] (fun v i wr => ∃ (k a n : Nat) (l : List Fr) (Al : Option Addr) (cl : Nat) (xs : List Value), v = .slice Al n cl ∧ i = .int .i64 (a : Int) ∧ a ≤ bs.length ∧ n ≤ a ∧ Hid (l.length = n) ∧ Hid (bs.length < a + k ∧ frames bs = l ++ framesN k bs a ∧ endOf l = a) ∧ Hid (wr.ownsRow w.heap.size 43 3 (.slice Al n cl) n xs) ∧ Hid (FsOk wr w.heap.size l xs) ∧ Hid (Below w.heap.size w wr)) (fun _ i _ => bs.length - (intOf i).toNat)
  case atStart => exact ⟨bs.length + 1, 0, 0, [], none, 0, [], rfl, rfl, by omega, by omega, rfl, ⟨by omega, by simp [frames], rfl⟩, World.ownsRow_nil _ _ _ _, FsOk.nil _ _, Below.refl _ _⟩
  case round =>
    obtain ⟨k, a, n, l, Al, cl, xs, rfl, rfl, ha, hna, HN, HK, HO, HFS, HW⟩ := hrel
    by_cases hin : a < bs.length
    · have q1 : (a : Int) < (bs.length : Int) := by omega
      rcases hf : frameAt bs a with _ | ⟨B, e'⟩
      · have HF := Lib.hid hf
        clear hf
        go_wp2_with fail
        refine (one_none A bs c a _ (by omega) hc hin (HR.out.below HW.out) HF.out).mono ?_
        rintro e w1 ⟨rfl, hb1⟩
        go_wp2
        go_ret2
        have hk := HK.out.2.1
        rw [framesN_none HF.out, List.append_nil] at hk
        have hk3 := HK.out.2.2
        have hn := HN.out
        rw [← hk] at hk3 hn
        rw [hk3, hn]
        have hb2 := hb1.alloc hb1.size (.cells #[.int .i64 0, .slice none 0 0, .int .i64 0] 43)
        exact ⟨Al, cl, xs, rfl, own_below HO.out hb2, by rw [hk]; exact HFS.out.below hb2, below_then HW.out hb2⟩
      · have HF := Lib.hid hf
        obtain ⟨m, hm⟩ : ∃ m, B.length = m := ⟨_, rfl⟩
        have HM := Lib.hid hm
        clear hf hm
        go_wp2_with fail
        refine (one_some A bs c a _ (by omega) hc (HR.out.below HW.out) B e' m HF.out HM.out).mono ?_
        rintro e w1 ⟨A', c', rfl, hown, hb1⟩
        have HOB := Lib.hid hown
        clear hown
        have hW1 := below_then HW.out hb1
        have hn1 : n ≤ 1048576 := by omega
        have hin2 := frameAt_in HF.out
        go_wp2_with (at_builtin; refine wpList_append_wide _ rfl _ _ 32 rfl w.heap.size 43 _ 3 40 Try.underlying32 finfo rfl (by omega) (by omega) (.slice Al n cl) n xs rfl (((own_below HO.out hb1).alloc _).alloc _) ⟨w1.heap.size + 1, 0, none⟩ 1 1 [.int .i64 (a : Int), .slice A' m c', .int .i64 (e' : Int)] rfl rfl (cells_two _ _ _ _ _ rfl) (by simp [Value.oneCell']) (by omega) (by have := hW1.size; simp; omega) ?_; intro v3 w3 hown3 hg3 hat3; (obtain ⟨A3, c3, hv3⟩ := own_slice hown3); subst hv3; have hW3 : Below w.heap.size w w3 := ((hW1.alloc hW1.size _).alloc (by have := hW1.size; simp; omega) _).grown hg3 (by have := hW1.size; simp; omega) (fun k hk => own_base HO.out k hk); have HF3 := Lib.hid (((HFS.out.below hb1).keep (fun v B h => OwnB.alloc2 h)).keep (fun v B h => ownB_kept h (((own_below HO.out hb1).alloc _).alloc _) hg3 (by decide))); have HB3 := Lib.hid (ownB_kept (OwnB.alloc2 (HOB.out.mono HW.out.size)) (((own_below HO.out hb1).alloc _).alloc _) hg3 (by decide)); have hq3 := blk_grown ((Blk.new w1 _ _).alloc _) hg3 (own_not HO.out hb1); have k3 : w3.cell? ⟨w1.heap.size, 2, none⟩ = some (.int .i64 (e' : Int)) := (by rw [hq3.cell]; rfl); have HO3 := Lib.hid hown3; clear hown3 hg3 hat3 hq3)
        go_roundw
        case rel =>
          obtain ⟨k', _, hk2, hs⟩ := framesN_some HF.out HK.out.1
          exact ⟨k', e', n + 1, l ++ [(a, B, e')], A3, c3, _, rfl, rfl, hin2.2.2.1, by omega, by show _ = _; rw [List.length_append, HN.out]; rfl, ⟨hk2, by rw [HK.out.2.1, hs, List.append_assoc]; rfl, endOf_snoc _ _⟩, HO3.out, FsOk.snoc HF3.out HB3.out HM.out, hW3⟩
        case measure => simp [intOf]; omega
    · have q1 : (bs.length : Int) ≤ (a : Int) := by omega
      go_wp2
      go_ret2
      have hk := HK.out.2.1
      rw [framesN_none (frameAt_far (by omega)), List.append_nil] at hk
      have hk3 := HK.out.2.2
      have hn := HN.out
      rw [← hk] at hk3 hn
      rw [hk3, hn]
      exact ⟨Al, cl, xs, rfl, HO.out, by rw [hk]; exact HFS.out, HW.out⟩
end Go.Proofs.Ytimmemkiilblcaa
