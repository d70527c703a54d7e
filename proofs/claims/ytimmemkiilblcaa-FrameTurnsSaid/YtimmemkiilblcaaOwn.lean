/- Bytes appended: onto a slice without room, or onto a row of the call's own; the statements' Bytes. -/
import Derived.Test.YtimmemkiilblcaaCommon
namespace Go.Proofs.Ytimmemkiilblcaa
set_option linter.unusedVariables false
set_option linter.unusedSimpArgs false
open Go.RowKit
theorem binfo : (Try.prog.info? 5).map (fun i => (i.zero, i.size, i.bytes)) = some (some (.int .u8 0), 1, 1) := by kernel_rfl
/-- a slice without room that can be read, or a row of the call's own -/
def Full (w : World) (base : Nat) (e : TypeId) (v : Value) (xs : List Value) : Prop :=
  (∃ A, v = .slice A xs.length xs.length ∧ Reads w A xs) ∨ w.ownsRow base e 1 v xs.length xs
theorem Full.below {w w1 : World} {base : Nat} {e : TypeId} {v : Value} {xs : List Value} (h : Full w base e v xs) (hb : Below w.heap.size w w1) : Full w1 base e v xs := by
  rcases h with ⟨A, hv, hr⟩ | h
  · exact .inl ⟨A, hv, hr.below hb⟩
  · exact .inr (own_below h hb)
theorem Full.slice {w : World} {base : Nat} {e : TypeId} {v : Value} {xs : List Value} (h : Full w base e v xs) : ∃ A c, v = .slice A xs.length c := by
  rcases h with ⟨A, hv, hr⟩ | h
  · exact ⟨A, _, hv⟩
  · exact own_slice h
section
variable {P : Program} {ops : Array Oper} {rest : List Oper} {o : Oper} {a : Act} {Q : Exit → Act → World → Prop}
theorem wpList_append_full {W : World} (base : Nat) (hgd : o.guard = none) (s x : Operand) (t e : TypeId) (z : Value) (bytes : Nat)
    (ho : o.op = .call { callee := .builtin .append, args := #[s, x], argTypes := #[t, t] })
    (ht : P.underlying t = some (.slice e)) (hinfo : (P.info? e).map (fun i => (i.zero, i.size, i.bytes)) = some (some z, 1, bytes)) (hz : z.cells.size = 1) (hb0 : 0 < bytes)
    (v : Value) (xs : List Value) (y : Value) (hs : a.eval s = v) (hx : a.eval x = .slice (some ⟨W.heap.size, 0, none⟩) 1 1) (h1 : y.oneCell' = true)
    (HF : Full W base e v xs) (hbase : base ≤ W.heap.size) (hl : (xs.length + 1) * bytes ≤ 140737488355328)
    (h : ∀ v1 w1, w1.ownsRow base e 1 v1 (xs ++ [y]).length (xs ++ [y]) → Below base W w1 → W.grownBy w1 v.ownBlock → wpList P ops Q rest (a.put o.dst v1) w1) :
    wpList P ops Q (o :: rest) a (W.alloc (.cells #[y] e)) := by
  obtain ⟨i0, hi, hz0, hz1, hz2⟩ := info_parts hinfo
  have hlen : xs.length + 1 ≤ 140737488355328 := Nat.le_trans (Nat.le_mul_of_pos_right _ hb0) hl
  have hbn : Below W.heap.size W (W.alloc (.cells #[y] e)) := below_new _ _
  rcases HF with ⟨A, hv, hr⟩ | HO
  · have hr' := hr.below hbn
    refine wpList_append_grows (W.alloc (.cells #[y] e)) hgd s x t ho e i0 z 1 bytes ht hi hz0 hz1 hz2 hz (by omega) A xs.length xs.length xs (by rw [hs, hv]) ?_ (by omega) ?_ ⟨W.heap.size, 0, none⟩ 1 1 [y] hx rfl
      (World.news_of_block (cs := #[y]) (t := e) (fr := (0, 0)) (heap_alloc_new W _)) (by simpa using h1) (by omega) (by simp only [maxLen]; omega) hl ?_
    · intro hA
      rcases Nat.eq_zero_or_pos xs.length with h0 | h0
      · exact ⟨h0, h0⟩
      · obtain ⟨ad, e1, _⟩ := hr h0
        rw [e1] at hA
        cases hA
    · intro b hA j u hu
      have hp : 0 < xs.length := by
        rcases Nat.eq_zero_or_pos xs.length with h0 | h0
        · rw [List.eq_nil_of_length_eq_zero h0] at hu; simp at hu
        · exact h0
      obtain ⟨ad, e1, hc⟩ := hr' hp
      rw [e1] at hA
      injection hA with hA
      subst hA
      exact hc j u hu
    · intro v1 w1 hown hg
      have hbw : base ≤ (W.alloc (.cells #[y] e)).heap.size := by simp; omega
      have hown' := own_mono hown hbw
      refine h v1 w1 (by simpa using hown') (((Below.refl _ _).alloc hbase _).grown hg (by simp; omega) (by simp)) ?_
      have hg2 : W.grownBy w1 none := World.grownBy.trans (World.grownBy_alloc W _ _) hg
      exact ⟨hg2.os, hg2.tape, hg2.output, hg2.size, fun k hk _ => hg2.block k hk (by simp)⟩
  · refine wpList_append_own_at (W.alloc (.cells #[y] e)) hgd s x t ho base e i0 z 1 bytes ht hi hz0 hz1 hz2 hz (by omega) v xs.length xs hs (HO.alloc _) ⟨W.heap.size, 0, none⟩ 1 1 [y] hx rfl
      (World.news_of_block (cs := #[y]) (t := e) (fr := (0, 0)) (heap_alloc_new W _)) (by simpa using h1) (by simp only [maxLen]; omega) hl (by simp; omega) ?_
    intro v1 w1 hown hg _ hat
    exact h v1 w1 (by simpa using hown) (((Below.refl _ _).alloc hbase _).grown hg (by simp; omega) (own_base HO)) (World.grownBy.trans (World.grownBy_alloc W _ _) hg)
end
theorem u8s_snoc (bs : List UInt8) (x : UInt8) : u8s bs ++ [.int .u8 (x.toNat : Int)] = u8s (bs ++ [x]) := by simp [u8s]
/-- bytes of the call's own -/
def OwnB (w : World) (base : Nat) (v : Value) (bs : List UInt8) : Prop := w.ownsRow base 5 1 v bs.length (u8s bs)
theorem OwnB.slice {w : World} {base : Nat} {v : Value} {bs : List UInt8} (h : OwnB w base v bs) : ∃ A c, v = .slice A bs.length c := own_slice h
theorem OwnB.full {w : World} {base : Nat} {v : Value} {bs : List UInt8} (h : OwnB w base v bs) : Full w base 5 v (u8s bs) := .inr (by rw [u8s_length]; exact h)
theorem OwnB.below {w w1 : World} {base : Nat} {v : Value} {bs : List UInt8} (h : OwnB w base v bs) (hb : Below w.heap.size w w1) : OwnB w1 base v bs := own_below h hb
theorem OwnB.mono {w : World} {base base' : Nat} {v : Value} {bs : List UInt8} (h : OwnB w base v bs) (hb : base' ≤ base) : OwnB w base' v bs := own_mono h hb
theorem OwnB.reads {w : World} {base : Nat} {A : Option Addr} {n c : Nat} {bs : List UInt8} (h : OwnB w base (.slice A n c) bs) : ReadsB w A bs := by
  obtain ⟨A', c', hv⟩ := h.slice
  injection hv with h1 h2 h3
  subst h1 h2 h3
  exact Reads.of_own h
theorem OwnB.drew {w : World} {base : Nat} {v : Value} {bs : List UInt8} (h : OwnB w base v bs) : OwnB w.drew base v bs := h
theorem OwnB.nil (w : World) (base : Nat) : OwnB w base (.slice none 0 0) [] := World.ownsRow_nil _ _ _ _
set_option maxHeartbeats 400000 in
theorem bytesOwn_any (A : Option Addr) (bs : List UInt8) (c : Nat) (w : World) (hl : bs.length ≤ 140737488355328) (hr : ReadsB w A bs) :
    Calls Try.prog 11 #[.slice A bs.length c] w fun e w' => ∃ A' c', e = .returned (.slice A' bs.length c') ∧ OwnB w' w.heap.size (.slice A' bs.length c') bs ∧ Below w.heap.size w w' := by
  have HR := Lib.hid hr
  clear hr
  go_enter Try.func11, Try.ntmps11
  go_wp2_with (at_builtin; refine wpList_append_any _ rfl _ _ 22 rfl w.heap.size 5 _ 1 Try.underlying22 binfo rfl (by omega) (.slice none 0 0) 0 [] rfl (World.ownsRow_nil _ _ _ _) A bs.length c (u8s bs) rfl (u8s_length bs) HR.out (u8s_one bs) (by omega) (Nat.le_refl _) ?_; intro v1 w1 hown hg hat)
  go_ret
  obtain ⟨A', c', hv⟩ := own_slice hown
  subst hv
  simp only [Nat.zero_add, List.nil_append] at hown
  exact ⟨A', c', by simp, hown, (Below.refl _ _).grown hg (Nat.le_refl _) (by simp [Value.ownBlock])⟩
end Go.Proofs.Ytimmemkiilblcaa
