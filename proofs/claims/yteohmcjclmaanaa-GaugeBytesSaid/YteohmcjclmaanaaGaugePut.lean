/- What plain.Put (of two numbers) and gauge.Put compute: the walks. -/
import Derived.Test.YteohmcjclmaanaaGaugeBytesL
namespace Go.Proofs.Yteohmcjclmaanaa
set_option linter.unusedVariables false
set_option linter.unusedSimpArgs false
open Go.RowKit
section
variable {P : Program} {ops : Array Oper} {rest : List Oper} {o : Oper} {a : Act} {Q : Exit → Act → World → Prop}
/-- append of several cells onto a slice without room or a row of the call's own -/
theorem wpList_append_fullN {W : World} (base : Nat) (hgd : o.guard = none) (s x : Operand) (t e : TypeId) (z : Value) (bytes : Nat)
    (ho : o.op = .call { callee := .builtin .append, args := #[s, x], argTypes := #[t, t] })
    (ht : P.underlying t = some (.slice e)) (hinfo : (P.info? e).map (fun i => (i.zero, i.size, i.bytes)) = some (some z, 1, bytes)) (hz : z.cells.size = 1) (hb0 : 0 < bytes)
    (v : Value) (n : Nat) (xs : List Value) (hn : xs.length = n) (hs : a.eval s = v) (A : Option Addr) (m c : Nat) (news : List Value) (hx : a.eval x = .slice A m c) (hm : news.length = m) (hm0 : 0 < m) (hr : Reads W A news) (h1 : ∀ u ∈ news, u.oneCell' = true)
    (HF : Full W base e v xs) (hbase : base ≤ W.heap.size) (hl : (n + m) * bytes ≤ 140737488355328)
    (h : ∀ v1 w1, w1.ownsRow base e 1 v1 (n + m) (xs ++ news) → Below base W w1 → wpList P ops Q rest (a.put o.dst v1) w1) :
    wpList P ops Q (o :: rest) a W := by
  subst hn
  obtain ⟨i0, hi, hz0, hz1, hz2⟩ := info_parts hinfo
  have hlen : xs.length + m ≤ 140737488355328 := Nat.le_trans (Nat.le_mul_of_pos_right _ hb0) hl
  obtain ⟨ad, rfl, hc⟩ := hr (by omega)
  rcases HF with ⟨A, hv, hr0⟩ | HO
  · refine wpList_append_grows W hgd s x t ho e i0 z 1 bytes ht hi hz0 hz1 hz2 hz (by omega) A xs.length xs.length xs (by rw [hs, hv]) ?_ (by omega) ?_ ad m c news hx (by omega) hc h1 (by omega) (by simp only [maxLen]; omega) hl ?_
    · intro hA
      rcases Nat.eq_zero_or_pos xs.length with h0 | h0
      · exact ⟨h0, h0⟩
      · obtain ⟨ad, e1, _⟩ := hr0 h0
        rw [e1] at hA
        cases hA
    · intro b hA j u hu
      have hp : 0 < xs.length := by
        rcases Nat.eq_zero_or_pos xs.length with h0 | h0
        · rw [List.eq_nil_of_length_eq_zero h0] at hu; simp at hu
        · exact h0
      obtain ⟨ad, e1, hc⟩ := hr0 hp
      rw [e1] at hA
      injection hA with hA
      subst hA
      exact hc j u hu
    · intro v1 w1 hown hg
      exact h v1 w1 (own_mono hown hbase) ((Below.refl _ _).grown hg hbase (by simp))
  · refine wpList_append_own_at W hgd s x t ho base e i0 z 1 bytes ht hi hz0 hz1 hz2 hz (by omega) v xs.length xs hs HO ad m c news hx (by omega) hc h1 (by simp only [maxLen]; omega) hl hbase ?_
    intro v1 w1 hown hg _ hat
    exact h v1 w1 hown ((Below.refl _ _).grown hg hbase (own_base HO))
end
theorem ownB_cat {w : World} {base n : Nat} {v : Value} {a b bs : List UInt8} (h : w.ownsRow base 5 1 v n (u8s a ++ u8s b)) (hn : bs.length = n) (he : a ++ b = bs) : OwnB w base v bs := by
  subst hn he
  unfold OwnB
  rw [u8s_append]
  exact h
set_option maxRecDepth 100000 in
set_option maxHeartbeats 1600000 in
theorem plput_any (A : Option Addr) (bs : List UInt8) (n c : Nat) (g cl a b la lb : Nat) (w : World) (hn : bs.length = n) (hl : n + 20 ≤ 140737488355328) (hc : n ≤ c) (hr : ReadsB w A bs) (ha : a < 18446744073709551616) (hb : b < 18446744073709551616) (hla : (enc a).length = la) (hlb : (enc b).length = lb)
    (k0 : w.cell? ⟨g, 0, none⟩ = some (.int .u64 (a : Int))) (k1 : w.cell? ⟨g, 1, none⟩ = some (.int .u64 (b : Int))) :
    Calls Try.prog 37 #[.slice A n c, .slice (some ⟨g, 0, none⟩) 2 cl] w fun e w' => ∃ A' c', e = .returned (.slice A' (n + la + lb) c') ∧ OwnB w' w.heap.size (.slice A' (n + la + lb) c') (bs ++ enc a ++ enc b) ∧ Below w.heap.size w w' := by
  have HR := Lib.hid hr
  have HN := Lib.hid hn
  have HLA := Lib.hid hla
  have HLB := Lib.hid hlb
  have HA := Lib.hid ha
  have HB := Lib.hid hb
  have la1 := enc_pos a
  have la2 := enc_le10 ha
  have lb1 := enc_pos b
  have lb2 := enc_le10 hb
  rw [hla] at la1 la2
  rw [hlb] at lb1 lb2
  have h0 : (n : Int) ≤ (c : Int) := by omega
  clear hr hn hla hlb ha hb
  go_enter Try.func37, Try.ntmps37
  go_wp2
  refine wp_loop_rounds 3 ?_
  rw [rounds_succ]
  go_wp2_with fail
  refine (vput_nil a la _ HA.out HLA.out).mono ?_
  rintro e w1 ⟨A1, c1, rfl, ho1, hb1⟩
  have HO1 := Lib.hid ho1
  clear ho1
  have k1' := cell_later hb1 k1
  go_wp2_with (at_builtin; refine wpList_append_fullN w.heap.size rfl _ _ 42 5 _ 1 rfl Try.underlying42 binfo rfl (by omega) (.slice A n n) n (u8s bs) (by rw [u8s_length, HN.out]) rfl A1 la c1 (u8s (enc a)) rfl (by rw [u8s_length, HLA.out]) (by omega) HO1.out.reads (u8s_one _) (.inl ⟨A, by rw [u8s_length, HN.out], HR.out.below hb1⟩) hb1.size (by omega) ?_; intro v2 w2 hown2 hbl2; (obtain ⟨A2, c2, hv2⟩ := own_slice hown2); subst hv2; have HO2 := Lib.hid (ownB_cat hown2 (bs := bs ++ enc a) (by rw [List.length_append, HN.out, HLA.out]) rfl); have hb2 := hb1.trans hbl2; have k2' := cell_later hb2 k1; clear hown2 hbl2)
  rw [rounds_succ]
  go_wp2_with fail
  refine (vput_nil b lb _ HB.out HLB.out).mono ?_
  rintro e w3 ⟨A3, c3, rfl, ho3, hb3⟩
  have HO3 := Lib.hid ho3
  have hb4 := below_then hb2 hb3
  clear ho3
  go_wp2_with (at_builtin; refine wpList_append_fullN w.heap.size rfl _ _ 42 5 _ 1 rfl Try.underlying42 binfo rfl (by omega) (.slice A2 (n + la) c2) (n + la) (u8s (bs ++ enc a)) (by rw [u8s_length, List.length_append, HN.out, HLA.out]) rfl A3 lb c3 (u8s (enc b)) rfl (by rw [u8s_length, HLB.out]) (by omega) HO3.out.reads (u8s_one _) (HO2.out.below hb3).full hb4.size (by omega) ?_; intro v5 w5 hown5 hbl5; (obtain ⟨A5, c5, hv5⟩ := own_slice hown5); subst hv5; have HO5 := Lib.hid (ownB_cat hown5 (bs := bs ++ enc a ++ enc b) (by rw [List.length_append, List.length_append, HN.out, HLA.out, HLB.out]) rfl); have hb5 := hb4.trans hbl5; clear hown5 hbl5)
  rw [rounds_succ]
  go_wp2
  go_ret
  exact ⟨A5, c5, rfl, HO5.out, hb5⟩
end Go.Proofs.Yteohmcjclmaanaa
