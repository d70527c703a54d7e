/- The reference's Put of a gauge: the walk. -/
import Derived.Test.YteohmcjclmaanaaGaugeRef
namespace Go.Proofs.Yteohmcjclmaanaa
set_option linter.unusedVariables false
set_option linter.unusedSimpArgs false
open Go.RowKit
/-- bytes appended to a row of the call's own, at a step of a region that draws -/
theorem step_append_bytes (w : World) {ops : Array Oper} {o : Oper} {a : Act} {K : Act → World → Prop} {Q : Exit → Act → World → Prop} {E : Prop} (hgd : o.guard = none) (s x : Operand)
    (ho : o.op = .call { callee := .builtin .append, args := #[s, x], argTypes := #[42, 42] })
    (base : Nat) (A : Option Addr) (n c : Nat) (bs : List UInt8) (hs : a.eval s = .slice A n c) (hn : bs.length = n) (hown : OwnB w base (.slice A n c) bs)
    (A2 : Option Addr) (m c2 : Nat) (bs2 : List UInt8) (hx : a.eval x = .slice A2 m c2) (hm : bs2.length = m) (hm0 : 0 < m) (hr : ReadsB w A2 bs2) (hl : n + m ≤ 140737488355328) (hbase : base ≤ w.heap.size)
    (h : ∀ A3 c3 w', OwnB w' base (.slice A3 (n + m) c3) (bs ++ bs2) → Below base w w' → w.grownBy w' (Value.slice A n c).ownBlock → K (a.put o.dst (.slice A3 (n + m) c3)) w') :
    if Region.wanted o (yielded ops a.tmps) = true then Oper.wp Try.prog o a w K Q else E := by
  obtain ⟨i0, hi, hz0, hz1, hz2⟩ := info_parts (P := Try.prog) binfo
  obtain ⟨ad, rfl, hc⟩ := hr (by rw [u8s_length]; omega)
  have hw : Region.wanted o (yielded ops a.tmps) = true := by simp [Region.wanted, hgd]
  rw [if_pos hw]
  have ho1 := ownB_of hown hn
  refine wp_append_lies w s x 42 ho base 5 i0 (.int .u8 0) 1 1 Try.underlying42 hi hz0 hz1 hz2 rfl (by omega) (.slice A n c) n (u8s bs) hs ho1 ad m c2 (u8s bs2) hx (by rw [u8s_length, hm]; omega) hc (u8s_one _) hm0 (by simp only [maxLen]; omega) (by omega) hbase _ rfl ?_
  intro g cap w1 hown1 hg _ _
  exact h _ _ _ (ownB_cat hown1 (by rw [List.length_append, hn, hm]) rfl) ((Below.refl _ _).grown hg hbase (own_base ho1)) hg
theorem ownB_far {w w' : World} {b1 z : Nat} {v1 v4 : Value} {B : List UInt8} (h : OwnB w b1 v1 B) (hg : w.grownBy w' v4.ownBlock) (hlt : ∀ k, v4.ownBlock = some k → k < z) (hb : z ≤ b1) : OwnB w' b1 v1 B := by
  refine World.ownsRow.kept (show w.ownsRow b1 5 1 v1 B.length (u8s B) from h) hg ?_
  rcases hv : v1.ownBlock with _ | k
  · exact .inl rfl
  · refine .inr ?_
    intro he
    have h1 := own_base h k hv
    have h2 := hlt k he.symm
    omega
set_option maxRecDepth 100000 in
set_option maxHeartbeats 3200000 in
theorem rgput_any (gn gm lo hi x : Nat) (w : World) (hw : G4.wf ⟨gn, gm, lo, hi⟩) (hx : (encG ⟨gn, gm, lo, hi⟩).length = x) :
    Calls Try.prog 27 #[.agg #[.int .u64 (gn : Int), .int .u64 (gm : Int), .int .u64 (lo : Int), .int .u64 (hi : Int)]] w fun e w' => ∃ A' c', e = .returned (.slice A' x c') ∧ OwnB w' w.heap.size (.slice A' x c') (encG ⟨gn, gm, lo, hi⟩) ∧ Below w.heap.size w w' := by
  obtain ⟨w1', w2', w3', w4'⟩ := hw
  simp only at w1' w2' w3' w4'
  obtain ⟨la, hla⟩ : ∃ la, (enc gm).length = la := ⟨_, rfl⟩
  obtain ⟨lb, hlb⟩ : ∃ lb, (enc gn).length = lb := ⟨_, rfl⟩
  have la1 := enc_le10 w2'
  have lb1 := enc_le10 w1'
  have lb0 := enc_pos gn
  rw [hla] at la1
  rw [hlb] at lb1 lb0
  have HLA := Lib.hid hla
  have HLB := Lib.hid hlb
  have HW1 := Lib.hid w1'
  have HW2 := Lib.hid w2'
  have HW3 := Lib.hid w3'
  have HW4 := Lib.hid w4'
  have HX := Lib.hid hx
  clear hla hlb hx w1' w2' w3' w4'
  go_enter Try.func27, Try.ntmps27
  go_wp2_with fail
  obtain ⟨w0, hw0⟩ : ∃ w0, w0 = w.alloc (.cells #[.int .u64 (gn : Int), .int .u64 (gm : Int), .int .u64 (lo : Int), .int .u64 (hi : Int)] 24) := ⟨_, rfl⟩
  have hb0 : Below w.heap.size w w0 := by rw [hw0]; exact below_new _ _
  have ga : GB w0 w.heap.size gn gm lo hi := by rw [hw0]; exact GB.new _ _ _ _ _
  rw [← hw0]
  have GA := Lib.hid ga
  obtain ⟨p0, p1, p2, p3⟩ := ga.rules
  clear hw0 ga
  go_region_held3 (fun W' => Below w0.heap.size w0 W') (first | exact (Below.refl _ _).drew | exact below_then (by assumption) (by assumption) | exact Below.trans (by assumption) (by assumption) | assumption) (first
    | (go_at_call 39; (with_reducible refine (refPut_n gm la _ HW2.out HLA.out).mono ?_); rintro e w2 ⟨A2, c2, rfl, ho2, hb2⟩)
    | (go_at_call 39; (with_reducible refine (refPut_n gn lb _ HW1.out HLB.out).mono ?_); rintro e w3 ⟨A3, c3, rfl, ho3, hb3⟩)
    | (refine step_append_bytes _ rfl _ _ rfl w0.heap.size A2 la c2 (enc gm) rfl HLA.out ((ho2.mono (by first | exact Nat.le_refl _ | assumption | (have := hb3.size; omega))).below hb3) A3 lb c3 (enc gn) rfl HLB.out (by omega) ho3.reads (by omega) (Below.size (by assumption)) ?_; intro A4 c4 w4 ho4 hb4 hg4)
    | (refine step_append_bytes _ rfl _ _ rfl w0.heap.size A2 la c2 (enc gm) rfl HLA.out (ho2.mono (by first | exact Nat.le_refl _ | (have := hb3.size; omega))) A3 lb c3 (enc gn) rfl HLB.out (by omega) (ho3.reads.below hb2) (by omega) (Below.size (by assumption)) ?_; intro A4 c4 w4 ho4 hb4 hg4))
  all_goals
    have hS : Below w0.heap.size w0 w4 := by assumption
    have HO4 := Lib.hid ho4
    have hbw4 := below_then hb0 hS
    obtain ⟨c0, c1', c2', c3'⟩ := (GA.out.below hS).cells
    clear ho2 ho3 ho4 hb2 hb3 hb4 hg4
    by_cases h0 : gn = 0
    · have v0 : (gn : Int) ≤ 0 := by omega
      have HX2 : Hid (la + lb = x ∧ enc gm ++ enc gn = encG ⟨gn, gm, lo, hi⟩) := by
        have e : enc gm ++ enc gn = encG ⟨gn, gm, lo, hi⟩ := by simp [encG, h0]
        refine ⟨?_, e⟩
        rw [← HX.out, ← e, List.length_append, HLA.out, HLB.out]
      clear h0
      go_wp2
      go_ret
      have h := HO4.out.mono hb0.size
      rw [HX2.out.1, HX2.out.2] at h
      rw [HX2.out.1]
      exact ⟨A4, c4, rfl, h, hbw4⟩
    · have v0 : (0 : Int) < (gn : Int) := by omega
      have HX2 : Hid (la + lb + 8 + 8 = x ∧ enc gm ++ enc gn ++ leN 8 lo ++ leN 8 hi = encG ⟨gn, gm, lo, hi⟩) := by
        have e : enc gm ++ enc gn ++ leN 8 lo ++ leN 8 hi = encG ⟨gn, gm, lo, hi⟩ := by simp [encG, h0]
        refine ⟨?_, e⟩
        rw [← HX.out, ← e, List.length_append, List.length_append, List.length_append, leN_length, leN_length, HLA.out, HLB.out]
      have H4lt : ∀ k, (Value.slice A4 (la + lb) c4).ownBlock = some k → k < w4.heap.size := fun k hk => (World.ownsRow.lt (ownB_of HO4.out (by rw [List.length_append, HLA.out, HLB.out])) k hk).2
      have H4L := Lib.hid H4lt
      obtain ⟨P, hP⟩ : ∃ P, enc gm ++ enc gn = P := ⟨_, rfl⟩
      obtain ⟨p, hp⟩ : ∃ p, la + lb = p := ⟨_, rfl⟩
      have HPL : Hid (P.length = p) := by show _ = _; rw [← hP, ← hp, List.length_append, HLA.out, HLB.out]
      rw [hP, hp] at HO4 HX2
      rw [hp] at H4L ⊢
      have hp20 : p ≤ 20 := by omega
      clear h0 H4lt hP hp c0 c1' c2' c3' la1 lb1 lb0
      have hS2 : Below w0.heap.size w0 w4.drew := hS.drew
      have hz4 : w4.drew.heap.size = w4.heap.size := rfl
      go_wp2_with fail
      go_region_held3 (fun W' => Below w0.heap.size w0 W') (first | exact (Below.refl _ _).drew | exact below_then (by assumption) (by assumption) | exact Below.trans (by assumption) (by assumption) | assumption) (first
        | (go_at_call 40; (with_reducible refine (eight_any lo _ HW3.out).mono ?_); rintro e w5 ⟨A5, c5, rfl, ho5, hb5⟩)
        | (go_at_call 40; (with_reducible refine (eight_any hi _ HW4.out).mono ?_); rintro e w6 ⟨A6, c6, rfl, ho6, hb6⟩)
        | (refine step_append_bytes _ rfl _ _ rfl w0.heap.size A4 p c4 P rfl HPL.out (HO4.out.drew.below hb5) A5 8 c5 (leN 8 lo) rfl (leN_length _ _) (by omega) ho5.reads (by omega) (Below.size (by assumption)) ?_; intro A7 c7 w7 ho7 hb7 hg7)
        | (refine step_append_bytes _ rfl _ _ rfl w0.heap.size A4 p c4 P rfl HPL.out ((HO4.out.drew.below hb5).below hb6) A5 8 c5 (leN 8 lo) rfl (leN_length _ _) (by omega) (ho5.reads.below hb6) (by omega) (Below.size (by assumption)) ?_; intro A7 c7 w7 ho7 hb7 hg7; have ho66 := ownB_far ho6 hg7 H4L.out (by have := hb5.size; omega))
        | (refine step_append_bytes _ rfl _ _ rfl w0.heap.size A4 p c4 P rfl HPL.out ((HO4.out.drew.below hb6).below hb5) A5 8 c5 (leN 8 lo) rfl (leN_length _ _) (by omega) ho5.reads (by omega) (Below.size (by assumption)) ?_; intro A7 c7 w7 ho7 hb7 hg7; have ho66 := ownB_far (ho6.below hb5) hg7 H4L.out (by omega))
        | (refine step_append_bytes _ rfl _ _ rfl w0.heap.size A7 (p + 8) c7 (P ++ leN 8 lo) rfl (by rw [List.length_append, HPL.out, leN_length]) (ho7.below hb6) A6 8 c6 (leN 8 hi) rfl (leN_length _ _) (by omega) ho6.reads (by omega) (Below.size (by assumption)) ?_; intro A8 c8 w8 ho8 hb8 hg8)
        | (refine step_append_bytes _ rfl _ _ rfl w0.heap.size A7 (p + 8) c7 (P ++ leN 8 lo) rfl (by rw [List.length_append, HPL.out, leN_length]) ho7 A6 8 c6 (leN 8 hi) rfl (leN_length _ _) (by omega) ho66.reads (by omega) (Below.size (by assumption)) ?_; intro A8 c8 w8 ho8 hb8 hg8))
      all_goals
        have hS8 : Below w0.heap.size w0 w8 := by assumption
        have HO8 := Lib.hid ho8
        have hbw8 := below_then hb0 hS8
        clear ho5 ho6 ho7 ho8 hb8 hg8
        go_wp2
        go_ret
        have h := HO8.out.mono hb0.size
        rw [HX2.out.1, HX2.out.2] at h
        rw [HX2.out.1]
        exact ⟨A8, c8, rfl, h, hbw8⟩
end Go.Proofs.Yteohmcjclmaanaa
