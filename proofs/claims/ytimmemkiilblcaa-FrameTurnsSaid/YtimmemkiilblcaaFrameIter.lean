/- frame.All's closure: its contract for a range over it. -/
import Derived.Test.YtimmemkiilblcaaFrameFrames
import Derived.RangeFuncFrom
import Derived.RangeFuncBound
import Derived.RangeFuncCalls
import Derived.RangeFuncLeaves
import Derived.Shelf.Abstract
import Derived.Shelf.RegionOpen
import Derived.OwnWalkIn
import Derived.TacticsInMore
import Derived.LoopNIn
import Derived.LoopIn
namespace Go.Proofs.Ytimmemkiilblcaa
set_option linter.unusedVariables false
set_option linter.unusedSimpArgs false
open Go.RowKit Go.Shelf
attribute [local go_sem] Oper.semAt_some
/-- what a round is handed: a frame, its body's copy -/
abbrev Got (bs : List UInt8) := { x : (Option Addr × Nat) × Fr // frameAt bs x.2.1 = some x.2.2 }
def gencs (bs : List UInt8) (x : Got bs) : Array Value := #[.int .i64 (x.1.2.1 : Int), .slice x.1.1.1 x.1.2.2.1.length x.1.1.2]
def told {bs : List UInt8} (l : List (Got bs)) : List Fr := l.map fun x => x.1.2
theorem told_snoc {bs : List UInt8} (l : List (Got bs)) (x : Got bs) : told (l ++ [x]) = told l ++ [x.1.2] := by simp [told]
theorem told_length {bs : List UInt8} (l : List (Got bs)) : (told l).length = l.length := by simp [told]
/-- what a round keeps -/
def KpF (n₀ Bn : Nat) (W W' : World) : Prop := Below n₀ W W' ∧ W'.heap[Bn]? = W.heap[Bn]?
theorem KpF.refl {n₀ Bn : Nat} {W : World} : KpF n₀ Bn W W := ⟨Below.refl _ _, rfl⟩
theorem KpF.trans {n₀ Bn : Nat} {A B C : World} (h : KpF n₀ Bn A B) (k : KpF n₀ Bn B C) : KpF n₀ Bn A C := ⟨h.1.trans k.1, k.2.trans h.2⟩
theorem KpF.below {n₀ Bn : Nat} {A B C : World} (h : KpF n₀ Bn A B) (k : Below B.heap.size B C) (hn : n₀ ≤ B.heap.size) (hB : Bn < B.heap.size) : KpF n₀ Bn A C :=
  ⟨h.1.trans (k.mono hn), (k.block _ hB).trans h.2⟩
theorem below_only {w w1 : World} (hb : Below w.heap.size w w1) : w.grownBy w1 none := ⟨hb.os, hb.tape, hb.output, hb.size, fun k hk _ => hb.block k hk⟩
set_option maxRecDepth 100000 in
set_option maxHeartbeats 2000000 in
theorem all1_in (n : Nat) (hn : 1 ≤ n) (l Bn n₀ : Nat) (A : Option Addr) (bs : List UInt8) (c : Nat) (w0 : World) (hl : bs.length ≤ 140737488355328) (hc : bs.length ≤ c) (hr : ReadsB w0 A bs) (hn0 : w0.heap.size = n₀) (J Jx : List (Got bs) → World → Prop)
    (hY : ∀ pre x W, J pre W → pre.length < bs.length + 1 → YieldAt Fence.wide (n - 1) Try.prog l (gencs bs x) W fun e W' =>
      (e = .returned (.bool true) ∧ J (pre ++ [x]) W' ∧ KpF n₀ Bn W W') ∨ (e = .returned (.bool false) ∧ Jx (pre ++ [x]) W'))
    (W : World) (hJ : AbidesFrom W.heap.size J) (hb0 : Below n₀ w0 W) (hBn : W.cell? ⟨Bn, 0, none⟩ = some (.slice A bs.length c)) (hBs : Bn < W.heap.size) (h0 : J [] W) :
    CallsIn Fence.wide n Try.prog 34 #[.func (.yield l) #[] #[], .pointer (some ⟨Bn, 0, none⟩)] W fun e W' => (∃ v, e = .returned v) ∧
      ((∃ ys, told ys = frames bs ∧ J ys W') ∨ (∃ pre, True ∧ Jx pre W')) := by
  have HR := Lib.hid hr
  have HY := Lib.hid hY
  have HJ := Lib.hid hJ
  have HB0 := Lib.hid hb0
  have HJ0 := Lib.hid h0
  clear hr hY hJ hb0 h0
  refine callsIn_of_wp Try.func34 rfl trivial ?_ rfl
  simp only [Try.ntmps34, List.size_toArray, List.length_cons, List.length_nil, Nat.reduceAdd, Nat.reduceSub, Array.replicate_succ, Array.replicate_zero, List.push_toArray, List.append_toArray, List.nil_append, List.cons_append]
  refine wpIn_wide.2 (wp_scope_straight ((wpIn_wide (n := n)).1 ?_))
  gi_wp2
  refine wpIn_label ?_
  gi_wp2
  gi_loopw [3] (fun i wr => ∃ (k a : Nat) (pre : List (Got bs)), i = .int .i64 (a : Int) ∧ a ≤ bs.length ∧ Hid (bs.length < a + k ∧ pre.length ≤ a ∧ frames bs = told pre ++ framesN k bs a) ∧ Hid (J pre wr) ∧ Hid (KpF n₀ Bn W wr) ∧ Hid (Bn < wr.heap.size ∧ W.heap.size ≤ wr.heap.size))
    (fun i _ => bs.length - (intOf i).toNat)
  case atStart => exact ⟨bs.length + 1, 0, [], rfl, Nat.zero_le _, ⟨by omega, by simp, by simp [told, frames]⟩, HJ0.out, KpF.refl, hBs, Nat.le_refl _⟩
  case round =>
    obtain ⟨k, a, pre, rfl, ha, HK, HJ1, HKP, HS⟩ := hrel
    have hcell : wr.cell? ⟨Bn, 0, none⟩ = some (.slice A bs.length c) := (World.cell?_of_block HKP.out.2).trans hBn
    have hrd := Lib.hid (HR.out.below (hn0.symm ▸ HB0.out.trans HKP.out.1))
    rcases hf : frameAt bs a with _ | ⟨B, e'⟩
    · have HF := Lib.hid hf
      clear hf
      gi_wp2_with (refine ⟨trivial, ?_⟩; gi_at_call 14; refine (callsIn_wide.2 (fget_none A bs c a _ hl hc hrd.out ha HF.out)).mono ?_; rintro e w1 ⟨A', c', err, rfl, he, hb1⟩; have he2 : ((err : Int) != 0) = true := (by rw [bne_iff_ne]; omega))
      refine ⟨fun _ h => (by cases h), ?_⟩
      gi_wp2
      rw [Exit.noGoto_normal]
      go_end0
      refine ⟨⟨_, rfl⟩, .inl ⟨pre, ?_, HJ.out pre wr w1 none HJ1.out (below_only hb1) (fun r h => by cases h)⟩⟩
      rw [HK.out.2.2, framesN_none HF.out, List.append_nil]
    · have HF := Lib.hid hf
      obtain ⟨B0, hB0⟩ : ∃ m, B.length = m := ⟨_, rfl⟩
      have HB := Lib.hid hB0
      have hlt := (frameAt_in hf).1
      clear hf hB0
      gi_wp2_with (refine ⟨trivial, ?_⟩; gi_at_call 14; refine (callsIn_wide.2 (fget_some A bs c a _ hl hc hrd.out B e' B0 HF.out HB.out)).mono ?_; rintro e w1 ⟨A', c', rfl, hown, hb1⟩; have hJ2 := HJ.out pre wr w1 none HJ1.out (below_only hb1) (fun r h => by cases h); obtain ⟨fn, tmps, assign, body, hy, hR⟩ := HY.out pre ⟨((A', c'), (a, B, e')), HF.out⟩ w1 hJ2 (by have := HK.out; omega); (simp only [gencs, HB.out] at hy); have HJ2 := Lib.hid hJ2; have HR2 := Lib.hid hR; clear hJ2 hR)
      refine HR2.out.mono ?_
      have HB1 := Lib.hid hb1
      obtain ⟨k', hk', hk2, hfr⟩ := framesN_some HF.out HK.out.1
      have hin := frameAt_in HF.out
      have HK2 : Hid (bs.length < e' + k' ∧ pre.length + 1 ≤ e' ∧ frames bs = told pre ++ (a, B, e') :: framesN k' bs e') := ⟨hk2, by have := HK.out; omega, by rw [HK.out.2.2, hfr]⟩
      have hele : e' ≤ bs.length := hin.2.2.1
      have hmea : a < e' := by omega
      clear hb1 hk' hk2 hfr hin
      rintro e W3 (⟨rfl, hJ3, hk3⟩ | ⟨rfl, hJx3⟩)
      · have HJ3 := Lib.hid hJ3
        have HK3 := Lib.hid hk3
        clear hJ3 hk3
        gi_wp2
        go_roundw
        case rel =>
          refine ⟨k', e', _, rfl, hele, ⟨HK2.out.1, by have := HK2.out; simp; omega, by rw [HK2.out.2.2, told_snoc]; simp⟩, HJ3.out, ?_, ?_⟩
          · exact (HKP.out.below HB1.out (by have := HS.out; have := HB0.out.size; omega) HS.out.1).trans HK3.out
          · have h1 := HS.out
            have h2 := HB1.out.size
            have h3 := HK3.out.1.size
            show _ ∧ _
            omega
        case measure => simp [intOf]; omega
      · have HJ3 := Lib.hid hJx3
        clear hJx3
        gi_wp2
        rw [Exit.noGoto_normal]
        go_end0
        exact ⟨⟨_, rfl⟩, .inr ⟨_, trivial, HJ3.out⟩⟩
end Go.Proofs.Ytimmemkiilblcaa
