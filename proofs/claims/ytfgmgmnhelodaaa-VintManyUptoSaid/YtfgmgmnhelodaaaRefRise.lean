/- Lists that rise: what the reference computes. -/
import Derived.Test.YtfgmgmnhelodaaaGetRise
import Derived.Deep.RegionLaw
namespace Go.Proofs.Ytfgmgmnhelodaaa
set_option linter.unusedVariables false
set_option linter.unusedSimpArgs false
open Go.RowKit
theorem step_append_any {P : Program} {ops : Array Oper} {o : Oper} {a : Act} {w : World} {K : Act → World → Prop} {Q : Exit → Act → World → Prop} {E : Prop} (hgd : o.guard = none) (s x : Operand) (t : TypeId)
    (ho : o.op = .call { callee := .builtin .append, args := #[s, x], argTypes := #[t, t] })
    (base : Nat) (e : TypeId) (z : Value) (bytes : Nat) (ht : P.underlying t = some (.slice e)) (hinfo : (P.info? e).map (fun i => (i.zero, i.size, i.bytes)) = some (some z, 1, bytes)) (hzs : z.cells.size = 1) (hb0 : 0 < bytes)
    (v : Value) (n : Nat) (xs : List Value) (hs : a.eval s = v) (hown : w.ownsRow base e 1 v n xs)
    (A : Option Addr) (m c : Nat) (news : List Value) (hx : a.eval x = .slice A m c) (hm : news.length = m) (hr : Reads w A news) (h1 : ∀ u ∈ news, u.oneCell' = true)
    (hbytes : (n + m) * bytes ≤ 140737488355328) (hbase : base ≤ w.heap.size)
    (h : ∀ v' w', w'.ownsRow base e 1 v' (n + m) (xs ++ news) → w.grownBy w' v.ownBlock → (v'.ownBlock = v.ownBlock ∨ v'.ownBlock = some w.heap.size) → K (a.put o.dst v') w') :
    if Region.wanted o (yielded ops a.tmps) = true then Oper.wp P o a w K Q else E := by
  have hw : Region.wanted o (yielded ops a.tmps) = true := by simp [Region.wanted, hgd]
  rw [if_pos hw]
  exact wp_append_any w s x t ho base e z bytes ht hinfo hzs hb0 v n xs hs hown A m c news hx hm hr h1 hbytes hbase h
theorem sub_sub_u64 (x t : Nat) (hx : x < 18446744073709551616) (ht : t < 18446744073709551616) : IntKind.u64.wrap (IntKind.u64.wrap ((x : Int) - (t : Int)) - 1) = (((x + 18446744073709551616 - (t + 1) % 18446744073709551616) % 18446744073709551616 : Nat) : Int) := by
  rw [IntKind.wrap_u64, IntKind.wrap_u64]
  omega
theorem sub_sub_u64' (x t : Nat) (hx : x < 18446744073709551616) (ht : t < 18446744073709551616) : IntKind.u64.wrap ((x : Int) - (t : Int) - 1) = (((x + 18446744073709551616 - (t + 1) % 18446744073709551616) % 18446744073709551616 : Nat) : Int) := by
  rw [IntKind.wrap_u64]
  omega
theorem own_app {w : World} {base : Nat} {v : Value} {a b : List UInt8} {n m : Nat} (hn : a.length = n) (hm : b.length = m) (h : w.ownsRow base 5 1 v (n + m) (u8s a ++ u8s b)) : OwnB w base v (a ++ b) := by
  subst hn hm
  unfold OwnB
  rw [u8s_append, List.length_append]
  exact h
def RiseK (l : List Nat) (k m : Nat) : Prop := (k = 0 ∧ m = 0) ∨ ∃ j, k = j + 1 ∧ m = (l.getD j 0 + 1) % 18446744073709551616
theorem riseK_zero (l : List Nat) : RiseK l 0 0 := .inl ⟨rfl, rfl⟩
/-- the next byte group -/
theorem riseK_step {l : List Nat} {k m : Nat} {pre T : List UInt8} (hlt : ∀ n ∈ l, n < 18446744073709551616) (hk : k < l.length) (h : T = pre ++ encAll (deltas m (l.drop k))) :
    ∃ m' d : Nat, d = (l.getD k 0 + 18446744073709551616 - m) % 18446744073709551616 ∧ d < 18446744073709551616 ∧ RiseK l (k + 1) m' ∧ T = (pre ++ enc d) ++ encAll (deltas m' (l.drop (k + 1))) := by
  refine ⟨(l.getD k 0 + 1) % 18446744073709551616, _, rfl, Nat.mod_lt _ (by decide), .inr ⟨k, rfl, rfl⟩, ?_⟩
  rw [h, List.drop_eq_getElem_cons hk, deltas, encAll]
  simp [List.getElem?_eq_getElem hk]
theorem getD_lt {l : List Nat} {k : Nat} (hlt : ∀ n ∈ l, n < 18446744073709551616) (hk : k < l.length) : l.getD k 0 < 18446744073709551616 := by
  refine hlt _ ?_
  rw [show l.getD k 0 = l[k] by simp [List.getElem?_eq_getElem hk]]
  exact List.getElem_mem hk
set_option maxRecDepth 100000 in
set_option maxHeartbeats 1600000 in
theorem refRise_n (A2 : Option Addr) (l : List Nat) (c2 x : Nat) (w : World) (hl : 20 + 10 * l.length ≤ 140737488355328) (hr2 : ReadsN w A2 l) (hlt : ∀ n ∈ l, n < 18446744073709551616) (hx : (encRise l).length = x) :
    Calls Try.prog 28 #[.slice A2 l.length c2] w fun e w' => ∃ A' c', e = .returned (.slice A' x c') ∧ OwnB w' w.heap.size (.slice A' x c') (encRise l) ∧ Below w.heap.size w w' := by
  have HX := Lib.hid hx
  have HR2 := Lib.hid hr2
  have HL := Lib.hid hlt
  clear hx hr2 hlt
  have hs : (l.length : Int) ≤ 140737488355328 := by omega
  have HLE := Lib.hid (encRise_le l (by omega))
  go_enter Try.func28, Try.ntmps28
  go_wp2_with fail
  refine (refPut_any l.length _ (by omega)).mono ?_
  rintro e w1 ⟨A1, c1, rfl, hown1, hb1⟩
  go_wp2_with fail
  go_loopw [3, 4] (fun b i wr => ∃ (k m : Nat) (pre : List UInt8), i = .int .i64 (k : Int) ∧ k ≤ l.length ∧ Hid (RiseK l k m) ∧ Hid (encRise l = pre ++ encAll (deltas m (l.drop k))) ∧ Hid (OwnB wr w.heap.size b pre) ∧ Hid (Below w.heap.size w wr)) (fun _ i _ => l.length - (intOf i).toNat)
  case atStart => exact ⟨0, 0, enc l.length, rfl, Nat.zero_le _, riseK_zero l, rfl, hown1, hb1⟩
  case round =>
    obtain ⟨k, m, pre, rfl, hk, HM, HE, HO, HW⟩ := hrel
    have hpre : pre.length ≤ 10 + 10 * l.length := by
      have h1 := congrArg List.length HE.out
      have h2 := HLE.out
      rw [List.length_append] at h1
      omega
    by_cases hkl : k < l.length
    · obtain ⟨ad, hA, hcell⟩ := (HR2.out.below HW.out).at hkl
      have HX1 := Lib.hid (getD_lt HL.out hkl)
      obtain ⟨m', d, hd, hdl, hrk, hstep⟩ := riseK_step HL.out hkl HE.out
      have HRK := Lib.hid hrk
      have HST := Lib.hid hstep
      have i1 : (k : Int) < (l.length : Int) := by omega
      obtain ⟨y, hy⟩ : ∃ y, (enc d).length = y := ⟨_, rfl⟩
      have hy10 : y ≤ 10 := by rw [← hy]; exact enc_le10 hdl
      have HY := Lib.hid hy
      clear hy hrk hstep
      rcases HM.out with ⟨rfl, rfl⟩ | ⟨j, hkj, hmj⟩
      · obtain ⟨x0, hx0⟩ : ∃ x0, l.getD 0 0 = x0 := ⟨_, rfl⟩
        rw [hx0] at hcell HX1 hd
        clear hx0
        have hd2 : d = x0 := by have := HX1.out; omega
        clear hd
        subst hd2
        have HDL := Lib.hid hdl
        clear hdl
        subst hA
        have hcell0 : wr.cell? ad = some (.int .u64 (d : Int)) := by simpa [Addr.add] using hcell
        clear hcell
        go_wp2_with fail
        refine (refPut_n d y _ HDL.out HY.out).mono ?_
        rintro e w2 ⟨A3, c3, rfl, hown2, hb2⟩
        have HO2 := Lib.hid hown2
        have HW2 := Lib.hid (below_then HW.out hb2)
        have hbase : w.heap.size ≤ w2.heap.size := HW2.out.size
        have HO1 := Lib.hid (HO.out.below hb2)
        clear hown2
        go_wp2_with (at_builtin; go_loud (refine wpList_append_any _ rfl _ _ 23 rfl w.heap.size 5 _ 1 Try.underlying23 binfo rfl (by omega) u3 pre.length (u8s pre) rfl HO1.out A3 y c3 (u8s (enc d)) rfl (by rw [u8s_length, HY.out]) HO2.out.reads (u8s_one _) (by omega) hbase ?_); intro v1 w3 hown hg hat)
        go_roundw
        case rel => exact ⟨1, m', pre ++ enc d, by go_num, by omega, HRK, HST, own_app rfl HY.out hown, HW2.out.grown hg hbase (fun k hk => own_base HO1.out k hk)⟩
        case measure => simp [intOf]; omega
      · obtain ⟨_, hA2, hcell2⟩ := (HR2.out.below HW.out).at (k := j) (by omega)
        have HT1 := Lib.hid (getD_lt HL.out (show j < l.length by omega))
        obtain ⟨t, ht⟩ : ∃ t, l.getD j 0 = t := ⟨_, rfl⟩
        obtain ⟨x0, hx0⟩ : ∃ x0, l.getD k 0 = x0 := ⟨_, rfl⟩
        rw [hmj, ht] at hd
        rw [ht] at hcell2 HT1
        rw [hx0] at hcell HX1 hd
        have hw : IntKind.u64.wrap (IntKind.u64.wrap ((x0 : Int) - (t : Int)) - 1) = (d : Int) := by rw [sub_sub_u64 x0 t HX1.out HT1.out, hd]
        have hw' : IntKind.u64.wrap ((x0 : Int) - (t : Int) - 1) = (d : Int) := by rw [sub_sub_u64' x0 t HX1.out HT1.out, hd]
        clear hx0 ht hd
        have HDL := Lib.hid hdl
        clear hdl
        subst hA
        injection hA2 with hA2
        subst hA2
        have hj1 : (j : Int) < (l.length : Int) := by omega
        have hw1 : IntKind.i64.wrap ((k : Int) - 1) = (j : Int) := by rw [IntWalk.i64_in] <;> omega
        have hw2 : ((k : Int) == 0) = false := by rw [beq_eq_false_iff_ne]; omega
        clear hkj hmj
        go_wp2_with fail
        go_region_law (first
          | (go_simp; go_at_call 13; (refine (refPut_n d y _ HDL.out HY.out).mono ?_); rintro e w2 ⟨A3, c3, rfl, hown2, hb2⟩; have HO2 := Lib.hid hown2; have HW2 := Lib.hid (below_then (below_drewN HW.out 1) hb2); have hbase : w.heap.size ≤ w2.heap.size := HW2.out.size; have HO1 := Lib.hid ((show OwnB (wr.drewN 1) w.heap.size u3 pre from HO.out).below hb2))
          | (refine step_append_any rfl _ _ 23 rfl w.heap.size 5 _ 1 Try.underlying23 binfo rfl (by omega) u3 pre.length (u8s pre) rfl HO1.out A3 y c3 (u8s (enc d)) rfl (by rw [u8s_length, HY.out]) HO2.out.reads (u8s_one _) (by omega) hbase ?_; intro v1 w3 hown hg hat))
        all_goals
          go_wp2
          go_roundw
          case rel => exact ⟨k + 1, m', pre ++ enc d, by go_num, by omega, HRK, HST, own_app rfl HY.out hown, HW2.out.grown hg hbase (fun k hk => own_base HO1.out k hk)⟩
          case measure => simp [intOf]; omega
    · have HF : Hid (encRise l = pre) := by
        show encRise l = pre
        rw [HE.out, List.drop_eq_nil_of_le (by omega), deltas, encAll, List.append_nil]
      go_wp2
      go_ret
      have h2 : OwnB wr w.heap.size u3 (encRise l) := by rw [HF.out]; exact HO.out
      obtain ⟨A', c', hv⟩ := h2.slice
      rw [HX.out] at hv
      subst hv
      exact ⟨A', c', by simp, h2, HW.out⟩
end Go.Proofs.Ytfgmgmnhelodaaa
