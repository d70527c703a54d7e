/- Lists that rise: what the reference's reader computes. -/
import Derived.Test.YtfgmgmnhelodaaaRefCount
namespace Go.Proofs.Ytfgmgmnhelodaaa
set_option linter.unusedVariables false
set_option linter.unusedSimpArgs false
open Go.RowKit
theorem own_grown {w w1 : World} {base g n : Nat} {e : TypeId} {v : Value} {xs : List Value} (h : w.ownsRow base e 1 v n xs) (hg : w.grownBy w1 (some g)) (hlt : g < base) : w1.ownsRow base e 1 v n xs :=
  h.kept hg (by
    rcases hv : v.ownBlock with _ | k
    · exact .inl rfl
    · refine .inr ?_
      intro he
      injection he with he
      have := own_base h k hv
      omega)
theorem OwnN.grown {w w1 : World} {base g : Nat} {v : Value} {l : List Nat} (h : OwnN w base v l) (hg : w.grownBy w1 (some g)) (hlt : g < base) : OwnN w1 base v l := own_grown h hg hlt
theorem grown_below {w W w1 : World} {g : Nat} (h : w.grownBy W (some g)) (hb : Below w.heap.size W w1) : w.grownBy w1 (some g) :=
  ⟨hb.os.trans h.os, hb.tape.trans h.tape, hb.output.trans h.output, Nat.le_trans h.size hb.size, fun k hk hne => (hb.block k hk).trans (h.block k hk hne)⟩
theorem RdAt.moved {w W w1 : World} {g : Nat} {A : Option Addr} {bs : List UInt8} {c : Nat} {i0 i : Int} {b0 bad : Bool} (h0 : RdAt w g A bs c i0 b0) (h : RdAt W g A bs c i bad) (hg : w.grownBy W (some g)) (hb : Below w.heap.size W w1) : RdAt w1 g A bs c i bad :=
  ⟨by have h1 := h.blk; unfold Blk at h1 ⊢; rw [hb.block g h0.blk.lt]; exact h1, h0.keep (grown_below hg hb)⟩
theorem only_then {w W w1 : World} {g : Nat} (h : w.grownBy W (some g)) (k : W.grownBy w1 (some g)) : w.grownBy w1 (some g) := World.grownBy.trans h k
/-- where the reader stands in the list -/
def RiseOn (w : World) (g : Nat) (A : Option Addr) (bs : List UInt8) (c m : Nat) (T : Option (List Nat × Nat)) (wr : World) (v : Value) (k : Nat) : Prop :=
  (∃ (a1 : Nat) (l : List Nat), a1 ≤ bs.length ∧ l.length = k ∧ (∀ x ∈ l, x < 18446744073709551616) ∧ T = (riseAt bs (m - k) l.getLast? a1).map (fun p => (l ++ p.1, p.2)) ∧ OwnN wr w.heap.size v l ∧ RdAt wr g A bs c (a1 : Int) false) ∨
    (∃ i' : Int, T = none ∧ RdAt wr g A bs c i' true)
set_option maxRecDepth 100000 in
set_option maxHeartbeats 3200000 in
theorem rrise_any (g : Nat) (A : Option Addr) (bs : List UInt8) (c : Nat) (i0 most : Int) (T : Option (List Nat × Nat)) (w : World) (hl : bs.length ≤ 140737488355328) (hm : bs.length ≤ 17592186044415 ∨ most ≤ 17592186044414) (h0 : -9223372036854775808 ≤ i0) (h1 : i0 ≤ 9223372036854775807) (h2 : -9223372036854775808 ≤ most) (h3 : most ≤ 9223372036854775807) (hr : RdAt w g A bs c i0 false) (hT : getRise bs i0 most = T) :
    Calls Try.prog 30 #[.pointer (some ⟨g, 0, none⟩), .int .i64 most] w fun e w' =>
      ((T = none ∧ e = .returned (.slice none 0 0)) ∨ ∃ l e' A' c', T = some (l, e') ∧ e = .returned (.slice A' l.length c') ∧ OwnN w' w.heap.size (.slice A' l.length c') l) ∧ ReadPost w g A bs c T w' := by
  have HR := Lib.hid hr
  have hglt : g < w.heap.size := hr.blk.lt
  clear hr
  rw [getRise_count] at hT
  rcases hC : countAt bs i0 most with _ | ⟨m, a⟩
  · rw [hC] at hT
    have HC := Lib.hid hC
    subst hT
    clear hC
    go_enter Try.func30, Try.ntmps30
    go_wp2_with fail
    refine (rcount_none g A bs c i0 most _ hl h0 h1 h2 h3 HR.out HC.out).mono ?_
    rintro e w1 ⟨rfl, i', hrd, _, hg1⟩
    have HRD := Lib.hid hrd
    have HG1 := Lib.hid hg1
    have c2 : w1.cell? ⟨g, 2, none⟩ = some (.bool true) := hrd.c2
    clear hrd hg1
    go_wp2
    go_loopw [6, 7] (fun li i wr => i = .int .i64 0 ∧ wr = w1) (fun _ _ _ => 0)
    case atStart => exact ⟨rfl, rfl⟩
    case round =>
      obtain ⟨rfl, rfl⟩ := hrel
      go_wp2
      go_ret
      exact ⟨.inl ⟨trivial, rfl⟩, i', HRD.out, (fun p hp => by cases hp), HG1.out⟩
  · rw [hC] at hT
    have HT := Lib.hid hT
    have HC := Lib.hid hC
    obtain ⟨hG, hc1, hc2, hc3⟩ := countAt_some hC
    obtain ⟨_, _, b1, b2, _⟩ := getAt_bounds hG
    have hmi : (m : Int) ≤ 17592186044414 := by omega
    clear hT hC hG b2
    go_enter Try.func30, Try.ntmps30
    go_wp2_with fail
    refine (rcount_some g A bs c i0 most m a _ hl h0 h1 h2 h3 HR.out HC.out).mono ?_
    rintro e w1 ⟨rfl, i', hrd, hi', hg1⟩
    have hi2 : i' = (a : Int) := hi' (m, a) rfl
    subst hi2
    have HRD := Lib.hid hrd
    have HG1 := Lib.hid hg1
    clear hrd hg1 hi'
    go_wp2
    go_loopw [6, 7] (fun li i wr => ∃ k : Nat, i = .int .i64 (k : Int) ∧ k ≤ m ∧ Hid (RiseOn w g A bs c m T wr li k) ∧ Hid (w.grownBy wr (some g))) (fun _ i _ => m - (intOf i).toNat)
    case atStart =>
      refine ⟨0, rfl, Nat.zero_le _, .inl ⟨a, [], by omega, rfl, by simp, ?_, OwnN.nil _ _, HRD.out⟩, HG1.out⟩
      rw [← HT.out]
      simp
    case round =>
      obtain ⟨k, rfl, hk, HO, HW⟩ := hrel
      rcases HO.out with ⟨a1, l, ha1, hlk, hL, hE, hown, hrd⟩ | ⟨i2, hTn, hrd⟩
      · have HRd := Lib.hid hrd
        have HL := Lib.hid hL
        have HE := Lib.hid hE
        have HOw := Lib.hid hown
        have c2 : wr.cell? ⟨g, 2, none⟩ = some (.bool false) := hrd.c2
        have f2 := hrd.blk.frozen 2
        have hbase : w.heap.size ≤ wr.heap.size := HW.out.size
        obtain ⟨Al, cl, hsl⟩ := hown.slice
        clear hL hE hown hrd HO
        have HLK := Lib.hid hlk
        by_cases hkm : k < m
        · obtain ⟨r, hr⟩ : ∃ r, m - k = r + 1 := ⟨m - k - 1, by omega⟩
          have hr2 : m - (k + 1) = r := by omega
          rw [hr] at HE
          clear hr
          have i1 : (k : Int) < (m : Int) := by omega
          have ha1i : (a1 : Int) ≤ (bs.length : Int) := by omega
          by_cases hk0 : k = 0
          · clear hsl
            obtain rfl : l = [] := List.eq_nil_of_length_eq_zero (by omega)
            have hk0i : ((k : Int) == 0) = true := by rw [beq_iff_eq]; omega
            rcases hG2 : getAt bs (a1 : Int) with _ | ⟨d, e2⟩
            · have HF := Lib.hid (rise_none HE.out hG2)
              have HG2 := Lib.hid hG2
              clear hG2 hlk
              go_wp2_with fail
              refine (num_none g A bs c (a1 : Int) _ hl (by omega) (by omega) HRd.out HG2.out).mono ?_
              rintro e w2 ⟨rfl, i3, hrd3, _, hg3⟩
              have HRd2 := Lib.hid hrd3
              have HW2 := Lib.hid (only_then HW.out hg3)
              have HO2 := Lib.hid (HOw.out.grown hg3 hglt)
              have hbase2 : w.heap.size ≤ w2.heap.size := HW2.out.size
              have c2' : w2.cell? ⟨g, 2, none⟩ = some (.bool true) := hrd3.c2
              have f2' := hrd3.blk.frozen 2
              clear hrd3 hg3
              go_wp2_with (at_builtin; go_loud (refine wpList_append_full w.heap.size rfl _ _ 48 22 _ 8 rfl Try.underlying48 ninfo rfl (by omega) u6 (u64s []) _ rfl rfl rfl HO2.out.full hbase2 (by simp [u64s]) ?_); intro v1 w3 hown hbl hg)
              go_roundw
              case rel => exact ⟨k + 1, by go_num, by omega, .inr ⟨i3, HF.out, HR.out.moved HRd2.out HW2.out hbl⟩, grown_below HW2.out hbl⟩
              case measure => simp [intOf]; omega
            · have HG2 := Lib.hid hG2
              obtain ⟨_, _, d1, d2, _⟩ := getAt_bounds hG2
              have HE2 := Lib.hid (rise_on HE.out HG2.out d (.inl ⟨rfl, rfl⟩))
              have d2n : d < 18446744073709551616 := by omega
              have d1n : e2 ≤ bs.length := by omega
              clear hG2 d1 d2 hlk
              go_wp2_with fail
              refine (num_some g A bs c (a1 : Int) d e2 _ hl (by omega) (by omega) HRd.out HG2.out).mono ?_
              rintro e w2 ⟨rfl, i3, hrd3, hi3, hg3⟩
              have hi4 : i3 = (e2 : Int) := hi3 (d, e2) rfl
              subst hi4
              have HRd2 := Lib.hid hrd3
              have HW2 := Lib.hid (only_then HW.out hg3)
              have HO2 := Lib.hid (HOw.out.grown hg3 hglt)
              have hbase2 : w.heap.size ≤ w2.heap.size := HW2.out.size
              have c2' : w2.cell? ⟨g, 2, none⟩ = some (.bool false) := hrd3.c2
              have f2' := hrd3.blk.frozen 2
              clear hrd3 hg3 hi3
              go_wp2_with (at_builtin; go_loud (refine wpList_append_full w.heap.size rfl _ _ 48 22 _ 8 rfl Try.underlying48 ninfo rfl (by omega) u6 (u64s []) _ rfl rfl rfl HO2.out.full hbase2 (by simp [u64s]) ?_); intro v1 w3 hown hbl hg)
              go_roundw
              case rel =>
                refine ⟨k + 1, by go_num, by omega, .inl ⟨e2, [] ++ [d], d1n, by simp; omega, by simpa using d2n, ?_, ?_, HR.out.moved HRd2.out HW2.out hbl⟩, grown_below HW2.out hbl⟩
                · rw [hr2]; exact HE2.out
                · rw [u64s_snoc, u64s_length] at hown
                  exact hown
              case measure => simp [intOf]; omega
          · obtain ⟨j, hkj⟩ : ∃ j, k = j + 1 := ⟨k - 1, by omega⟩
            have hk0i : ((k : Int) == 0) = false := by rw [beq_eq_false_iff_ne]; omega
            have hw1 : IntKind.i64.wrap ((k : Int) - 1) = (j : Int) := by rw [IntWalk.i64_in] <;> omega
            have hjl : (j : Int) < (l.length : Int) := by omega
            have hll : l.length ≤ 17592186044414 := by omega
            have hlast : l.getLast? = some (l.getD j 0) := by
              rw [List.getLast?_eq_getElem?, hlk, hkj]
              simp [List.getElem?_eq_getElem (show j < l.length by omega)]
            have HT1 := Lib.hid (getD_lt HL.out (show j < l.length by omega))
            obtain ⟨t, ht⟩ : ∃ t, l.getD j 0 = t := ⟨_, rfl⟩
            rw [hlast, ht] at HE
            rw [ht] at HT1
            have hsn : ∀ x : Nat, x < 18446744073709551616 → ∀ y ∈ l ++ [x], y < 18446744073709551616 := by
              intro x hx y hy
              rw [List.mem_append, List.mem_singleton] at hy
              rcases hy with hy | rfl
              · exact HL.out y hy
              · exact hx
            have HSN := Lib.hid hsn
            have HJ := Lib.hid hkj
            have ht64 := HT1.out
            have s1 : IntKind.u64.wrap (18446744073709551615 - (t : Int)) = 18446744073709551615 - (t : Int) := by rw [IntKind.wrap_u64]; omega
            subst hsl
            clear hlast hsn hkj hk0 hlk
            rcases hG2 : getAt bs (a1 : Int) with _ | ⟨d, e2⟩
            · have HF := Lib.hid (rise_none HE.out hG2)
              have HG2 := Lib.hid hG2
              clear hG2
              by_cases htm : t = 18446744073709551615
              · have s2 : 18446744073709551615 - (t : Int) ≤ 0 := by omega
                clear htm ht64
                go_wp2_with fail
                refine (num_none g A bs c (a1 : Int) _ hl (by omega) (by omega) HRd.out HG2.out).mono ?_
                rintro e w2 ⟨rfl, i3, hrd3, _, hg3⟩
                have HRd2 := Lib.hid hrd3
                have HW2 := Lib.hid (only_then HW.out hg3)
                have HO2 := Lib.hid (HOw.out.grown hg3 hglt)
                have hbase2 : w.heap.size ≤ w2.heap.size := HW2.out.size
                have c2' : w2.cell? ⟨g, 2, none⟩ = some (.bool true) := hrd3.c2
                have f2' := hrd3.blk.frozen 2
                obtain ⟨adl, hAl, hcell⟩ := HO2.out.reads.at (k := j) (by have := HLK.out; omega)
                rw [ht] at hcell
                subst hAl
                clear hrd3 hg3
                go_wp2
                go_ret
                exact ⟨.inl ⟨HF.out, rfl⟩, i3, by rw [HF.out]; exact HRd2.out.setBad true, (fun p hp => by rw [HF.out] at hp; cases hp), only_setCell (p := ⟨g, 2, none⟩) HW2.out rfl _⟩
              · have s2 : 0 < 18446744073709551615 - (t : Int) := by omega
                clear htm ht64
                go_wp2_with fail
                refine (num_none g A bs c (a1 : Int) _ hl (by omega) (by omega) HRd.out HG2.out).mono ?_
                rintro e w2 ⟨rfl, i3, hrd3, _, hg3⟩
                have HRd2 := Lib.hid hrd3
                have HW2 := Lib.hid (only_then HW.out hg3)
                have HO2 := Lib.hid (HOw.out.grown hg3 hglt)
                have hbase2 : w.heap.size ≤ w2.heap.size := HW2.out.size
                have c2' : w2.cell? ⟨g, 2, none⟩ = some (.bool true) := hrd3.c2
                have f2' := hrd3.blk.frozen 2
                obtain ⟨adl, hAl, hcell⟩ := HO2.out.reads.at (k := j) (by have := HLK.out; omega)
                rw [ht] at hcell
                subst hAl
                clear hrd3 hg3
                go_wp2_with (at_builtin; go_loud (refine wpList_append_full w.heap.size rfl _ _ 48 22 _ 8 rfl Try.underlying48 ninfo rfl (by omega) (.slice (some adl) l.length cl) (u64s l) _ rfl rfl rfl HO2.out.full hbase2 (by rw [u64s_length]; omega) ?_); intro v1 w3 hown hbl hg)
                go_roundw
                case rel => exact ⟨k + 1, by go_num, by omega, .inr ⟨i3, HF.out, HR.out.moved HRd2.out HW2.out hbl⟩, grown_below HW2.out hbl⟩
                case measure => simp [intOf]; omega
            · have HG2 := Lib.hid hG2
              obtain ⟨_, _, d1, d2, _⟩ := getAt_bounds hG2
              have d2n : d < 18446744073709551616 := by omega
              have d1n : e2 ≤ bs.length := by omega
              clear hG2 d1 d2
              by_cases htd : t + d + 1 < 18446744073709551616
              · have HE2 := Lib.hid (rise_on HE.out HG2.out (t + d + 1) (.inr ⟨t, rfl, rfl, htd⟩))
                have s2 : (d : Int) < 18446744073709551615 - (t : Int) := by omega
                have s3 : IntKind.u64.wrap (IntKind.u64.wrap ((t : Int) + (d : Int)) + 1) = ((t + d + 1 : Nat) : Int) := by rw [IntKind.wrap_u64, IntKind.wrap_u64]; omega
                have HTD := Lib.hid htd
                clear htd ht64
                go_wp2_with fail
                refine (num_some g A bs c (a1 : Int) d e2 _ hl (by omega) (by omega) HRd.out HG2.out).mono ?_
                rintro e w2 ⟨rfl, i3, hrd3, hi3, hg3⟩
                have hi4 : i3 = (e2 : Int) := hi3 (d, e2) rfl
                subst hi4
                have HRd2 := Lib.hid hrd3
                have HW2 := Lib.hid (only_then HW.out hg3)
                have HO2 := Lib.hid (HOw.out.grown hg3 hglt)
                have hbase2 : w.heap.size ≤ w2.heap.size := HW2.out.size
                have c2' : w2.cell? ⟨g, 2, none⟩ = some (.bool false) := hrd3.c2
                have f2' := hrd3.blk.frozen 2
                obtain ⟨adl, hAl, hcell⟩ := HO2.out.reads.at (k := j) (by have := HLK.out; omega)
                rw [ht] at hcell
                subst hAl
                clear hrd3 hg3 hi3
                go_wp2_with (at_builtin; go_loud (refine wpList_append_full w.heap.size rfl _ _ 48 22 _ 8 rfl Try.underlying48 ninfo rfl (by omega) (.slice (some adl) l.length cl) (u64s l) _ rfl rfl rfl HO2.out.full hbase2 (by rw [u64s_length]; omega) ?_); intro v1 w3 hown hbl hg)
                go_roundw
                case rel =>
                  refine ⟨k + 1, by go_num, by omega, .inl ⟨e2, l ++ [t + d + 1], d1n, by simp [HLK.out], HSN.out _ HTD.out, ?_, ?_, HR.out.moved HRd2.out HW2.out hbl⟩, grown_below HW2.out hbl⟩
                  · rw [hr2, HE2.out]; simp
                  · rw [vint (k := .u64) (show (t : Int) + (d : Int) + 1 = ((t + d + 1 : Nat) : Int) by omega), u64s_snoc, u64s_length] at hown
                    exact hown
                case measure => simp [intOf]; omega
              · have HF := Lib.hid (rise_off HE.out HG2.out htd)
                have s2 : 18446744073709551615 - (t : Int) ≤ (d : Int) := by omega
                clear htd ht64
                go_wp2_with fail
                refine (num_some g A bs c (a1 : Int) d e2 _ hl (by omega) (by omega) HRd.out HG2.out).mono ?_
                rintro e w2 ⟨rfl, i3, hrd3, hi3, hg3⟩
                have hi4 : i3 = (e2 : Int) := hi3 (d, e2) rfl
                subst hi4
                have HRd2 := Lib.hid hrd3
                have HW2 := Lib.hid (only_then HW.out hg3)
                have HO2 := Lib.hid (HOw.out.grown hg3 hglt)
                have hbase2 : w.heap.size ≤ w2.heap.size := HW2.out.size
                have c2' : w2.cell? ⟨g, 2, none⟩ = some (.bool false) := hrd3.c2
                have f2' := hrd3.blk.frozen 2
                obtain ⟨adl, hAl, hcell⟩ := HO2.out.reads.at (k := j) (by have := HLK.out; omega)
                rw [ht] at hcell
                subst hAl
                clear hrd3 hg3 hi3
                go_wp2
                go_ret
                exact ⟨.inl ⟨HF.out, rfl⟩, (e2 : Int), by rw [HF.out]; exact HRd2.out.setBad true, (fun p hp => by rw [HF.out] at hp; cases hp), only_setCell (p := ⟨g, 2, none⟩) HW2.out rfl _⟩
        · have HF := Lib.hid (rise_done (a := a1) (l := l) (T := T) (last := l.getLast?) (by rw [HE.out, show m - k = 0 by omega]))
          have hkm2 : ¬ (k : Int) < (m : Int) := by omega
          subst hsl
          clear hlk
          go_wp2
          go_ret
          exact ⟨.inr ⟨l, ⟨a1, HF.out⟩, Al, cl, rfl, HOw.out⟩, (a1 : Int), by rw [HF.out]; exact HRd.out, (fun p hp => by rw [HF.out] at hp; cases hp; rfl), HW.out⟩
      · have HRd := Lib.hid hrd
        have HN := Lib.hid hTn
        have c2 : wr.cell? ⟨g, 2, none⟩ = some (.bool true) := hrd.c2
        clear hrd hTn HO
        have hcase : (k : Int) < (m : Int) ∨ ¬ (k : Int) < (m : Int) := by omega
        rcases hcase with hkm | hkm
        all_goals
          go_wp2
          go_ret
          exact ⟨.inl ⟨HN.out, rfl⟩, i2, by rw [HN.out]; exact HRd.out, (fun p hp => by rw [HN.out] at hp; cases hp), HW.out⟩
end Go.Proofs.Ytfgmgmnhelodaaa
