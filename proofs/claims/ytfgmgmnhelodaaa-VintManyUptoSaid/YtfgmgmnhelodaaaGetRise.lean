/- Lists that rise: what vint.GetRise computes. -/
import Derived.Test.YtfgmgmnhelodaaaVintTextsW
namespace Go.Proofs.Ytfgmgmnhelodaaa
set_option linter.unusedVariables false
set_option linter.unusedSimpArgs false
open Go.RowKit
theorem getRise_none {bs : List UInt8} {i most : Int} (h : getRise bs i most = none) :
    getAt bs i = none ∨ ∃ n a, getAt bs i = some (n, a) ∧ ((most < 0 ∨ (0 ≤ most ∧ most < (n : Int)) ∨ (0 ≤ most ∧ (n : Int) ≤ most ∧ bs.length < a + n)) ∨ (0 ≤ most ∧ (n : Int) ≤ most ∧ a + n ≤ bs.length ∧ riseAt bs n none a = none)) := by
  unfold getRise at h
  rcases hT : getAt bs i with _ | ⟨n, a⟩
  · exact .inl rfl
  · rw [hT] at h
    simp only at h
    refine .inr ⟨n, a, rfl, ?_⟩
    split at h
    · exact .inl (by omega)
    · exact .inr ⟨by omega, by omega, by omega, h⟩
theorem getRise_some {bs : List UInt8} {i most : Int} {l : List Nat} {e : Nat} (h : getRise bs i most = some (l, e)) :
    ∃ n a, getAt bs i = some (n, a) ∧ 0 ≤ most ∧ (n : Int) ≤ most ∧ a + n ≤ bs.length ∧ riseAt bs n none a = some (l, e) := by
  unfold getRise at h
  rcases hT : getAt bs i with _ | ⟨n, a⟩
  · rw [hT] at h; cases h
  · rw [hT] at h
    simp only at h
    split at h
    · cases h
    · exact ⟨n, a, rfl, by omega, by omega, by omega, h⟩
/-- one round -/
theorem rise_step (bs : List UInt8) (k : Nat) (last : Option Nat) (a : Nat) : riseAt bs (k + 1) last a =
    match getAt bs (a : Int) with
    | none => none
    | some (d, e) =>
      match last with
      | none => (riseAt bs k (some d) e).map fun p => (d :: p.1, p.2)
      | some t => if t + d + 1 < 18446744073709551616 then (riseAt bs k (some (t + d + 1)) e).map fun p => ((t + d + 1) :: p.1, p.2) else none := rfl
theorem rise_on {bs : List UInt8} {k a d e : Nat} {l : List Nat} {T : Option (List Nat × Nat)} {last : Option Nat} (hT : T = (riseAt bs (k + 1) last a).map fun p => (l ++ p.1, p.2)) (hg : getAt bs (a : Int) = some (d, e)) (x : Nat)
    (hx : (last = none ∧ x = d) ∨ ∃ t, last = some t ∧ x = t + d + 1 ∧ t + d + 1 < 18446744073709551616) : T = (riseAt bs k (some x) e).map fun p => ((l ++ [x]) ++ p.1, p.2) := by
  rw [hT, rise_step, hg]
  rcases hx with ⟨rfl, rfl⟩ | ⟨t, rfl, rfl, h⟩
  · simp only [Option.map_map]
    congr 1
    funext p
    simp
  · simp only [if_pos h, Option.map_map]
    congr 1
    funext p
    simp
theorem rise_off {bs : List UInt8} {k a d e t : Nat} {l : List Nat} {T : Option (List Nat × Nat)} (hT : T = (riseAt bs (k + 1) (some t) a).map fun p => (l ++ p.1, p.2)) (hg : getAt bs (a : Int) = some (d, e)) (h : ¬ t + d + 1 < 18446744073709551616) : T = none := by
  rw [hT, rise_step, hg]
  simp only [if_neg h]
  rfl
theorem rise_none {bs : List UInt8} {k a : Nat} {l : List Nat} {T : Option (List Nat × Nat)} {last : Option Nat} (hT : T = (riseAt bs (k + 1) last a).map fun p => (l ++ p.1, p.2)) (hg : getAt bs (a : Int) = none) : T = none := by
  rw [hT, rise_step, hg]
  rfl
theorem rise_done {bs : List UInt8} {a : Nat} {l : List Nat} {T : Option (List Nat × Nat)} {last : Option Nat} (hT : T = (riseAt bs 0 last a).map fun p => (l ++ p.1, p.2)) : T = some (l, a) := by
  rw [hT]
  simp [riseAt]
theorem run_make_cap {P : Program} (t e : TypeId) (k : IntKind) (bytes : Nat) (ht : P.underlying t = some (.slice e)) (hinfo : (P.info? e).map (fun i => (i.zero, i.size, i.bytes)) = some (some (.int k 0), 1, bytes)) (hb0 : 0 < bytes)
    (m : Nat) (hn : m * bytes ≤ 281474976710656) :
    ∀ W : World, (Instr.makeSlice t (.int .i64 0) (.int .i64 (m : Int))).run P W = .ok (.slice (some ⟨W.heap.size, 0, none⟩) 0 m) (W.alloc (.cells (madeCells #[.int k 0] m) e)) := by
  intro W
  obtain ⟨i, hi, hz, hs, hby⟩ := info_parts hinfo
  have hm : m ≤ 281474976710656 := Nat.le_trans (Nat.le_mul_of_pos_right _ hb0) hn
  have hb : (i.bytes : Int) * (m : Int) ≤ 281474976710656 := by
    rw [hby]
    have h : ((bytes * m : Nat) : Int) ≤ 281474976710656 := by rw [Nat.mul_comm]; omega
    rwa [Int.natCast_mul] at h
  have hr := run_make (P := P) W t e i (.int k 0) ht hi hz .i64 .i64 (0 : Int) (m : Int) (by omega) (by omega) hb (by omega)
  rw [hs] at hr
  simpa [show (Value.int k 0).cells = #[Value.int k 0] from rfl] using hr
theorem made_ownN (W : World) (base m : Nat) (hb : base ≤ W.heap.size) (hm : m ≤ maxLen) : OwnN (W.alloc (.cells (madeCells #[.int .u64 0] m) 22)) base (.slice (some ⟨W.heap.size, 0, none⟩) 0 m) [] :=
  World.ownsRow_made (base := base) (e := 22) (size := 1) W (madeCells #[.int .u64 0] m) m hb hm (by simp [size_madeCells])
def riseV : Option (List Nat × Nat) → Prop := fun _ => True
set_option maxRecDepth 100000 in
set_option maxHeartbeats 1600000 in
theorem vgetRise_any (A : Option Addr) (bs : List UInt8) (n c : Nat) (i0 most : Int) (w : World) (hn : bs.length = n) (hl : n ≤ 140737488355328) (hm : n ≤ 17592186044416 ∨ most ≤ 17592186044415) (h0 : -9223372036854775808 ≤ i0) (h1 : i0 ≤ 9223372036854775807) (h2 : -9223372036854775808 ≤ most) (h3 : most ≤ 9223372036854775807) (hr : ReadsB w A bs) :
    Calls Try.prog 29 #[.slice A n c, .int .i64 i0, .int .i64 most] w fun e w' =>
      ((getRise bs i0 most = none ∧ e = .returned (.tuple #[.slice none 0 0, .int .i64 0, .bool false])) ∨
        ∃ l e' A' c', getRise bs i0 most = some (l, e') ∧ e = .returned (.tuple #[.slice A' l.length c', .int .i64 (e' : Int), .bool true]) ∧ OwnN w' w.heap.size (.slice A' l.length c') l) ∧ Below w.heap.size w w' := by
  subst hn
  have HR := Lib.hid hr
  clear hr
  rcases hG : getAt bs i0 with _ | ⟨m, a⟩
  · have HG := Lib.hid hG
    have HT : Hid (getRise bs i0 most = none) := by show getRise bs i0 most = none; unfold getRise; rw [hG]
    clear hG
    go_enter Try.func29, Try.ntmps29
    go_wp2_with fail
    refine (vget_none A bs bs.length c i0 _ rfl hl h0 h1 HR.out HG.out).mono ?_
    rintro e w1 ⟨rfl, rfl⟩
    go_wp2
    go_ret3
    exact ⟨.inl ⟨HT.out, rfl⟩, Below.refl _ _⟩
  have HG := Lib.hid hG
  obtain ⟨_, _, b1, b2, _⟩ := getAt_bounds hG
  have b1' : (a : Int) ≤ (bs.length : Int) := by omega
  have b2' : (m : Int) ≤ 18446744073709551615 := by omega
  by_cases hbad : most < 0 ∨ most < (m : Int) ∨ bs.length < a + m
  · have HT : Hid (getRise bs i0 most = none) := by show getRise bs i0 most = none; unfold getRise; rw [hG]; simp only; rw [if_pos hbad]
    have hcase : most < 0 ∨ (0 ≤ most ∧ most < (m : Int)) ∨ (0 ≤ most ∧ (m : Int) ≤ most ∧ bs.length < a + m) := by omega
    clear hG b1 b2 hbad
    rcases hcase with hc1 | ⟨hc1, hc2⟩ | ⟨hc1, hc2, hc3⟩
    · go_enter Try.func29, Try.ntmps29
      go_wp2_with fail
      refine (vget_some A bs bs.length c i0 m a _ rfl hl h0 h1 HR.out HG.out).mono ?_
      rintro e w1 ⟨rfl, rfl⟩
      go_wp2
      go_ret3
      exact ⟨.inl ⟨HT.out, rfl⟩, Below.refl _ _⟩
    · go_enter Try.func29, Try.ntmps29
      go_wp2_with fail
      refine (vget_some A bs bs.length c i0 m a _ rfl hl h0 h1 HR.out HG.out).mono ?_
      rintro e w1 ⟨rfl, rfl⟩
      go_wp2
      go_ret3
      exact ⟨.inl ⟨HT.out, rfl⟩, Below.refl _ _⟩
    · have hc4 : (bs.length : Int) - (a : Int) < (m : Int) := by omega
      clear hc3
      go_enter Try.func29, Try.ntmps29
      go_wp2_with fail
      refine (vget_some A bs bs.length c i0 m a _ rfl hl h0 h1 HR.out HG.out).mono ?_
      rintro e w1 ⟨rfl, rfl⟩
      go_wp2
      go_ret3
      exact ⟨.inl ⟨HT.out, rfl⟩, Below.refl _ _⟩
  · have HT : Hid (getRise bs i0 most = riseAt bs m none a) := by show getRise bs i0 most = _; unfold getRise; rw [hG]; simp only; rw [if_neg hbad]
    have hc1 : 0 ≤ most := by omega
    have hc2 : (m : Int) ≤ most := by omega
    have b4' : (m : Int) ≤ (bs.length : Int) - (a : Int) := by omega
    have hm8 : m ≤ 17592186044416 := by omega
    have hmi : (m : Int) ≤ 17592186044416 := by omega
    have hmk := run_make_cap (P := Try.prog) 48 22 .u64 8 Try.underlying48 ninfo (by omega) m (by omega)
    have HMO := fun (W : World) (hW : w.heap.size ≤ W.heap.size) => Lib.hid (made_ownN W w.heap.size m hW (by simp only [maxLen]; omega))
    clear hG b1 b2 hbad hm
    go_enter Try.func29, Try.ntmps29
    go_wp2_with fail
    refine (vget_some A bs bs.length c i0 m a _ rfl hl h0 h1 HR.out HG.out).mono ?_
    rintro e w1 ⟨rfl, rfl⟩
    go_wp2_with fail
    go_loopw [1, 11, 50] (fun at' li i wr => ∃ (k a1 : Nat) (l : List Nat), i = .int .i64 (k : Int) ∧ k ≤ m ∧ at' = .int .i64 (a1 : Int) ∧ a1 ≤ bs.length ∧ l.length = k ∧ Hid (∀ x ∈ l, x < 18446744073709551616) ∧ Hid (getRise bs i0 most = (riseAt bs (m - k) l.getLast? a1).map fun p => (l ++ p.1, p.2)) ∧ Hid (OwnN wr w.heap.size li l) ∧ Hid (Below w.heap.size w wr)) (fun _ _ i _ => m - (intOf i).toNat)
    case atStart =>
      refine ⟨0, a, [], rfl, Nat.zero_le _, rfl, by omega, rfl, (show ∀ x ∈ ([] : List Nat), x < 18446744073709551616 by simp), ?_, (HMO w (Nat.le_refl _)).out, below_new _ _⟩
      show getRise bs i0 most = _
      rw [HT.out]
      simp
    case round =>
      obtain ⟨k, a1, l, rfl, hk, rfl, ha1, hlk, HL, HE, HO, HW⟩ := hrel
      have ha1i : (a1 : Int) ≤ (bs.length : Int) := by omega
      obtain ⟨Al, cl, hsl⟩ := HO.out.slice
      by_cases hkm : k < m
      · obtain ⟨r, hr⟩ : ∃ r, m - k = r + 1 := ⟨m - k - 1, by omega⟩
        have hr2 : m - (k + 1) = r := by omega
        rw [hr] at HE
        clear hr
        have i1 : (k : Int) < (m : Int) := by omega
        rcases hG2 : getAt bs (a1 : Int) with _ | ⟨d, e2⟩
        · have HF := Lib.hid (rise_none HE.out hG2)
          have HG2 := Lib.hid hG2
          clear hG2
          go_wp2_with fail
          refine (vget_none A bs bs.length c (a1 : Int) _ rfl hl (by omega) (by omega) (HR.out.below HW.out) HG2.out).mono ?_
          rintro e w1 ⟨rfl, rfl⟩
          go_wp2
          go_ret3
          exact ⟨.inl ⟨HF.out, rfl⟩, HW.out⟩
        · have HG2 := Lib.hid hG2
          obtain ⟨_, _, d1, d2, _⟩ := getAt_bounds hG2
          have d1' : (e2 : Int) ≤ (bs.length : Int) := by omega
          have d2' : (d : Int) ≤ 18446744073709551615 := by omega
          have d2n : d < 18446744073709551616 := by omega
          have hbase : w.heap.size ≤ wr.heap.size := HW.out.size
          clear hG2 d1 d2
          by_cases hk0 : k = 0
          · clear hsl
            subst hk0
            obtain rfl : l = [] := List.eq_nil_of_length_eq_zero hlk
            have HE2 : Hid (getRise bs i0 most = (riseAt bs r ([] ++ [d]).getLast? e2).map fun p => (([] ++ [d]) ++ p.1, p.2)) := rise_on HE.out HG2.out d (.inl ⟨rfl, rfl⟩)
            have hlen : (u64s ([] : List Nat)).length + 1 ≤ 17592186044416 := by simp [u64s]
            go_wp2_with fail
            refine (vget_some A bs bs.length c (a1 : Int) d e2 _ rfl hl (by omega) (by omega) (HR.out.below HW.out) HG2.out).mono ?_
            rintro e w1 ⟨rfl, rfl⟩
            go_wp2_with (at_builtin; refine wpList_append_full w.heap.size rfl _ _ 48 22 _ 8 rfl Try.underlying48 ninfo rfl (by omega) u11 (u64s []) _ rfl rfl rfl HO.out.full hbase (by simp [u64s]) ?_; intro v1 w1 hown hbl hg)
            go_roundw
            case rel =>
              refine ⟨1, e2, [] ++ [d], by go_num, by omega, rfl, by omega, by simp, ?_, ?_, ?_, HW.out.trans hbl⟩
              · show ∀ x ∈ [] ++ [d], x < 18446744073709551616
                simpa using d2n
              · rw [hr2]; exact HE2
              · rw [u64s_snoc] at hown
                show OwnN _ _ _ _
                unfold OwnN
                rwa [u64s_length] at hown
            case measure => simp [intOf]; omega
          · obtain ⟨j, rfl⟩ : ∃ j, k = j + 1 := ⟨k - 1, by omega⟩
            subst hsl
            obtain ⟨adl, hAl, hcell⟩ := HO.out.reads.at (k := j) (by omega)
            have hlast : l.getLast? = some (l.getD j 0) := by
              rw [List.getLast?_eq_getElem?, hlk]
              simp [List.getElem?_eq_getElem (show j < l.length by omega)]
            have HX : Hid (l.getD j 0 < 18446744073709551616) := by
              refine HL.out _ ?_
              rw [show l.getD j 0 = l[j]'(by omega) by simp [List.getElem?_eq_getElem (show j < l.length by omega)]]
              exact List.getElem_mem _
            rw [hlast] at HE
            clear hlast
            obtain ⟨t, ht⟩ : ∃ t, l.getD j 0 = t := ⟨_, rfl⟩
            rw [ht] at HE hcell HX
            clear ht
            subst hAl
            have hw1 : IntKind.i64.wrap ((((j + 1 : Nat) : Int)) - 1) = (j : Int) := by rw [IntWalk.i64_in] <;> omega
            have hw2 : (0 : Int) < ((j + 1 : Nat) : Int) := by omega
            have hjl : (j : Int) < (l.length : Int) := by omega
            have HLK := Lib.hid hlk
            have hll : l.length ≤ 17592186044415 := by omega
            clear hlk
            by_cases htd : t + d + 1 < 18446744073709551616
            · have HE2 : Hid (getRise bs i0 most = (riseAt bs r (l ++ [t + d + 1]).getLast? e2).map fun p => ((l ++ [t + d + 1]) ++ p.1, p.2)) := by
                have := rise_on HE.out HG2.out (t + d + 1) (.inr ⟨t, rfl, rfl, htd⟩)
                show _ = _
                rw [this]
                simp
              have t1 : ((t : Int) == 18446744073709551615) = false := by rw [beq_eq_false_iff_ne]; omega
              have t2 : IntKind.u64.wrap (IntKind.u64.wrap (18446744073709551615 - (t : Int)) - 1) = 18446744073709551614 - (t : Int) := by rw [IntKind.wrap_u64, IntKind.wrap_u64]; omega
              have t2' : IntKind.u64.wrap (18446744073709551615 - (t : Int) - 1) = 18446744073709551614 - (t : Int) := by rw [IntKind.wrap_u64]; omega
              have t3 : (d : Int) ≤ 18446744073709551614 - (t : Int) := by omega
              have t4 : IntKind.u64.wrap ((d : Int) + IntKind.u64.wrap ((t : Int) + 1)) = ((t + d + 1 : Nat) : Int) := by rw [IntKind.wrap_u64, IntKind.wrap_u64]; omega
              go_wp2_with fail
              refine (vget_some A bs bs.length c (a1 : Int) d e2 _ rfl hl (by omega) (by omega) (HR.out.below HW.out) HG2.out).mono ?_
              rintro e w1 ⟨rfl, rfl⟩
              go_wp2_with (at_builtin; go_loud (refine wpList_append_full w.heap.size rfl _ _ 48 22 _ 8 rfl Try.underlying48 ninfo rfl (by omega) (.slice (some adl) l.length cl) (u64s l) _ rfl rfl rfl HO.out.full hbase (by rw [u64s_length]; omega) ?_); intro v1 w1 hown hbl hg)
              go_roundw
              case rel =>
                refine ⟨j + 1 + 1, e2, l ++ [t + d + 1], by go_num, by omega, rfl, by omega, by rw [List.length_append, HLK.out]; rfl, ?_, ?_, ?_, HW.out.trans hbl⟩
                · show ∀ x ∈ l ++ [t + d + 1], x < 18446744073709551616
                  intro x hx
                  rw [List.mem_append, List.mem_singleton] at hx
                  rcases hx with hx | rfl
                  · exact HL.out x hx
                  · exact htd
                · rw [hr2]; exact HE2
                · show OwnN _ _ _ _
                  unfold OwnN
                  rw [vint (k := .u64) (show (d : Int) + ((t : Int) + 1) = ((t + d + 1 : Nat) : Int) by omega), u64s_snoc, u64s_length] at hown
                  exact hown
              case measure => simp [intOf]; omega
            · have HF := Lib.hid (rise_off HE.out HG2.out htd)
              have ht64 := HX.out
              by_cases htm : t = 18446744073709551615
              · have t1 : ((t : Int) == 18446744073709551615) = true := by rw [beq_iff_eq]; omega
                clear htd ht64 htm
                go_wp2_with fail
                refine (vget_some A bs bs.length c (a1 : Int) d e2 _ rfl hl (by omega) (by omega) (HR.out.below HW.out) HG2.out).mono ?_
                rintro e w1 ⟨rfl, rfl⟩
                go_wp2
                go_ret3
                exact ⟨.inl ⟨HF.out, rfl⟩, HW.out⟩
              · have t1 : ((t : Int) == 18446744073709551615) = false := by rw [beq_eq_false_iff_ne]; omega
                have t2 : IntKind.u64.wrap (IntKind.u64.wrap (18446744073709551615 - (t : Int)) - 1) = 18446744073709551614 - (t : Int) := by rw [IntKind.wrap_u64, IntKind.wrap_u64]; omega
                have t2' : IntKind.u64.wrap (18446744073709551615 - (t : Int) - 1) = 18446744073709551614 - (t : Int) := by rw [IntKind.wrap_u64]; omega
                have t3 : 18446744073709551614 - (t : Int) < (d : Int) := by omega
                clear htd ht64 htm
                go_wp2_with fail
                refine (vget_some A bs bs.length c (a1 : Int) d e2 _ rfl hl (by omega) (by omega) (HR.out.below HW.out) HG2.out).mono ?_
                rintro e w1 ⟨rfl, rfl⟩
                go_wp2
                go_ret3
                exact ⟨.inl ⟨HF.out, rfl⟩, HW.out⟩
      · have HF := Lib.hid (rise_done (a := a1) (l := l) (T := getRise bs i0 most) (last := l.getLast?) (by rw [HE.out, show m - k = 0 by omega]))
        have hkm2 : ¬ (k : Int) < (m : Int) := by omega
        subst hsl
        have HLK := Lib.hid hlk
        clear hlk
        go_wp2
        go_ret3
        exact ⟨.inr ⟨l, a1, HF.out, Al, cl, rfl, HO.out⟩, HW.out⟩
end Go.Proofs.Ytfgmgmnhelodaaa
