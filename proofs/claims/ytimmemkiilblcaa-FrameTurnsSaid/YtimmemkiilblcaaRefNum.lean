/- What the reference's reader computes of a number: the walk. -/
import Derived.Test.YtimmemkiilblcaaVintGet
namespace Go.Proofs.Ytimmemkiilblcaa
set_option linter.unusedVariables false
set_option linter.unusedSimpArgs false
open Go.RowKit
/-- the reader's three cells -/
def rcells (A : Option Addr) (n c : Nat) (i : Int) (bad : Bool) : Array Value := #[.slice A n c, .int .i64 i, .bool bad]
/-- a reader that stands in block g, over bytes that can be read -/
structure RdAt (w : World) (g : Nat) (A : Option Addr) (bs : List UInt8) (c : Nat) (i : Int) (bad : Bool) : Prop where
  blk : Blk w g 66 (rcells A bs.length c i bad)
  rd : ReadsB w A bs
theorem RdAt.c0 {w : World} {g : Nat} {A : Option Addr} {bs : List UInt8} {c : Nat} {i : Int} {bad : Bool} (h : RdAt w g A bs c i bad) : w.cell? ⟨g, 0, none⟩ = some (.slice A bs.length c) := by rw [h.blk.cell]; rfl
theorem RdAt.c1 {w : World} {g : Nat} {A : Option Addr} {bs : List UInt8} {c : Nat} {i : Int} {bad : Bool} (h : RdAt w g A bs c i bad) : w.cell? ⟨g, 1, none⟩ = some (.int .i64 i) := by rw [h.blk.cell]; rfl
theorem RdAt.c2 {w : World} {g : Nat} {A : Option Addr} {bs : List UInt8} {c : Nat} {i : Int} {bad : Bool} (h : RdAt w g A bs c i bad) : w.cell? ⟨g, 2, none⟩ = some (.bool bad) := by rw [h.blk.cell]; rfl
theorem RdAt.drewN {w : World} {g : Nat} {A : Option Addr} {bs : List UInt8} {c : Nat} {i : Int} {bad : Bool} (h : RdAt w g A bs c i bad) (n : Nat) : RdAt (w.drewN n) g A bs c i bad := ⟨h.blk, h.rd⟩
theorem RdAt.drew {w : World} {g : Nat} {A : Option Addr} {bs : List UInt8} {c : Nat} {i : Int} {bad : Bool} (h : RdAt w g A bs c i bad) : RdAt w.drew g A bs c i bad := ⟨h.blk, h.rd⟩
theorem RdAt.below {w w1 : World} {g : Nat} {A : Option Addr} {bs : List UInt8} {c : Nat} {i : Int} {bad : Bool} (h : RdAt w g A bs c i bad) (hb : Below w.heap.size w w1) : RdAt w1 g A bs c i bad := ⟨h.blk.below hb, h.rd.below hb⟩
/-- the bytes do not lie in the reader's own block -/
theorem RdAt.keep {w w1 : World} {g : Nat} {A : Option Addr} {bs : List UInt8} {c : Nat} {i : Int} {bad : Bool} (h : RdAt w g A bs c i bad) (hg : w.grownBy w1 (some g)) : ReadsB w1 A bs := fun hn => by
  obtain ⟨ad, e, hc⟩ := h.rd hn
  refine ⟨ad, e, fun j u hu => ?_⟩
  refine hg.cell (hc j u hu) ?_
  intro he
  have hb : (ad.add j).block = g := by injection he
  have h1 := hc j u hu
  have hu' : ∃ x : Int, u = .int .u8 x := by
    simp only [u8s, List.getElem?_map, Option.map_eq_some_iff] at hu
    obtain ⟨x, _, rfl⟩ := hu
    exact ⟨_, rfl⟩
  obtain ⟨x, rfl⟩ := hu'
  have h2 := h.blk
  unfold Blk at h2
  unfold World.cell? at h1
  rw [hb, h2] at h1
  simp only at h1
  split at h1
  · cases h1
  · generalize (ad.add j).off = o at h1
    match o, h1 with
    | 0, h1 => simp [rcells] at h1
    | 1, h1 => simp [rcells] at h1
    | 2, h1 => simp [rcells] at h1
    | o + 3, h1 => simp [rcells] at h1
theorem rcells_at (A : Option Addr) (n c : Nat) (i i' : Int) (b : Bool) : (rcells A n c i b).setIfInBounds 1 (.int .i64 i') = rcells A n c i' b := rfl
theorem rcells_bad (A : Option Addr) (n c : Nat) (i : Int) (b b' : Bool) : (rcells A n c i b).setIfInBounds 2 (.bool b') = rcells A n c i b' := rfl
theorem only_setCell {a w : World} {g : Nat} (h : a.grownBy w (some g)) {p : Addr} (hp : p.block = g) (u : Value) : a.grownBy (w.setCell p u) (some g) :=
  ⟨h.os, h.tape, h.output, by simpa [World.setCell] using h.size, fun i hi hne => (Below.heap_setCell w p u i (by
    rintro rfl
    exact hne (by rw [hp]))).trans (h.block i hi hne)⟩
theorem only_drewN {a w : World} {row : Option Nat} (h : a.grownBy w row) (n : Nat) : a.grownBy (w.drewN n) row := ⟨h.os, h.tape, h.output, h.size, h.block⟩
theorem only_drew {a w : World} {row : Option Nat} (h : a.grownBy w row) : a.grownBy w.drew row := ⟨h.os, h.tape, h.output, h.size, h.block⟩
/-- the place moves on, or something is wrong: the reader stands -/
theorem RdAt.setAt {w : World} {g : Nat} {A : Option Addr} {bs : List UInt8} {c : Nat} {i : Int} {bad : Bool} (h : RdAt w g A bs c i bad) (i' : Int) : RdAt (w.setCell ⟨g, 1, none⟩ (.int .i64 i')) g A bs c i' bad :=
  ⟨by rw [← rcells_at]; exact h.blk.set_ 1 _, h.keep (only_setCell (World.grownBy.refl _ _) rfl _)⟩
theorem RdAt.setBad {w : World} {g : Nat} {A : Option Addr} {bs : List UInt8} {c : Nat} {i : Int} {bad : Bool} (h : RdAt w g A bs c i bad) (b' : Bool) : RdAt (w.setCell ⟨g, 2, none⟩ (.bool b')) g A bs c i b' :=
  ⟨by rw [← rcells_bad]; exact h.blk.set_ 2 _, h.keep (only_setCell (World.grownBy.refl _ _) rfl _)⟩
/-- what reading a number leaves -/
def NumPost (w : World) (g : Nat) (A : Option Addr) (bs : List UInt8) (c : Nat) (T : Option (Nat × Nat)) (w' : World) : Prop :=
  ∃ i' : Int, RdAt w' g A bs c i' T.isNone ∧ (∀ p, T = some p → i' = p.2) ∧ w.grownBy w' (some g)
def numV (T : Option (Nat × Nat)) : Int := ((T.map Prod.fst).getD 0 : Nat)
theorem add_acc (j n : Nat) (x : UInt8) (hn : n < 2 ^ (7 * j)) (hj : j ≤ 9) (h9 : j = 9 → x.toNat ≤ 1) :
    IntKind.u64.wrap ((n : Int) + IntKind.u64.wrap ((x.toNat : Int) % 128 * 2 ^ (7 * j))) = ((n + 2 ^ (7 * j) * (x.toNat % 128) : Nat) : Int) := by
  have hx := x.toNat_lt
  have hs := shift_lt j (x.toNat % 128) hj (by omega) (fun h => by have := h9 h; omega)
  have e : ((x.toNat : Int) % 128) * 2 ^ (7 * j) = ((2 ^ (7 * j) * (x.toNat % 128) : Nat) : Int) := by
    rw [Int.mul_comm]
    simp
  have hsum : n + 2 ^ (7 * j) * (x.toNat % 128) < 18446744073709551616 := by
    by_cases h : j = 9
    · subst h
      have := h9 rfl
      have : 2 ^ (7 * 9) * (x.toNat % 128) ≤ 2 ^ (7 * 9) * 1 := Nat.mul_le_mul_left _ (by omega)
      omega
    · have h1 : 2 ^ (7 * j) ≤ 2 ^ 56 := Nat.pow_le_pow_right (by decide) (by omega)
      have h2 : 2 ^ (7 * j) * (x.toNat % 128) ≤ 2 ^ 56 * 127 := Nat.mul_le_mul h1 (by omega)
      omega
  rw [e]
  generalize 2 ^ (7 * j) * (x.toNat % 128) = z at hs hsum
  rw [IntKind.wrap_u64, IntKind.wrap_u64]
  omega
theorem num_ret {T : Option (Nat × Nat)} (h : T = none) : Ending.returned (.int .u64 0) = .returned (.int .u64 (numV T)) := by rw [h]; rfl
theorem num_retS {T : Option (Nat × Nat)} {a : Int} {v e : Nat} (h : T = some (v, e)) (ha : a = v) : Ending.returned (.int .u64 a) = .returned (.int .u64 (numV T)) := by rw [h, ha]; rfl
theorem numPost_bad {w W : World} {g : Nat} {A : Option Addr} {bs : List UInt8} {c : Nat} {i : Int} {T : Option (Nat × Nat)} {b : Bool} (h : T = none) (hr : RdAt W g A bs c i b) (hg : w.grownBy W (some g)) : NumPost w g A bs c T (W.setCell ⟨g, 2, none⟩ (.bool true)) := by
  subst h
  exact ⟨i, hr.setBad true, (fun p hp => by cases hp), only_setCell (p := ⟨g, 2, none⟩) hg rfl _⟩
theorem numPost_ok {w W : World} {g : Nat} {A : Option Addr} {bs : List UInt8} {c : Nat} {i : Int} {T : Option (Nat × Nat)} {v e : Nat} (h : T = some (v, e)) (hi : i = e) (hr : RdAt W g A bs c i false) (hg : w.grownBy W (some g)) : NumPost w g A bs c T W := by
  subst h
  exact ⟨i, hr, fun p hp => by cases hp; exact hi, hg⟩
set_option maxRecDepth 100000 in
set_option maxHeartbeats 800000 in
theorem num_any (g : Nat) (A : Option Addr) (bs : List UInt8) (c : Nat) (i0 : Int) (w : World) (hl : bs.length ≤ 140737488355328) (h0 : -9223372036854775808 ≤ i0) (h1 : i0 ≤ 9223372036854775807) (hr : RdAt w g A bs c i0 false) :
    Calls Try.prog 33 #[.pointer (some ⟨g, 0, none⟩)] w fun e w' => e = .returned (.int .u64 (numV (getAt bs i0))) ∧ NumPost w g A bs c (getAt bs i0) w' := by
  have HR := Lib.hid hr
  clear hr
  by_cases hneg : i0 < 0
  · have HT := Lib.hid (getAt_neg (bs := bs) hneg)
    have c0 := HR.out.c0
    have c1 := HR.out.c1
    have c2 := HR.out.c2
    have f2 := HR.out.blk.frozen 2
    have hd1 : decide (i0 < 0) = true := by simpa using hneg
    go_enter Try.func33, Try.ntmps33
    go_wp2
    refine wp_loop_rounds 1 ?_
    rw [rounds_succ]
    go_wp2
    go_quiet (fail)
    go_wp2
    go_ret
    exact ⟨num_ret HT.out, numPost_bad HT.out (HR.out.drewN _) (only_drewN (World.grownBy.refl _ _) _)⟩
  obtain ⟨a0, rfl⟩ := Int.eq_ofNat_of_zero_le (show 0 ≤ i0 by omega)
  have hT := getAt_nat bs a0
  generalize getAt bs (a0 : Int) = T at hT
  have HT := Lib.hid hT
  clear hT h0 hneg
  go_enter Try.func33, Try.ntmps33
  go_wp2
  go_loopw [3, 4] (fun v i wr => ∃ (j a n : Nat), v = .int .u64 (n : Int) ∧ i = .int .i64 (j : Int) ∧ j ≤ 10 ∧ (a : Int) ≤ 9223372036854775807 ∧ Hid (n < 2 ^ (7 * j)) ∧ Hid (T = (dec (10 - j) (bs.drop a)).map fun p => (n + 2 ^ (7 * j) * p.1, a + p.2)) ∧ Hid (RdAt wr g A bs c (a : Int) false) ∧ Hid (w.grownBy wr (some g))) (fun _ i _ => 10 - (intOf i).toNat)
  case atStart =>
    refine ⟨0, a0, 0, rfl, rfl, by omega, h1, (show 0 < 2 ^ (7 * 0) by decide), ?_, HR.out, World.grownBy.refl _ _⟩
    show T = _
    rw [HT.out]
    simp
  case round =>
    obtain ⟨j, a, n, rfl, rfl, hj, ha, HV, HS, HR1, HG⟩ := hrel
    clear HT HR
    have c0 := HR1.out.c0
    have c1 := HR1.out.c1
    have c2 := HR1.out.c2
    have f2 := HR1.out.blk.frozen 2
    have f1 := HR1.out.blk.frozen 1
    by_cases hj10 : j < 10
    · have hi1 : (j : Int) < 10 := by omega
      have hd1 : decide ((a : Int) < 0) = false := by simp
      by_cases hal : a < bs.length
      · have hd2 : decide ((bs.length : Int) ≤ (a : Int)) = false := by simp; omega
        obtain ⟨ad, hA, hc⟩ := HR1.out.rd.at hal
        subst hA
        obtain ⟨x, hx⟩ : ∃ x, bs.getD a 0 = x := ⟨_, rfl⟩
        rw [hx] at hc
        have HX := Lib.hid hx
        clear hx
        have hi2 : (a : Int) < (bs.length : Int) := by omega
        by_cases h9 : j = 9 ∧ 1 < x.toNat
        · have HN := Lib.hid (dec_none9 T bs j a n x hal HX.out h9 HS.out)
          obtain ⟨h91, h92⟩ := h9
          have t1 : ((j : Int) == 9) = true := by rw [beq_iff_eq]; omega
          have t2 : (1 : Int) < (x.toNat : Int) := by omega
          clear h91
          go_wp2
          go_quiet (fail)
          go_wp2
          go_quiet (fail)
          go_wp2
          go_ret
          exact ⟨num_ret HN.out, numPost_bad HN.out (by repeat (first | exact HR1.out | apply RdAt.drewN | apply RdAt.drew | apply RdAt.setAt)) (by repeat (first | exact HG.out | apply only_drewN | apply only_drew | (refine only_setCell ?_ rfl _)))⟩
        · by_cases hlt : x.toNat < 128
          · have q1 : ((j : Int) == 9) = false ∨ (((j : Int) == 9) = true ∧ (x.toNat : Int) ≤ 1) := by
              by_cases h : j = 9
              · exact .inr ⟨by rw [beq_iff_eq]; omega, by omega⟩
              · exact .inl (by rw [beq_eq_false_iff_ne]; omega)
            have t3 : (x.toNat : Int) < 128 := by omega
            by_cases hz : 0 < j ∧ x.toNat = 0
            · have HN := Lib.hid (dec_none0 T bs j a n x hj10 hal HX.out hz HS.out)
              obtain ⟨hz1, hz2⟩ := hz
              have hz3 : (0 : Int) < (j : Int) := by omega
              have hz4 : ((x.toNat : Int) == 0) = true := by rw [beq_iff_eq]; omega
              clear hz1 hz2 h9
              rcases q1 with q1 | ⟨q1, q11⟩
              all_goals
                go_wp2
                go_quiet (fail)
                go_wp2
                go_quiet (fail)
                go_wp2
                go_ret
                exact ⟨num_ret HN.out, numPost_bad HN.out (by repeat (first | exact HR1.out | apply RdAt.drewN | apply RdAt.drew | apply RdAt.setAt)) (by repeat (first | exact HG.out | apply only_drewN | apply only_drew | (refine only_setCell ?_ rfl _)))⟩
            · have HN := Lib.hid (dec_done T bs j a n x hj10 hal HX.out h9 hlt hz HS.out)
              have q2 : ((x.toNat : Int) == 0) = false ∨ (((x.toNat : Int) == 0) = true ∧ (j : Int) ≤ 0) := by
                by_cases h : x.toNat = 0
                · exact .inr ⟨by rw [beq_iff_eq]; omega, by omega⟩
                · exact .inl (by rw [beq_eq_false_iff_ne]; omega)
              clear hz h9
              rcases q1 with q1 | ⟨q1, q11⟩ <;> rcases q2 with q2 | ⟨q2, q22⟩
              all_goals
                go_wp2
                go_quiet (fail)
                go_wp2
                go_quiet (fail)
                go_wp2
                go_ret
                refine ⟨num_retS HN.out ?_, numPost_ok (i := (a : Int) + 1) HN.out (by simp) (by repeat (first | exact HR1.out | apply RdAt.drewN | apply RdAt.drew | apply RdAt.setAt)) (by repeat (first | exact HG.out | apply only_drewN | apply only_drew | (refine only_setCell ?_ rfl _)))⟩
                rw [add_acc j n x HV.out (by omega) (by first | (intro h; omega) | (intro h; simp [h] at q1)), Nat.mod_eq_of_lt hlt]
          · have HN := Lib.hid (dec_on T bs j a n x hj10 hal HX.out h9 hlt HS.out)
            have hj9 : ((j : Int) == 9) = false := by rw [beq_eq_false_iff_ne]; omega
            have t2 : (128 : Int) ≤ (x.toNat : Int) := by omega
            clear h9
            go_wp2
            go_quiet (fail)
            go_wp2
            go_quiet (fail)
            go_wp2
            go_roundw
            case rel =>
              have hj8 : j ≤ 8 := by
                rcases Nat.lt_or_ge j 9 with h | h
                · omega
                · have : j = 9 := by omega
                  subst this
                  simp at hj9
              refine ⟨j + 1, a + 1, n + 2 ^ (7 * j) * (x.toNat % 128), ?_, by go_num, by omega, by omega, acc_lt j n _ HV.out (by omega), HN.out, ?_, ?_⟩
              · exact vint (add_acc j n x HV.out (by omega) (by intro h; omega))
              · show RdAt _ _ _ _ _ _ _
                rw [show (((a + 1 : Nat) : Int)) = (a : Int) + 1 by omega]
                repeat (first | exact HR1.out | apply RdAt.drewN | apply RdAt.drew | apply RdAt.setAt)
              · show World.grownBy _ _ _
                repeat (first | exact HG.out | apply only_drewN | apply only_drew | (refine only_setCell ?_ rfl _))
            case measure => simp [intOf]; omega
      · have hd2 : decide ((bs.length : Int) ≤ (a : Int)) = true := by simp; omega
        have HN : Hid (T = none) := by
          show T = none
          rw [HS.out, List.drop_eq_nil_of_le (by omega), dec_nil]
          rfl
        go_wp2
        go_quiet (fail)
        go_wp2
        go_ret
        exact ⟨num_ret HN.out, numPost_bad HN.out (HR1.out.drewN _) (only_drewN HG.out _)⟩
    · have hi1 : (10 : Int) ≤ (j : Int) := by omega
      have HN : Hid (T = none) := by
        show T = none
        rw [HS.out, show 10 - j = 0 by omega]
        rfl
      go_wp2
      go_ret
      exact ⟨num_ret HN.out, numPost_bad HN.out HR1.out HG.out⟩
end Go.Proofs.Ytimmemkiilblcaa
