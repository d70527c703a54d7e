/- What vint.Get computes: the walk. -/
import Derived.Test.YtimmemkiilblcaaOwn
import Derived.Test.YtimmemkiilblcaaVintMath
namespace Go.Proofs.Ytimmemkiilblcaa
set_option linter.unusedVariables false
set_option linter.unusedSimpArgs false
open Go.RowKit
def getV : Option (Nat × Nat) → Value
  | none => .tuple #[.int .u64 0, .int .i64 0, .bool false]
  | some p => .tuple #[.int .u64 (p.1 : Int), .int .i64 (p.2 : Int), .bool true]
theorem getV_none {T : Option (Nat × Nat)} (h : T = none) : Ending.returned (.tuple #[.int .u64 0, .int .i64 0, .bool false]) = .returned (getV T) := by rw [h]; rfl
theorem getV_some {T : Option (Nat × Nat)} {a b : Int} {v e : Nat} (h : T = some (v, e)) (ha : a = v) (hb : b = e) : Ending.returned (.tuple #[.int .u64 a, .int .i64 b, .bool true]) = .returned (getV T) := by rw [h, ha, hb]; rfl
/-- one round's step of the number -/
theorem drop_cons (bs : List UInt8) (a : Nat) (h : a < bs.length) : bs.drop a = bs.getD a 0 :: bs.drop (a + 1) := by
  rw [List.drop_eq_getElem_cons h]
  simp [List.getElem?_eq_getElem h]
theorem dec_done (T : Option (Nat × Nat)) (bs : List UInt8) (i a v : Nat) (x : UInt8) (hi : i < 10) (ha : a < bs.length) (hx : bs.getD a 0 = x) (h9 : ¬ (i = 9 ∧ 1 < x.toNat)) (hl : x.toNat < 128) (h0 : ¬ (0 < i ∧ x.toNat = 0))
    (hT : T = (dec (10 - i) (bs.drop a)).map fun p => (v + 2 ^ (7 * i) * p.1, a + p.2)) : T = some (v + 2 ^ (7 * i) * x.toNat, a + 1) := by
  obtain ⟨f, hf⟩ : ∃ f, 10 - i = f + 1 := ⟨9 - i, by omega⟩
  rw [hT, drop_cons bs a ha, hx, hf, dec_cons, if_neg (by omega), if_pos hl, if_neg (by omega)]
  rfl
theorem dec_none9 (T : Option (Nat × Nat)) (bs : List UInt8) (i a v : Nat) (x : UInt8) (ha : a < bs.length) (hx : bs.getD a 0 = x) (h9 : i = 9 ∧ 1 < x.toNat)
    (hT : T = (dec (10 - i) (bs.drop a)).map fun p => (v + 2 ^ (7 * i) * p.1, a + p.2)) : T = none := by
  obtain ⟨h9, h1⟩ := h9
  subst h9
  rw [hT, drop_cons bs a ha, hx, dec_cons, if_pos ⟨rfl, h1⟩]
  rfl
theorem dec_none0 (T : Option (Nat × Nat)) (bs : List UInt8) (i a v : Nat) (x : UInt8) (hi : i < 10) (ha : a < bs.length) (hx : bs.getD a 0 = x) (h0 : 0 < i ∧ x.toNat = 0)
    (hT : T = (dec (10 - i) (bs.drop a)).map fun p => (v + 2 ^ (7 * i) * p.1, a + p.2)) : T = none := by
  obtain ⟨f, hf⟩ : ∃ f, 10 - i = f + 1 := ⟨9 - i, by omega⟩
  rw [hT, drop_cons bs a ha, hx, hf, dec_cons, if_neg (by omega), if_pos (by omega), if_pos (by omega)]
  rfl
theorem dec_on (T : Option (Nat × Nat)) (bs : List UInt8) (i a v : Nat) (x : UInt8) (hi : i < 10) (ha : a < bs.length) (hx : bs.getD a 0 = x) (h9 : ¬ (i = 9 ∧ 1 < x.toNat)) (hl : ¬ x.toNat < 128)
    (hT : T = (dec (10 - i) (bs.drop a)).map fun p => (v + 2 ^ (7 * i) * p.1, a + p.2)) : T = (dec (10 - (i + 1)) (bs.drop (a + 1))).map fun p => (v + 2 ^ (7 * i) * (x.toNat % 128) + 2 ^ (7 * (i + 1)) * p.1, a + 1 + p.2) := by
  obtain ⟨f, hf⟩ : ∃ f, 10 - i = f + 1 := ⟨9 - i, by omega⟩
  have hx' := x.toNat_lt
  rw [hT, drop_cons bs a ha, hx, hf, dec_cons, if_neg (by omega), if_neg hl, show 10 - (i + 1) = f by omega, Option.map_map]
  congr 1
  funext p
  simp only [Function.comp, Prod.mk.injEq]
  have e : x.toNat - 128 = x.toNat % 128 := by omega
  rw [show 7 * (i + 1) = 7 * i + 7 by omega, Nat.pow_add, Nat.mul_add, e]
  refine ⟨?_, by omega⟩
  rw [Nat.add_assoc, Nat.mul_assoc, show (2 : Nat) ^ 7 = 128 by rfl]
theorem acc_lt (i v y : Nat) (hv : v < 2 ^ (7 * i)) (hy : y < 128) : v + 2 ^ (7 * i) * y < 2 ^ (7 * (i + 1)) := by
  rw [show 7 * (i + 1) = 7 * i + 7 by omega, Nat.pow_add]
  have : 2 ^ (7 * i) * (y + 1) ≤ 2 ^ (7 * i) * 2 ^ 7 := Nat.mul_le_mul_left _ (by omega)
  rw [Nat.mul_add] at this
  omega
theorem bits_or_u64 (a b : Nat) (ha : a < 18446744073709551616) (hb : b < 18446744073709551616) : bits .or .u64 (a : Int) (b : Int) = ((a ||| b : Nat) : Int) := by
  have hz : a ||| b < 2 ^ 64 := Nat.or_lt_two_pow (by omega) (by omega)
  have h1 : a % 2 ^ 64 = a := Nat.mod_eq_of_lt (by omega)
  have h2 : b % 2 ^ 64 = b := Nat.mod_eq_of_lt (by omega)
  show IntKind.u64.wrap ((BitVec.ofInt 64 (a : Int) ||| BitVec.ofInt 64 (b : Int)).toNat : Int) = _
  rw [BitVec.toNat_or, BitVec.ofInt_natCast, BitVec.ofInt_natCast, BitVec.toNat_ofNat, BitVec.toNat_ofNat, h1, h2, IntKind.wrap_u64]
  omega
theorem and127 (x : UInt8) : bits .and .u8 (x.toNat : Int) 127 = ((x.toNat % 128 : Nat) : Int) := by
  have hx := x.toNat_lt
  have := bits_mask .u8 8 (by decide) wraps_u8 7 (by decide) (x.toNat : Int) (by omega) (by omega)
  simpa using this
theorem shift_lt (j y : Nat) (hj : j ≤ 9) (hy : y < 128) (h9 : j = 9 → y ≤ 1) : 2 ^ (7 * j) * y < 18446744073709551616 := by
  by_cases h : j = 9
  · subst h
    have := h9 rfl
    have : 2 ^ (7 * 9) * y ≤ 2 ^ (7 * 9) * 1 := Nat.mul_le_mul_left _ this
    omega
  · have h1 : 2 ^ (7 * j) ≤ 2 ^ 56 := Nat.pow_le_pow_right (by decide) (by omega)
    have h2 : 2 ^ (7 * j) * y ≤ 2 ^ 56 * 127 := Nat.mul_le_mul h1 (by omega)
    omega
theorem or_acc (j n : Nat) (x : UInt8) (hn : n < 2 ^ (7 * j)) (hj : j ≤ 9) (h9 : j = 9 → x.toNat ≤ 1) :
    bits .or .u64 (n : Int) (IntKind.u64.wrap (IntKind.u64.wrap (bits .and .u8 (x.toNat : Int) 127) * 2 ^ (7 * j))) = ((n + 2 ^ (7 * j) * (x.toNat % 128) : Nat) : Int) := by
  have hx := x.toNat_lt
  have hs := shift_lt j (x.toNat % 128) hj (by omega) (fun h => by have := h9 h; omega)
  have e : ((x.toNat % 128 : Nat) : Int) * 2 ^ (7 * j) = ((2 ^ (7 * j) * (x.toNat % 128) : Nat) : Int) := by
    rw [Int.mul_comm]
    simp
  have w1 : IntKind.u64.wrap (((x.toNat % 128 : Nat) : Int)) = ((x.toNat % 128 : Nat) : Int) := by rw [IntKind.wrap_u64]; omega
  have w2 : IntKind.u64.wrap ((2 ^ (7 * j) * (x.toNat % 128) : Nat) : Int) = ((2 ^ (7 * j) * (x.toNat % 128) : Nat) : Int) := by
    rw [IntKind.wrap_u64]
    generalize 2 ^ (7 * j) * (x.toNat % 128) = z at hs
    omega
  have hn2 : n < 18446744073709551616 := by
    have : 2 ^ (7 * j) ≤ 2 ^ 63 := Nat.pow_le_pow_right (by decide) (by omega)
    omega
  rw [and127, w1, e, w2, bits_or_u64 _ _ hn2 hs, Nat.add_comm, Nat.two_pow_add_eq_or_of_lt hn, Nat.or_comm]
set_option maxRecDepth 100000 in
set_option maxHeartbeats 800000 in
theorem vget_any (A : Option Addr) (bs : List UInt8) (c : Nat) (i0 : Int) (w : World) (hl : bs.length ≤ 140737488355328) (h0 : -9223372036854775808 ≤ i0) (h1 : i0 ≤ 9223372036854775807) (hr : ReadsB w A bs) :
    Calls Try.prog 25 #[.slice A bs.length c, .int .i64 i0] w fun e w' => e = .returned (getV (getAt bs i0)) ∧ w = w' := by
  have HR := Lib.hid hr
  clear hr
  by_cases hneg : i0 < 0
  · have HT := Lib.hid (getAt_neg (bs := bs) hneg)
    go_enter Try.func25, Try.ntmps25
    go_wp2
    go_ret3
    exact ⟨getV_none HT.out, rfl⟩
  obtain ⟨a0, rfl⟩ := Int.eq_ofNat_of_zero_le (show 0 ≤ i0 by omega)
  have hT := getAt_nat bs a0
  generalize getAt bs (a0 : Int) = T at hT
  have HT := Lib.hid hT
  clear hT h0 hneg
  by_cases hbig : bs.length ≤ a0
  · have hb1 : (bs.length : Int) ≤ (a0 : Int) := by omega
    have HN : Hid (T = none) := by
      show T = none
      rw [HT.out, List.drop_eq_nil_of_le hbig, dec_nil]
      rfl
    clear HT
    go_enter Try.func25, Try.ntmps25
    go_wp2
    refine wp_loop_rounds 1 ?_
    rw [rounds_succ]
    go_wp2
    go_ret3
    exact ⟨getV_none HN.out, rfl⟩
  have hs0 : a0 < bs.length := by omega
  clear hbig h1
  go_enter Try.func25, Try.ntmps25
  go_wp2
  go_loop [1, 7, 8] (fun p v i => ∃ (j a n : Nat), p = .int .i64 (a : Int) ∧ v = .int .u64 (n : Int) ∧ i = .int .i64 (j : Int) ∧ j ≤ 10 ∧ a ≤ bs.length ∧ Hid (n < 2 ^ (7 * j)) ∧ Hid (T = (dec (10 - j) (bs.drop a)).map fun p => (n + 2 ^ (7 * j) * p.1, a + p.2))) (fun _ _ i => 10 - (intOf i).toNat)
  case atStart =>
    refine ⟨0, a0, 0, rfl, rfl, rfl, by omega, by omega, (show 0 < 2 ^ (7 * 0) by decide), ?_⟩
    show T = _
    rw [HT.out]
    simp
  case round =>
    obtain ⟨j, a, n, rfl, rfl, rfl, hj, ha, HV, HS⟩ := hrel
    clear HT hs0
    by_cases hj10 : j < 10
    · by_cases hal : a < bs.length
      · obtain ⟨ad, hA, hc⟩ := HR.out.at hal
        subst hA
        obtain ⟨x, hx⟩ : ∃ x, bs.getD a 0 = x := ⟨_, rfl⟩
        rw [hx] at hc
        have HX := Lib.hid hx
        clear hx
        have hi1 : (j : Int) < 10 := by omega
        have hi2 : (a : Int) < (bs.length : Int) := by omega
        by_cases h9 : j = 9 ∧ 1 < x.toNat
        · have HN := Lib.hid (dec_none9 T bs j a n x hal HX.out h9 HS.out)
          obtain ⟨h91, h92⟩ := h9
          have t1 : ((j : Int) == 9) = true := by rw [beq_iff_eq]; omega
          have t2 : (1 : Int) < (x.toNat : Int) := by omega
          clear h91
          go_wp2
          go_ret3
          exact ⟨getV_none HN.out, rfl⟩
        · by_cases hlt : x.toNat < 128
          · have q1 : ((j : Int) == 9) = false ∨ (((j : Int) == 9) = true ∧ (x.toNat : Int) ≤ 1) := by
              by_cases h : j = 9
              · exact .inr ⟨by rw [beq_iff_eq]; omega, by omega⟩
              · exact .inl (by rw [beq_eq_false_iff_ne]; omega)
            have t3 : (x.toNat : Int) < 128 := by omega
            by_cases hz : 0 < j ∧ x.toNat = 0
            · have HN := Lib.hid (dec_none0 T bs j a n x hj10 hal HX.out hz HS.out)
              obtain ⟨hz1, hz2⟩ := hz
              have hz3 : (0 : Int) < (j : Int) := by omega
              have hz4 : ((x.toNat : Int) == 0) = true := by rw [beq_iff_eq]; omega
              clear hz1 hz2 h9
              rcases q1 with q1 | ⟨q1, q2⟩
              all_goals
                go_wp2
                go_ret3
                exact ⟨getV_none HN.out, rfl⟩
            · have HN := Lib.hid (dec_done T bs j a n x hj10 hal HX.out h9 hlt hz HS.out)
              have q2 : (j : Int) ≤ 0 ∨ ((0 : Int) < (j : Int) ∧ ((x.toNat : Int) == 0) = false) := by
                by_cases h : j = 0
                · exact .inl (by omega)
                · exact .inr ⟨by omega, by rw [beq_eq_false_iff_ne]; omega⟩
              clear hz h9
              rcases q1 with q1 | ⟨q1, q11⟩ <;> rcases q2 with q2 | ⟨q2, q22⟩
              all_goals
                go_wp2
                go_ret3
                exact ⟨getV_some HN.out (by rw [or_acc j n x HV.out (by omega) (by first | (intro h; omega) | (intro h; simp [h] at q1)), Nat.mod_eq_of_lt hlt]) (by simp), rfl⟩
          · have HN := Lib.hid (dec_on T bs j a n x hj10 hal HX.out h9 hlt HS.out)
            have hj9 : ((j : Int) == 9) = false := by rw [beq_eq_false_iff_ne]; omega
            have t2 : (128 : Int) ≤ (x.toNat : Int) := by omega
            clear h9
            go_wp2
            go_round
            case rel =>
              have hj8 : j ≤ 8 := by
                rcases Nat.lt_or_ge j 9 with h | h
                · omega
                · have : j = 9 := by omega
                  subst this
                  simp at hj9
              refine ⟨j + 1, a + 1, n + 2 ^ (7 * j) * (x.toNat % 128), by go_num, ?_, by go_num, by omega, by omega, acc_lt j n _ HV.out (by omega), HN.out⟩
              exact vint (or_acc j n x HV.out (by omega) (by intro h; omega))
            case measure => simp [intOf]; omega
      · have hi1 : (j : Int) < 10 := by omega
        have hi2 : (bs.length : Int) ≤ (a : Int) := by omega
        have HN : Hid (T = none) := by
          show T = none
          rw [HS.out, List.drop_eq_nil_of_le (by omega), dec_nil]
          rfl
        go_wp2
        go_ret3
        exact ⟨getV_none HN.out, rfl⟩
    · have hi1 : (10 : Int) ≤ (j : Int) := by omega
      have HN : Hid (T = none) := by
        show T = none
        rw [HS.out, show 10 - j = 0 by omega]
        rfl
      go_wp2
      go_ret3
      exact ⟨getV_none HN.out, rfl⟩
end Go.Proofs.Ytimmemkiilblcaa
