/- What gauge.Get computes where sixteen bytes follow: the walk. -/
import Derived.Test.YteohmcjclmaanaaGaugeGetW
namespace Go.Proofs.Yteohmcjclmaanaa
set_option linter.unusedVariables false
set_option linter.unusedSimpArgs false
open Go.RowKit
/-- the two numbers behind j of sixteen bytes -/
def lowN (bs : List UInt8) (b j : Nat) : Nat := numN (min j 8) (bs.drop b)
def highN (bs : List UInt8) (b j : Nat) : Nat := numN (j - 8) (bs.drop (b + 8))
def EB (W : World) (g : Nat) (bs : List UInt8) (b j : Nat) : Prop := Blk W g 58 #[.int .u64 (lowN bs b j : Int), .int .u64 (highN bs b j : Int)]
theorem or_num (k v : Nat) (x : UInt8) (hv : v < 2 ^ (8 * k)) (hk : k < 8) : bits .or .u64 (v : Int) (IntKind.u64.wrap ((x.toNat : Int) * 2 ^ (8 * k))) = ((v + x.toNat * 2 ^ (8 * k) : Nat) : Int) := by
  have hx := x.toNat_lt
  have h1 : 2 ^ (8 * k) ≤ 2 ^ 56 := Nat.pow_le_pow_right (by decide) (by omega)
  have h2 : x.toNat * 2 ^ (8 * k) ≤ 255 * 2 ^ 56 := Nat.mul_le_mul (by omega) h1
  have e : (x.toNat : Int) * 2 ^ (8 * k) = ((x.toNat * 2 ^ (8 * k) : Nat) : Int) := by simp
  have hw : IntKind.u64.wrap ((x.toNat * 2 ^ (8 * k) : Nat) : Int) = ((x.toNat * 2 ^ (8 * k) : Nat) : Int) := by
    rw [IntKind.wrap_u64]
    generalize x.toNat * 2 ^ (8 * k) = z at h2
    omega
  rw [e, hw, bits_or_u64 _ _ (by omega) (by omega), Nat.mul_comm, Nat.add_comm, Nat.two_pow_add_eq_or_of_lt hv, Nat.or_comm]
/-- the cell that the next byte goes to -/
theorem EB.at {W : World} {g : Nat} {bs : List UInt8} {b j : Nat} (h : EB W g bs b j) (hj : j < 16) : ∃ v : Nat, W.cell? ⟨g, j / 8, none⟩ = some (.int .u64 (v : Int)) ∧ v < 2 ^ (8 * (j % 8)) ∧
    ∀ x : UInt8, bs.getD (b + j) 0 = x → EB (W.setCell ⟨g, j / 8, none⟩ (.int .u64 ((v + x.toNat * 2 ^ (8 * (j % 8)) : Nat) : Int))) g bs b (j + 1) := by
  by_cases h8 : j < 8
  · have e0 : j / 8 = 0 := by omega
    have e1 : j % 8 = j := by omega
    refine ⟨lowN bs b j, by rw [e0, Blk.cell h]; rfl, ?_, fun x hx => ?_⟩
    · rw [e1, lowN, show min j 8 = j by omega]; exact numN_lt _ _
    · have hs := Blk.set_ h 0 (.int .u64 ((lowN bs b j + x.toNat * 2 ^ (8 * (j % 8)) : Nat) : Int))
      rw [e0]
      have e2 : lowN bs b (j + 1) = lowN bs b j + x.toNat * 2 ^ (8 * (j % 8)) := by
        rw [lowN, lowN, show min (j + 1) 8 = j + 1 by omega, show min j 8 = j by omega, numN, e1, ← hx]
        congr 3
        simp [List.getD_eq_getElem?_getD]
      have e3 : highN bs b (j + 1) = highN bs b j := by rw [highN, highN, show j + 1 - 8 = 0 by omega, show j - 8 = 0 by omega]
      unfold EB
      rw [e2, e3]
      exact hs
  · have e0 : j / 8 = 1 := by omega
    have e1 : j % 8 = j - 8 := by omega
    refine ⟨highN bs b j, by rw [e0, Blk.cell h]; rfl, ?_, fun x hx => ?_⟩
    · rw [e1, highN]; exact numN_lt _ _
    · have hs := Blk.set_ h 1 (.int .u64 ((highN bs b j + x.toNat * 2 ^ (8 * (j % 8)) : Nat) : Int))
      rw [e0]
      have e2 : highN bs b (j + 1) = highN bs b j + x.toNat * 2 ^ (8 * (j % 8)) := by
        rw [highN, highN, show j + 1 - 8 = (j - 8) + 1 by omega, numN, e1, ← hx]
        congr 3
        simp [List.getD_eq_getElem?_getD]
        congr 2
        omega
      have e3 : lowN bs b (j + 1) = lowN bs b j := by rw [lowN, lowN, show min (j + 1) 8 = 8 by omega, show min j 8 = 8 by omega]
      unfold EB
      rw [e2, e3]
      exact hs
theorem EB.all {W : World} {g : Nat} {bs : List UInt8} {b : Nat} (h : EB W g bs b 16) : Blk W g 58 #[.int .u64 (numN 8 (bs.drop b) : Int), .int .u64 (numN 8 (bs.drop (b + 8)) : Int)] := h
set_option maxRecDepth 100000 in
set_option maxHeartbeats 3200000 in
theorem gget_full (A : Option Addr) (bs : List UInt8) (n c m a k b : Nat) (i0 : Int) (ok : Bool) (w : World) (hn : bs.length = n) (hl : n ≤ 140737488355328) (h0 : -9223372036854775808 ≤ i0) (h1 : i0 ≤ 9223372036854775807) (hr : ReadsB w A bs) (hT : getAt bs i0 = some (m, a)) (hT2 : getAt bs (a : Int) = some (k, b)) (hk : k ≠ 0) (hs : ¬ n < b + 16)
    (hck : checkG ⟨k, m, numN 8 (bs.drop b), numN 8 (bs.drop (b + 8))⟩ = ok) :
    Calls Try.prog 26 #[.slice A n c, .int .i64 i0] w fun e w' => e = .returned (if ok = true then .tuple #[.agg #[.int .u64 (k : Int), .int .u64 (m : Int), .int .u64 (numN 8 (bs.drop b) : Int), .int .u64 (numN 8 (bs.drop (b + 8)) : Int)], .int .i64 ((b + 16 : Nat) : Int), .bool true] else .tuple #[.agg #[.int .u64 0, .int .u64 0, .int .u64 0, .int .u64 0], .int .i64 0, .bool false]) ∧ Below w.heap.size w w' := by
  obtain ⟨k1, k2, k3, k4, _⟩ := getAt_bounds hT
  obtain ⟨_, _, k7, k8, _⟩ := getAt_bounds hT2
  rw [hn] at k3 k7
  obtain ⟨lo, hlo⟩ : ∃ lo, numN 8 (bs.drop b) = lo := ⟨_, rfl⟩
  obtain ⟨hi, hhi⟩ : ∃ hi, numN 8 (bs.drop (b + 8)) = hi := ⟨_, rfl⟩
  have hlo1 : lo < 18446744073709551616 := by rw [← hlo]; exact numN_lt 8 _
  have hhi1 : hi < 18446744073709551616 := by rw [← hhi]; exact numN_lt 8 _
  rw [hlo, hhi] at hck ⊢
  have HC := Lib.hid (check_at (c := ok) (an := k) (am := m) (al := lo) (ah := hi) ⟨k8, k4, hlo1, hhi1⟩ hck)
  have HR := Lib.hid hr
  have HN := Lib.hid hn
  have HT := Lib.hid hT
  have HT2 := Lib.hid hT2
  have HLO := Lib.hid hlo
  have HHI := Lib.hid hhi
  have q1 : (0 : Int) < (k : Int) := by omega
  have q2 : (16 : Int) ≤ (n : Int) - (b : Int) := by omega
  clear hr hn hT hT2 k1 k2 hck hlo hhi
  go_enter Try.func26, Try.ntmps26
  go_wp2_with fail
  refine (vget_some A bs n c i0 m a _ HN.out hl h0 h1 (HR.out.below (below_new _ _)) HT.out).mono ?_
  rintro e w1 ⟨rfl, rfl⟩
  go_wp2_with fail
  refine (vget_some A bs n c (a : Int) k b _ HN.out hl (by omega) (by omega) (HR.out.below (below_new _ _)) HT2.out).mono ?_
  rintro e w1 ⟨rfl, rfl⟩
  go_wp2
  obtain ⟨w2, hw2⟩ : ∃ w2, (w.alloc (.cells #[.int .u64 0, .int .u64 0, .int .u64 0, .int .u64 0] 24)).alloc (.cells #[.int .u64 0, .int .u64 0] 58) = w2 := ⟨_, rfl⟩
  have hR : Blk w2 w.heap.size 24 #[.int .u64 0, .int .u64 0, .int .u64 0, .int .u64 0] := by rw [← hw2]; exact (Blk.new _ _ _).alloc _
  have hE : EB w2 (w.heap.size + 1) bs b 0 := by rw [← hw2]; exact blk_here (by simp)
  have hB2 : Below w.heap.size w w2 := by rw [← hw2]; exact (below_new _ _).alloc (by simp) _
  have hsz2 : w2.heap.size = w.heap.size + 1 + 1 := by rw [← hw2]; simp
  rw [hw2]
  have HR2 := Lib.hid hR
  have HE2 := Lib.hid hE
  have HB2 := Lib.hid hB2
  clear hw2 hR hE hB2
  go_loopw [42] (fun i wr => ∃ j : Nat, i = .int .i64 (j : Int) ∧ j ≤ 16 ∧ wr.heap.size = w2.heap.size ∧ Hid (EB wr (w.heap.size + 1) bs b j) ∧ Hid (Blk wr w.heap.size 24 #[.int .u64 0, .int .u64 0, .int .u64 0, .int .u64 0]) ∧ Hid (Below w.heap.size w wr)) (fun i _ => 16 - (intOf i).toNat)
  case atStart => exact ⟨0, rfl, by omega, rfl, HE2.out, HR2.out, HB2.out⟩
  case round =>
    obtain ⟨j, rfl, hj, hsz, HE, HRR, HW⟩ := hrel
    by_cases hj16 : j < 16
    · have i1 : (j : Int) < 16 := by omega
      obtain ⟨ad, hA, hc⟩ := (HR.out.below HW.out).at (k := b + j) (by rw [HN.out]; omega)
      subst hA
      obtain ⟨x, hx⟩ : ∃ x, bs.getD (b + j) 0 = x := ⟨_, rfl⟩
      rw [hx] at hc
      obtain ⟨v, hv1, hv2, hv3⟩ := HE.out.at hj16
      have HV2 := Lib.hid hv2
      have HV3 := Lib.hid (hv3 x hx)
      have f0 := HE.out.frozen (j / 8)
      have i2 : (b : Int) + (j : Int) < (n : Int) := by omega
      clear hx hv2 hv3
      go_wp2_with fail
      go_region
      all_goals
        go_wp2
        go_roundw
        case rel =>
          have hv : bits .or .u64 (v : Int) (IntKind.u64.wrap (IntKind.u64.wrap (x.toNat : Int) * 2 ^ (8 * (j % 8)))) = ((v + x.toNat * 2 ^ (8 * (j % 8)) : Nat) : Int) := by
            rw [show IntKind.u64.wrap (x.toNat : Int) = (x.toNat : Int) by rw [IntKind.wrap_u64]; have := x.toNat_lt; omega]
            exact or_num (j % 8) v x HV2.out (by omega)
          rw [hv]
          have hne : w.heap.size ≠ w.heap.size + 1 := by omega
          refine ⟨j + 1, by go_num, by omega, by simpa using hsz, HV3.out, ?_, ?_⟩
          · exact Blk.drew (Blk.far (p := ⟨w.heap.size + 1, j / 8, none⟩) HRR.out hne _)
          · exact (HW.out.setCell (p := ⟨w.heap.size + 1, j / 8, none⟩) (Nat.le_succ _) _).drew
        case measure => simp [intOf]; omega
    · have i1 : (16 : Int) ≤ (j : Int) := by omega
      obtain rfl : j = 16 := by omega
      have he := HE.out.all
      rw [HLO.out, HHI.out] at he
      have e0 : wr.cell? ⟨w.heap.size + 1, 0, none⟩ = some (.int .u64 (lo : Int)) := by rw [he.cell]; rfl
      have e1 : wr.cell? ⟨w.heap.size + 1, 1, none⟩ = some (.int .u64 (hi : Int)) := by rw [he.cell]; rfl
      have i3 : (b : Int) + 16 ≤ 140737488355328 := by omega
      clear he hj hj16 i1 hsz hsz2 hlo1 hhi1 hk hs k4 k8
      go_wp2_with fail
      have hG : Blk (wr.alloc (.cells #[.int .u64 (k : Int), .int .u64 (m : Int), .int .u64 (lo : Int), .int .u64 (hi : Int)] 24)) wr.heap.size 24 #[.int .u64 (k : Int), .int .u64 (m : Int), .int .u64 (lo : Int), .int .u64 (hi : Int)] := Blk.new _ _ _
      have hR : Blk (wr.alloc (.cells #[.int .u64 (k : Int), .int .u64 (m : Int), .int .u64 (lo : Int), .int .u64 (hi : Int)] 24)) w.heap.size 24 #[.int .u64 0, .int .u64 0, .int .u64 0, .int .u64 0] := HRR.out.alloc _
      have hB := HW.out.alloc HW.out.size (.cells #[.int .u64 (k : Int), .int .u64 (m : Int), .int .u64 (lo : Int), .int .u64 (hi : Int)] 24)
      refine (HC.out _).mono ?_
      rintro e w4 ⟨rfl, hb4⟩
      have hR2 := hR.below hb4
      have hb5 := below_then hB hb4
      obtain ⟨p0, p1, p2, p3⟩ := blk4_cells (hG.below hb4)
      have f0 := hR2.frozen 0
      have f1 := hR2.frozen 1
      have f2 := hR2.frozen 2
      have f3 := hR2.frozen 3
      obtain ⟨r0, r1, r2, r3⟩ := blk4_cells hR2
      have HR4 := Lib.hid hR2
      clear hR hG hB hb4 hR2
      rcases ok with _ | _
      · clear p0 p1 p2 p3 i3 q1 q2 e0 e1 h0 h1
        go_wp2
        obtain ⟨q0, q1, q2, q3⟩ := blk4_cells (blk4 HR4.out (.int .u64 0) (.int .u64 0) (.int .u64 0) (.int .u64 0))
        simp only [set4v] at q0 q1 q2 q3
        exact bodyPost_ret (v := .tuple #[.agg #[.int .u64 0, .int .u64 0, .int .u64 0, .int .u64 0], .int .i64 0, .bool false]) (by simp [results, Try.results26, go_sem, q0, q1, q2, q3]) rfl ⟨rfl, below_set4v hb5 (Nat.le_refl _) _ _ _ _⟩
      · go_wp2
        obtain ⟨q0, q1, q2, q3⟩ := blk4_cells (blk4 HR4.out (.int .u64 (k : Int)) (.int .u64 (m : Int)) (.int .u64 (lo : Int)) (.int .u64 (hi : Int)))
        simp only [set4v] at q0 q1 q2 q3
        exact bodyPost_ret (v := .tuple #[.agg #[.int .u64 (k : Int), .int .u64 (m : Int), .int .u64 (lo : Int), .int .u64 (hi : Int)], .int .i64 ((b : Int) + 16), .bool true]) (by simp [results, Try.results26, go_sem, q0, q1, q2, q3]) rfl ⟨by simp, below_set4v hb5 (Nat.le_refl _) _ _ _ _⟩
end Go.Proofs.Yteohmcjclmaanaa
