/- The statements' laid: the walk. -/
import Derived.Test.YtimmemkiilblcaaFrameLaid
namespace Go.Proofs.Ytimmemkiilblcaa
set_option linter.unusedVariables false
set_option linter.unusedSimpArgs false
open Go.RowKit
def endsV (l : List (List UInt8)) : List Value := (rowF 0 l).map fun p => .int .i64 (p.2.2 : Int)
theorem rowF_snoc (l : List (List UInt8)) (b : List UInt8) : ∀ a, rowF a (l ++ [b]) = rowF a l ++ [(a + (catF l).length, b, a + (catF (l ++ [b])).length)] := by
  induction l with
  | nil => intro a; simp [rowF, catF]
  | cons x r ih =>
    intro a
    simp only [List.cons_append, rowF, ih, catF, List.length_append]
    simp only [List.cons.injEq, true_and, List.append_cancel_left_eq, Prod.mk.injEq, and_true]
    omega
theorem endsV_snoc (l : List (List UInt8)) (b : List UInt8) : endsV (l ++ [b]) = endsV l ++ [.int .i64 ((catF (l ++ [b])).length : Int)] := by
  simp [endsV, rowF_snoc]
theorem catF_snoc (l : List (List UInt8)) (b : List UInt8) : catF (l ++ [b]) = catF l ++ frameEnc b := by simp [catF_append, catF]
theorem rowF_length (l : List (List UInt8)) : ∀ a, (rowF a l).length = l.length := by
  induction l with
  | nil => intro a; rfl
  | cons x r ih => intro a; simp [rowF, ih]
theorem kept_bound (ss : List ByteArray) (k : Nat) : (catF (kept ss k)).length ≤ 2014 * (kept ss k).length := by
  have hf := kept_fits ss k
  have hb : ∀ b ∈ kept ss k, b.length ≤ 2000 := by
    intro b hb
    simp only [kept, List.mem_map, List.mem_filter, decide_eq_true_eq] at hb
    obtain ⟨s, ⟨_, _, h2⟩, rfl⟩ := hb
    rw [Array.length_toList]
    exact h2
  generalize kept ss k = l at hb
  induction l with
  | nil => simp [catF]
  | cons x r ih =>
    have h1 := hb x (by simp)
    have h2 := enc_le10 (v := x.length) (by omega)
    have h3 := ih (fun b hb' => hb b (by simp [hb']))
    rw [catF, List.length_append, frameEnc_length, List.length_cons]
    omega
theorem kept_le (ss : List ByteArray) (k : Nat) : (kept ss k).length ≤ k := by
  unfold kept
  rw [List.length_map]
  exact Nat.le_trans (List.length_filter_le _ _) (by rw [List.length_take]; omega)
set_option maxRecDepth 100000 in
set_option maxHeartbeats 3200000 in
theorem laid_any (A : Option Addr) (ss : List ByteArray) (c : Nat) (w : World) (hc : ss.length ≤ c) (hb : c ≤ 8796093022208) (hr : ReadsS w A ss) :
    Calls Try.prog 20 #[.slice A ss.length c] w fun e w' => ∃ A1 c1 A2 c2, e = .returned (.tuple #[.slice A1 (catF (kept ss 20)).length c1, .slice A2 (kept ss 20).length c2, .bool true]) ∧ OwnB w' w.heap.size (.slice A1 (catF (kept ss 20)).length c1) (catF (kept ss 20)) ∧ w'.ownsRow w.heap.size 3 1 (.slice A2 (kept ss 20).length c2) (kept ss 20).length (endsV (kept ss 20)) ∧ Below w.heap.size w w' := by
  have HR := Lib.hid hr
  clear hr
  have kc := fun (w : World) (s : ByteArray) => Lib.run_convert_string_bytes (P := Try.prog) w 9 22 5 s Try.underlying9 Try.underlying22 Try.underlying5
  go_enter Try.func20, Try.ntmps20
  go_wp2
  go_loopw [5, 6, 7] (fun b ends i wr => ∃ (k x m : Nat) (A1 : Option Addr) (c1 : Nat) (A2 : Option Addr) (c2 : Nat), i = .int .i64 (k : Int) ∧ k ≤ 20 ∧ k ≤ ss.length ∧ b = .slice A1 x c1 ∧ ends = .slice A2 m c2 ∧ x ≤ c1 ∧ Hid ((catF (kept ss k)).length = x) ∧ Hid ((kept ss k).length = m) ∧ Hid (OwnB wr w.heap.size (.slice A1 x c1) (catF (kept ss k))) ∧ Hid (wr.ownsRow w.heap.size 3 1 (.slice A2 m c2) m (endsV (kept ss k))) ∧ Hid (Below w.heap.size w wr)) (fun _ _ i _ => 20 - (intOf i).toNat)
  case atStart => exact ⟨0, 0, 0, none, 0, none, 0, rfl, by omega, by omega, rfl, rfl, by omega, rfl, rfl, OwnB.nil _ _, World.ownsRow_nil _ _ _ _, Below.refl _ _⟩
  case round =>
    obtain ⟨k, x, m, A1, c1, A2, c2, rfl, hk, hkl, rfl, rfl, hxc, HX, HM, HB, HE, HW⟩ := hrel
    by_cases hin : k < 20 ∧ k < ss.length
    · obtain ⟨i1, i2⟩ := hin
      obtain ⟨ad, hA, hcell⟩ := (HR.out.below HW.out).at i2
      subst hA
      obtain ⟨s, hs⟩ : ∃ s, ss.getD k ByteArray.empty = s := ⟨_, rfl⟩
      rw [hs] at hcell
      have HS := Lib.hid hs
      have q1 : (k : Int) < 20 := by omega
      have q2 : (k : Int) < (ss.length : Int) := by omega
      clear hs
      by_cases hsz : 1 ≤ s.size ∧ s.size ≤ 2000
      · have HO := Lib.hid (kept_in i2 (by rw [HS.out]; exact hsz))
        rw [HS.out] at HO
        obtain ⟨X, hX⟩ : ∃ X, catF (kept ss (k + 1)) = X := ⟨_, rfl⟩
        obtain ⟨y, hy⟩ : ∃ y, X.length = y := ⟨_, rfl⟩
        have HXX : Hid (catF (kept ss k) ++ frameEnc s.data.toList = X) := by
          show _ = _
          rw [← hX, HO.out, catF_snoc]
        have HN := Lib.hid hX
        have HY := Lib.hid hy
        have hxb : x ≤ 40280 := by
          have h1 := kept_bound ss k
          have h2 := kept_le ss k
          rw [HX.out] at h1
          omega
        have h1 : (1 : Int) ≤ (s.size : Int) := by omega
        have h2 : (s.size : Int) ≤ 2000 := by omega
        have HSZ := Lib.hid hsz
        clear hsz hX hy
        go_wp2_with fail
        refine (fput_n A1 (catF (kept ss k)) x c1 (some ⟨wr.heap.size, 0, none⟩) s.data.toList s.size _ X y _ HX.out (by rw [Array.length_toList]; rfl) HXX.out HY.out (by omega) hxc (ReadsB.below HB.out.reads (bytes_below wr s)) (by omega) (by omega) (bytes_reads wr s)).mono ?_
        rintro e w1 ⟨A3, c3, rfl, ho, hyc, hb1⟩
        have hW1 : Below w.heap.size w w1 := below_then (below_then HW.out (bytes_below wr s)) hb1
        have HB1 : Hid (OwnB w1 w.heap.size (.slice A3 y c3) X) := ho.mono (below_then HW.out (bytes_below wr s)).size
        have HE1 := Lib.hid (own_below (own_below HE.out (bytes_below wr s)) hb1)
        have hm20 : m ≤ 20 := by have := kept_le ss k; rw [HM.out] at this; omega
        clear ho hb1
        go_wp2_with (at_builtin; refine wpList_append_any _ rfl _ _ 38 rfl w.heap.size 3 _ 8 Try.underlying38 iinfo rfl (by omega) (.slice A2 m c2) m (endsV (kept ss k)) rfl (HE1.out.alloc _) (some ⟨w1.heap.size, 0, none⟩) 1 1 [.int .i64 (y : Int)] rfl rfl (Reads.lit _ _ _ _ _ rfl) (by simp [Value.oneCell']) (by omega) (by have := hW1.size; simp; omega) ?_; intro v3 w3 hown3 hg3 hat3; (obtain ⟨A4, c4, hv3⟩ := own_slice hown3); subst hv3; have hW3 : Below w.heap.size w w3 := (hW1.alloc hW1.size _).grown hg3 (by have := hW1.size; simp; omega) (fun k hk => own_base HE1.out k hk); have HB3 := Lib.hid (own_alloc_kept (ownB_of HB1.out HY.out) hg3 (rows_apart (ownB_of HB1.out HY.out) HE1.out (by decide))); have HE3 := Lib.hid hown3; clear hown3 hg3 hat3)
        go_roundw
        case rel => exact ⟨k + 1, y, m + 1, A3, c3, A4, c4, by go_num, by omega, by omega, rfl, rfl, hyc, by show _ = _; rw [HN.out]; exact HY.out, by show _ = _; rw [HO.out, List.length_append, HM.out]; rfl, by show OwnB _ _ _ _; rw [HN.out]; unfold OwnB; rw [HY.out]; exact HB3.out, by show World.ownsRow _ _ _ _ _ _ _; rw [HO.out, endsV_snoc, ← HO.out, HN.out, HY.out]; exact HE3.out, hW3⟩
        case measure => simp [intOf]; omega
      · have hcase : (s.size : Int) < 1 ∨ ((1 : Int) ≤ (s.size : Int) ∧ (2000 : Int) < (s.size : Int)) := by omega
        have HO : Hid (kept ss (k + 1) = kept ss k) := kept_out i2 (by rw [HS.out]; exact hsz)
        clear hsz
        rcases hcase with h1 | ⟨h1, h2⟩
        all_goals
          go_wp2
          go_roundw
          case rel => exact ⟨k + 1, x, m, A1, c1, A2, c2, by go_num, by omega, by omega, rfl, rfl, hxc, by show _ = _; rw [HO.out]; exact HX.out, by show _ = _; rw [HO.out]; exact HM.out, by show OwnB _ _ _ _; rw [HO.out]; exact HB.out, by show World.ownsRow _ _ _ _ _ _ _; rw [HO.out]; exact HE.out, HW.out⟩
          case measure => simp [intOf]; omega
    · have HO : Hid (kept ss 20 = kept ss k) := by
        show _ = _
        unfold kept
        by_cases h : k = 20
        · rw [h]
        · rw [List.take_of_length_le (by omega), List.take_of_length_le (by omega)]
      have hcase : (ss.length : Int) ≤ (k : Int) ∨ ((k : Int) < (ss.length : Int) ∧ (20 : Int) ≤ (k : Int)) := by omega
      clear hin
      rcases hcase with h1 | ⟨h1, h2⟩
      all_goals
        go_wp2
        go_ret3
        rw [HO.out, HX.out, HM.out]
        exact ⟨A1, c1, A2, c2, rfl, HB.out, HE.out, HW.out⟩
end Go.Proofs.Ytimmemkiilblcaa
