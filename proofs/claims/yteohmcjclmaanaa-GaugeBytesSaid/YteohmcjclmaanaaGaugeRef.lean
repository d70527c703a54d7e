/- gauge.Get whole; the reference's bytes of a gauge: the walks. -/
import Derived.Test.YteohmcjclmaanaaGaugeGetX
import Derived.Deep.RegionHeld3
namespace Go.Proofs.Yteohmcjclmaanaa
set_option linter.unusedVariables false
set_option linter.unusedSimpArgs false
open Go.RowKit
def getGV : Option (G4 × Nat) → Value
  | none => .tuple #[.agg #[.int .u64 0, .int .u64 0, .int .u64 0, .int .u64 0], .int .i64 0, .bool false]
  | some p => .tuple #[.agg #[.int .u64 (p.1.n : Int), .int .u64 (p.1.nans : Int), .int .u64 (p.1.lo : Int), .int .u64 (p.1.hi : Int)], .int .i64 (p.2 : Int), .bool true]
theorem gget_any (A : Option Addr) (bs : List UInt8) (n c : Nat) (i0 : Int) (T : Option (G4 × Nat)) (w : World) (hn : bs.length = n) (hl : n ≤ 140737488355312) (h0 : -9223372036854775808 ≤ i0) (h1 : i0 ≤ 9223372036854775807) (hr : ReadsB w A bs) (hT : getG bs i0 = T) :
    Calls Try.prog 26 #[.slice A n c, .int .i64 i0] w fun e w' => e = .returned (getGV T) ∧ Below w.heap.size w w' := by
  subst hT
  rcases e1 : getAt bs i0 with _ | ⟨m, a⟩
  · rw [getG_none1 e1]
    exact gget_none A bs n c i0 w hn (by omega) h0 h1 hr e1
  rcases e2 : getAt bs (a : Int) with _ | ⟨k, b⟩
  · rw [getG_none2 e1 e2]
    exact gget_none2 A bs n c m a i0 w hn (by omega) h0 h1 hr e1 e2
  by_cases hk : k = 0
  · subst hk
    rw [getG_zero e1 e2]
    exact gget_zero A bs n c m a b i0 w hn (by omega) h0 h1 hr e1 e2
  by_cases hs : n < b + 16
  · rw [getG_short e1 e2 hk (by omega)]
    exact gget_short A bs n c m a k b i0 w hn (by omega) h0 h1 hr e1 e2 hk hs
  rcases hck : checkG ⟨k, m, numN 8 (bs.drop b), numN 8 (bs.drop (b + 8))⟩ with _ | _
  · rw [getG_bad e1 e2 hk (by omega) hck]
    refine (gget_full A bs n c m a k b i0 false w hn (by omega) h0 h1 hr e1 e2 hk hs hck).mono ?_
    rintro e w' ⟨rfl, hb⟩
    exact ⟨rfl, hb⟩
  · rw [getG_good e1 e2 hk (by omega) hck]
    refine (gget_full A bs n c m a k b i0 true w hn (by omega) h0 h1 hr e1 e2 hk hs hck).mono ?_
    rintro e w' ⟨rfl, hb⟩
    exact ⟨rfl, hb⟩
set_option maxRecDepth 100000 in
set_option maxHeartbeats 1600000 in
theorem eight_any (v : Nat) (w : World) (hv : v < 18446744073709551616) :
    Calls Try.prog 40 #[.int .u64 (v : Int)] w fun e w' => ∃ A' c', e = .returned (.slice A' 8 c') ∧ OwnB w' w.heap.size (.slice A' 8 c') (leN 8 v) ∧ Below w.heap.size w w' := by
  have vi : (v : Int) ≤ 18446744073709551615 := by omega
  clear hv
  go_enter Try.func40, Try.ntmps40
  go_wp2
  go_loopw [3, 4] (fun b i wr => ∃ (j : Nat) (A7 : Option Addr) (c7 : Nat), b = .slice A7 j c7 ∧ i = .int .i64 (j : Int) ∧ j ≤ 8 ∧ Hid (OwnB wr w.heap.size (.slice A7 j c7) (leN j v)) ∧ Hid (Below w.heap.size w wr)) (fun _ i _ => 8 - (intOf i).toNat)
  case atStart => exact ⟨0, none, 0, rfl, rfl, by omega, OwnB.nil _ _, Below.refl _ _⟩
  case round =>
    obtain ⟨j, A7, c7, rfl, rfl, hj, HO, HW⟩ := hrel
    by_cases hj8 : j < 8
    · have i1 : (j : Int) < 8 := by omega
      have hbase : w.heap.size ≤ wr.heap.size := HW.out.size
      go_wp2_with (at_builtin; refine wpList_append_full w.heap.size rfl _ _ 42 5 _ 1 rfl Try.underlying42 binfo rfl (by omega) (.slice A7 j c7) (u8s (leN j v)) _ rfl rfl rfl HO.out.full hbase (by rw [u8s_length, leN_length]; omega) ?_; intro v1 w1 hown hbl hg; (obtain ⟨A8, c8, hv8⟩ := own_slice hown); subst hv8)
      go_roundw
      case rel =>
        rw [byte_shr, u8s_snoc, u8s_length, ← leN_succ] at hown
        have hlen : (leN (j + 1) v).length = j + 1 := leN_length _ _
        have h2 := ownB_up hown rfl
        refine ⟨j + 1, A8, c8, ?_, by go_num, by omega, ?_, HW.out.trans hbl⟩
        · rw [u8s_length, leN_length]
        · rw [hlen] at h2
          exact h2
      case measure => simp [intOf]; omega
    · have i1 : (8 : Int) ≤ (j : Int) := by omega
      obtain rfl : j = 8 := by omega
      clear hj8 i1
      go_wp2
      go_ret
      exact ⟨A7, c7, rfl, HO.out, HW.out⟩
end Go.Proofs.Yteohmcjclmaanaa
