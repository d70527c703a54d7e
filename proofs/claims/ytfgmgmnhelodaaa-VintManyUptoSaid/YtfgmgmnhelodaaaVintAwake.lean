/- The statements' own start: the document's examples. -/
import Derived.Test.YtfgmgmnhelodaaaVintMore
import Derived.Test.YtfgmgmnhelodaaaVintGet
namespace Go.Proofs.Ytfgmgmnhelodaaa
set_option linter.unusedVariables false
set_option linter.unusedSimpArgs false
open Go.RowKit
theorem vget_some (A : Option Addr) (bs : List UInt8) (n c : Nat) (i0 : Int) (v e' : Nat) (w : World) (hn : bs.length = n) (hl : n ≤ 140737488355328) (h0 : -9223372036854775808 ≤ i0) (h1 : i0 ≤ 9223372036854775807) (hr : ReadsB w A bs) (hT : getAt bs i0 = some (v, e')) :
    Calls Try.prog 14 #[.slice A n c, .int .i64 i0] w fun e w' => e = .returned (.tuple #[.int .u64 (v : Int), .int .i64 (e' : Int), .bool true]) ∧ w = w' := by
  subst hn
  refine (vget_any A bs c i0 w hl h0 h1 hr).mono ?_
  rintro e w' ⟨rfl, rfl⟩
  rw [hT]
  exact ⟨rfl, rfl⟩
theorem vget_none (A : Option Addr) (bs : List UInt8) (n c : Nat) (i0 : Int) (w : World) (hn : bs.length = n) (hl : n ≤ 140737488355328) (h0 : -9223372036854775808 ≤ i0) (h1 : i0 ≤ 9223372036854775807) (hr : ReadsB w A bs) (hT : getAt bs i0 = none) :
    Calls Try.prog 14 #[.slice A n c, .int .i64 i0] w fun e w' => e = .returned (.tuple #[.int .u64 0, .int .i64 0, .bool false]) ∧ w = w' := by
  subst hn
  refine (vget_any A bs c i0 w hl h0 h1 hr).mono ?_
  rintro e w' ⟨rfl, rfl⟩
  rw [hT]
  exact ⟨rfl, rfl⟩
theorem enc128 : enc 128 = [128, 1] := by rw [enc_large (by decide), enc_small (by decide)]; rfl
theorem rise569 : encRise [5, 6, 9] = [3, 5, 0, 2] := by
  unfold encRise
  have : deltas 0 [5, 6, 9] = [5, 0, 2] := by decide
  rw [this]
  simp only [encAll, List.length_cons, List.length_nil]
  rw [enc_small (by decide), enc_small (by decide), enc_small (by decide), enc_small (by decide)]
  rfl
theorem text_a : encText [97] = [1, 97] := by
  unfold encText
  rw [enc_small (by decide)]
  rfl
theorem get1280 : getAt [128, 0] 0 = none := rfl
set_option maxRecDepth 100000 in
set_option maxHeartbeats 800000 in
theorem vawake_any (w : World) :
    Calls Try.prog 17 #[] w fun e w' => e = .returned (.bool true) ∧ Below w.heap.size w w' := by
  go_enter Try.func17, Try.ntmps17
  go_wp2_with fail
  refine (vget_none _ [128, 0] 2 2 0 _ rfl (by decide) (by decide) (by decide) (Reads.lit _ _ _ _ _ rfl) get1280).mono ?_
  rintro e w1 ⟨rfl, rfl⟩
  go_wp2_with fail
  refine (vput_any _ [] 0 128 _ (by decide) (by decide) (Nat.le_refl _) (Reads.nil _ _)).mono ?_
  rintro e w2 ⟨A2, c2, rfl, hown2, hb2⟩
  have hs2 := string_of (P := Try.prog) hown2.reads 23 9 5 Try.underlying23 Try.underlying5 Try.underlying9 c2
  have hbb2 := below_then (below_new _ _) hb2
  rw [enc128] at hs2 ⊢
  have hs2' : (convert 23 9 (.slice A2 2 c2)).run Try.prog w2 = .ok (.string ⟨#[128, 1]⟩) w2 := hs2
  clear hs2 hown2 hb2
  go_wp2_with fail
  refine (vputRise_any _ [] 0 _ [5, 6, 9] 3 _ (by decide) (Nat.le_refl _) (Reads.nil _ _) (Reads.lit _ _ _ _ _ rfl) (by decide)).mono ?_
  rintro e w3 ⟨A3, c3, rfl, hown3, hb3⟩
  have hs3 := string_of (P := Try.prog) hown3.reads 23 9 5 Try.underlying23 Try.underlying5 Try.underlying9 c3
  have hbb3 := below_then hbb2 (below_then (below_new _ _) hb3)
  rw [rise569] at hs3 ⊢
  have hs3' : (convert 23 9 (.slice A3 4 c3)).run Try.prog w3 = .ok (.string ⟨#[3, 5, 0, 2]⟩) w3 := hs3
  clear hs3 hown3 hb3 hs2'
  go_wp2_with fail
  refine (vputText_any _ [] 0 ⟨#[97]⟩ _ (by decide) (Nat.le_refl _) (Reads.nil _ _)).mono ?_
  rintro e w4 ⟨A4, c4, rfl, hown4, hb4⟩
  have hs4 := string_of (P := Try.prog) hown4.reads 23 9 5 Try.underlying23 Try.underlying5 Try.underlying9 c4
  have hbb4 := below_then hbb3 hb4
  have et : encText (ByteArray.mk #[97]).data.toList = [1, 97] := text_a
  rw [et] at hs4 ⊢
  have hs4' : (convert 23 9 (.slice A4 2 c4)).run Try.prog w4 = .ok (.string ⟨#[1, 97]⟩) w4 := hs4
  clear hs4 hown4 hb4 hs3'
  go_wp2
  go_ret
  exact ⟨rfl, hbb4⟩
end Go.Proofs.Ytfgmgmnhelodaaa
