/- The statements' own start: the document's example. -/
import Derived.Test.YtimmemkiilblcaaFrameEnds
import Derived.Lib.SlBytesConst
namespace Go.Proofs.Ytimmemkiilblcaa
set_option linter.unusedVariables false
set_option linter.unusedSimpArgs false
open Go.RowKit
theorem fput_n (A : Option Addr) (bs : List UInt8) (n c : Nat) (A2 : Option Addr) (body : List UInt8) (m c2 : Nat) (X : List UInt8) (x : Nat) (w : World) (hn : bs.length = n) (hm : body.length = m) (hX : bs ++ frameEnc body = X) (hx : X.length = x) (hl : n ≤ 140737487300000) (hc : n ≤ c) (hr : ReadsB w A bs) (h1 : 1 ≤ m) (h2 : m ≤ 1048576) (hr2 : ReadsB w A2 body) :
    Calls Try.prog 10 #[.slice A n c, .slice A2 m c2] w fun e w' => ∃ A' c', e = .returned (.tuple #[.slice A' x c', .int .i64 0]) ∧ OwnB w' w.heap.size (.slice A' x c') X ∧ x ≤ c' ∧ Below w.heap.size w w' := by
  subst hn hm hX
  refine (fput_any A bs c A2 body c2 x w hx hl hc hr h1 h2 hr2).mono ?_
  rintro e w' ⟨A', c', rfl, ho, hb⟩
  refine ⟨A', c', rfl, ho, ?_, hb⟩
  rw [← hx] at ho ⊢
  exact own_cap ho
theorem fget_at (A : Option Addr) (bs : List UInt8) (n c a : Nat) (w : World) (hn : bs.length = n) (hl : n ≤ 140737488355328) (hc : n ≤ c) (hr : ReadsB w A bs) (B : List UInt8) (e' m : Nat) (h : frameAt bs a = some (B, e')) (hm : B.length = m) :
    Calls Try.prog 14 #[.slice A n c, .int .i64 (a : Int)] w fun e w' => ∃ A' c', e = .returned (.tuple #[.slice A' m c', .int .i64 (e' : Int), .int .i64 0]) ∧ OwnB w' w.heap.size (.slice A' m c') B ∧ Below w.heap.size w w' := by
  subst hn
  exact fget_some A bs c a w hl hc hr B e' m h hm
theorem readsB_nil (w : World) (A : Option Addr) : ReadsB w A [] := fun h => absurd h (by simp [u8s])
def exB : List UInt8 := frameEnc [97]
theorem exB_length : exB.length = 6 := by decide +kernel
theorem exB_head : exB.getD 0 0 = 1 := by decide +kernel
theorem exB_frame : frameAt exB 0 = some ([97], 6) := by decide +kernel
theorem exB_end : endOf (frames exB) = 6 := by decide +kernel
set_option maxRecDepth 100000 in
set_option maxHeartbeats 1600000 in
theorem awake_any (w : World) : Calls Try.prog 12 #[] w fun e w' => e = .returned (.bool true) ∧ Below w.heap.size w w' := by
  obtain ⟨X, hX⟩ : ∃ X, exB = X := ⟨_, rfl⟩
  have HL := Lib.hid exB_length
  have HH := Lib.hid exB_head
  have HF := Lib.hid exB_frame
  have HE := Lib.hid exB_end
  have HX0 : Hid ([] ++ frameEnc [97] = X) := hX
  rw [hX] at HL HH HF HE
  clear hX
  have kc := fun (w : World) (C : Array Value) (n c : Nat) => Lib.run_convert_bytes_const (P := Try.prog) w 22 5 C n c Try.underlying22 Try.underlying5
  go_enter Try.func12, Try.ntmps12
  go_wp2_with fail
  refine (fput_n none [] 0 0 (some ⟨w.heap.size, 0, none⟩) [97] 1 1 X 6 _ rfl rfl HX0.out HL.out (by omega) (by omega) (readsB_nil _ _) (by omega) (by omega) (Reads.lit _ _ _ _ _ rfl)).mono ?_
  rintro e w1 ⟨A1, c1, rfl, ho1, hc1, hb1⟩
  have hb1' : Below w.heap.size w w1 := below_then (below_new w _) hb1
  have HO1 := Lib.hid ho1
  clear ho1 hb1
  have hr1 : Hid (ReadsB w1 A1 X) := HO1.out.reads
  go_wp2_with fail
  refine (fget_at A1 X 6 c1 0 _ HL.out (by omega) hc1 hr1.out [97] 6 1 HF.out rfl).mono ?_
  rintro e w2 ⟨A2, c2, rfl, ho2, hb2⟩
  have hb2' := below_then hb1' hb2
  have hr2 : Hid (ReadsB w2 A1 X) := hr1.out.below hb2
  have HO2 := Lib.hid ho2
  clear ho2
  go_wp2_with fail
  refine (ends_any A1 X 6 c1 _ HL.out (by omega) hc1 hr2.out).mono ?_
  rw [HE.out]
  rintro e w3 ⟨rfl, hb3⟩
  have hb3' := below_then hb2' hb3
  have hs := string_rule (HO2.out.below hb3).reads 1 c2 rfl w3 (Below.refl _ _)
  rw [show strOf [97] = (⟨#[97]⟩ : ByteArray) from rfl] at hs
  obtain ⟨ad, hA, hcell⟩ := (hr2.out.below hb3).at (k := 0) (by rw [HL.out]; omega)
  rw [HH.out] at hcell
  subst hA
  have hcell0 : w3.cell? ad = some (.int .u8 1) := by simpa [Addr.add] using hcell
  clear hcell
  go_wp2
  go_ret
  exact ⟨rfl, hb3'⟩
end Go.Proofs.Ytimmemkiilblcaa
