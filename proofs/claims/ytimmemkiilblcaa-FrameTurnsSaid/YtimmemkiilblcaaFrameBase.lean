/- Small words that all walks on frames share. -/
import Derived.Test.YtimmemkiilblcaaSumRef
import Derived.Test.YtimmemkiilblcaaVintPut
import Derived.Test.YtimmemkiilblcaaVintGet
import Derived.Test.YtimmemkiilblcaaRefNum
import Derived.IntWalk
namespace Go.Proofs.Ytimmemkiilblcaa
set_option linter.unusedVariables false
set_option linter.unusedSimpArgs false
open Go.RowKit
theorem strOf_append (a b : List UInt8) : strOf (a ++ b) = strOf a ++ strOf b := by
  apply ByteArray.ext
  simp [strOf]
theorem strOf_size (a : List UInt8) : (strOf a).size = a.length := by simp [strOf, ByteArray.size]
theorem strOf_list (bs : List UInt8) : (strOf bs).toList = bs := by rw [ByteArray.toList_eq]; rfl
theorem own_cap {w : World} {base : Nat} {A : Option Addr} {n c : Nat} {e : TypeId} {xs : List Value} (h : w.ownsRow base e 1 (.slice A n c) n xs) : n ≤ c := by
  rcases h.2 with ⟨h1, h2⟩ | ⟨g, cap, cur, h1, _, _, h2, _⟩
  · omega
  · injection h1 with _ _ h3; omega
theorem wf_i64 {x : Int} (h : (Lit.int .i64 x).wf = true) : -9223372036854775808 ≤ x ∧ x ≤ 9223372036854775807 := by
  simp [Lit.wf, IntKind.min, IntKind.max, IntKind.signed, IntKind.bits] at h
  exact h
theorem wf_u64 {x : Int} (h : (Lit.int .u64 x).wf = true) : ∃ n : Nat, x = (n : Int) ∧ n < 18446744073709551616 := by
  simp [Lit.wf, IntKind.min, IntKind.max, IntKind.signed, IntKind.bits] at h
  exact ⟨x.toNat, by omega, by omega⟩
theorem reader_new {w : World} {A : Option Addr} {bs : List UInt8} (h : ReadsB w A bs) (c : Nat) (i : Int) : RdAt (w.alloc (.cells #[.slice A bs.length c, .int .i64 i, .bool false] 66)) w.heap.size A bs c i false :=
  ⟨Blk.new _ _ _, h.below (below_new _ _)⟩
theorem numPost_below {w w1 w2 : World} {g : Nat} {A : Option Addr} {bs : List UInt8} {c : Nat} {T : Option (Nat × Nat)} (h : NumPost w1 g A bs c T w2) (hb : Below w.heap.size w w1) (hg : w.heap.size ≤ g) : Below w.heap.size w w2 := by
  obtain ⟨i, _, _, h3⟩ := h
  exact hb.grown h3 hb.size (by intro k hk; injection hk with hk; omega)
theorem vget_some (A : Option Addr) (bs : List UInt8) (n c : Nat) (i0 : Int) (v e' : Nat) (w : World) (hn : bs.length = n) (hl : n ≤ 140737488355328) (h0 : -9223372036854775808 ≤ i0) (h1 : i0 ≤ 9223372036854775807) (hr : ReadsB w A bs) (hT : getAt bs i0 = some (v, e')) :
    Calls Try.prog 25 #[.slice A n c, .int .i64 i0] w fun e w' => e = .returned (.tuple #[.int .u64 (v : Int), .int .i64 (e' : Int), .bool true]) ∧ w = w' := by
  subst hn
  refine (vget_any A bs c i0 w hl h0 h1 hr).mono ?_
  rintro e w' ⟨rfl, rfl⟩
  rw [hT]
  exact ⟨rfl, rfl⟩
theorem vget_none (A : Option Addr) (bs : List UInt8) (n c : Nat) (i0 : Int) (w : World) (hn : bs.length = n) (hl : n ≤ 140737488355328) (h0 : -9223372036854775808 ≤ i0) (h1 : i0 ≤ 9223372036854775807) (hr : ReadsB w A bs) (hT : getAt bs i0 = none) :
    Calls Try.prog 25 #[.slice A n c, .int .i64 i0] w fun e w' => e = .returned (.tuple #[.int .u64 0, .int .i64 0, .bool false]) ∧ w = w' := by
  subst hn
  refine (vget_any A bs c i0 w hl h0 h1 hr).mono ?_
  rintro e w' ⟨rfl, rfl⟩
  rw [hT]
  exact ⟨rfl, rfl⟩
theorem string_rule {w : World} {A : Option Addr} {bs : List UInt8} (h : ReadsB w A bs) (n c : Nat) (hn : bs.length = n) :
    ∀ W : World, Below w.heap.size w W → (convert 22 9 (.slice A n c)).run Try.prog W = .ok (.string (strOf bs)) W := by
  intro W hW
  subst hn
  exact string_of (P := Try.prog) (h.below hW) 22 9 5 Try.underlying22 Try.underlying5 Try.underlying9 c
theorem refPut_n (n x : Nat) (w : World) (hn : n < 18446744073709551616) (hx : (enc n).length = x) :
    Calls Try.prog 24 #[.int .u64 (n : Int)] w fun e w' => ∃ A' c', e = .returned (.slice A' x c') ∧ OwnB w' w.heap.size (.slice A' x c') (enc n) ∧ Below w.heap.size w w' := by
  subst hx
  exact refPut_any n w hn
theorem vput_n (A : Option Addr) (bs : List UInt8) (n c v x : Nat) (w : World) (hb : bs.length = n) (hv : v < 18446744073709551616) (hx : n + (enc v).length = x) (hl : n + 10 ≤ 140737488355328) (hc : n ≤ c) (hr : ReadsB w A bs) :
    Calls Try.prog 22 #[.slice A n c, .int .u64 (v : Int)] w fun e w' => ∃ A' c', e = .returned (.slice A' x c') ∧ OwnB w' w.heap.size (.slice A' x c') (bs ++ enc v) ∧ Below w.heap.size w w' := by
  subst hb hx
  exact vput_any A bs c v w hv hl hc hr
theorem sumOf_m (A : Option Addr) (bs : List UInt8) (n c : Nat) (w : World) (hn : bs.length = n) (hl : n ≤ 140737488355328) (hr : ReadsB w A bs) :
    Calls Try.prog 21 #[.slice A n c] w fun e w' => e = .returned (.int .u32 (u32i (Sum bs))) ∧ Below w.heap.size w w' := by
  subst hn
  exact sumOf_any A bs c w (by omega) hr
theorem refOf_m (A : Option Addr) (bs : List UInt8) (n c : Nat) (w : World) (hn : bs.length = n) (hl : n ≤ 140737488355328) (hr : ReadsB w A bs) :
    Calls Try.prog 23 #[.slice A n c] w fun e w' => e = .returned (.int .u32 (u32i (Sum bs))) ∧ Below w.heap.size w w' := by
  subst hn
  exact refOf_any A bs c w (by omega) hr
/-- a cut out of the middle -/
theorem cut_midB {P : Program} (t e : TypeId) (ht : P.underlying t = some (.slice e)) {z : Value} {bytes : Nat} (hinfo : (P.info? e).map (fun i => (i.zero, i.size, i.bytes)) = some (some z, 1, bytes)) (A : Option Addr) (n c l h : Nat) (i j : Int) (hi : i = l) (hj : j = h) (hlh : l ≤ h) (hn : h ≤ n) (hc : n ≤ c) :
    ∃ A' : Option Addr, (∀ W : World, (Instr.slice t (.slice A n c) (some (.int .i64 i)) (some (.int .i64 j)) none).run P W = .ok (.slice A' (h - l) (c - l)) W) ∧
      Hid (∀ (w : World) (bs : List UInt8), bs.length = n → ReadsB w A bs → ReadsB w A' ((bs.drop l).take (h - l))) := by
  subst hi hj
  obtain ⟨ti, hti, hsz⟩ := info_size hinfo
  refine ⟨if c = l then A else A.map (·.add l), fun W => ?_, fun w bs hl hr => ?_⟩
  · have hel : P.elem t = e := by simp [Program.elem, ht]
    have hu : P.underlying t = some (.slice (P.elem t)) := by rw [hel]; exact ht
    rw [run_slice_lh W t A n c hu .i64 .i64 (l : Int) (h : Int) (Int.natCast_nonneg _) (by omega) (by omega), hel]
    simp [sizeOf, typeInfo, hti, hsz, sliced, Result.andThen]
  · exact ReadsB.take (ReadsB.drop hr l c (by omega) (by omega)) _
end Go.Proofs.Ytimmemkiilblcaa
