/- Small words that the walks on a gauge's bytes share. -/
import Derived.Test.YteohmcjclmaanaaGaugeNums
import Derived.Test.YteohmcjclmaanaaVintPut
import Derived.Test.YteohmcjclmaanaaVintGet
import Derived.Test.YteohmcjclmaanaaRefNum
import Derived.IntWalk
namespace Go.Proofs.Yteohmcjclmaanaa
set_option linter.unusedVariables false
set_option linter.unusedSimpArgs false
open Go.RowKit
theorem strOf_append (a b : List UInt8) : strOf (a ++ b) = strOf a ++ strOf b := by
  apply ByteArray.ext
  simp [strOf]
theorem strOf_size (a : List UInt8) : (strOf a).size = a.length := by simp [strOf, ByteArray.size]
theorem own_cap {w : World} {base : Nat} {A : Option Addr} {n c : Nat} {e : TypeId} {xs : List Value} (h : w.ownsRow base e 1 (.slice A n c) n xs) : n ≤ c := by
  rcases h.2 with ⟨h1, h2⟩ | ⟨g, cap, cur, h1, _, _, h2, _⟩
  · omega
  · injection h1 with _ _ h3; omega
theorem reader_new {w : World} {A : Option Addr} {bs : List UInt8} (h : ReadsB w A bs) (c : Nat) (i : Int) : RdAt (w.alloc (.cells #[.slice A bs.length c, .int .i64 i, .bool false] 50)) w.heap.size A bs c i false :=
  ⟨Blk.new _ _ _, h.below (below_new _ _)⟩
theorem numPost_below {w w1 w2 : World} {g : Nat} {A : Option Addr} {bs : List UInt8} {c : Nat} {T : Option (Nat × Nat)} (h : NumPost w1 g A bs c T w2) (hb : Below w.heap.size w w1) (hg : w.heap.size ≤ g) : Below w.heap.size w w2 := by
  obtain ⟨i, _, _, h3⟩ := h
  exact hb.grown h3 hb.size (by intro k hk; injection hk with hk; omega)
theorem vget_some (A : Option Addr) (bs : List UInt8) (n c : Nat) (i0 : Int) (v e' : Nat) (w : World) (hn : bs.length = n) (hl : n ≤ 140737488355328) (h0 : -9223372036854775808 ≤ i0) (h1 : i0 ≤ 9223372036854775807) (hr : ReadsB w A bs) (hT : getAt bs i0 = some (v, e')) :
    Calls Try.prog 38 #[.slice A n c, .int .i64 i0] w fun e w' => e = .returned (.tuple #[.int .u64 (v : Int), .int .i64 (e' : Int), .bool true]) ∧ w = w' := by
  subst hn
  refine (vget_any A bs c i0 w hl h0 h1 hr).mono ?_
  rintro e w' ⟨rfl, rfl⟩
  rw [hT]
  exact ⟨rfl, rfl⟩
theorem vget_none (A : Option Addr) (bs : List UInt8) (n c : Nat) (i0 : Int) (w : World) (hn : bs.length = n) (hl : n ≤ 140737488355328) (h0 : -9223372036854775808 ≤ i0) (h1 : i0 ≤ 9223372036854775807) (hr : ReadsB w A bs) (hT : getAt bs i0 = none) :
    Calls Try.prog 38 #[.slice A n c, .int .i64 i0] w fun e w' => e = .returned (.tuple #[.int .u64 0, .int .i64 0, .bool false]) ∧ w = w' := by
  subst hn
  refine (vget_any A bs c i0 w hl h0 h1 hr).mono ?_
  rintro e w' ⟨rfl, rfl⟩
  rw [hT]
  exact ⟨rfl, rfl⟩
theorem vput_nil (v m : Nat) (w : World) (hv : v < 18446744073709551616) (hm : (enc v).length = m) :
    Calls Try.prog 46 #[.slice none 0 0, .int .u64 (v : Int)] w fun e w' => ∃ A' c', e = .returned (.slice A' m c') ∧ OwnB w' w.heap.size (.slice A' m c') (enc v) ∧ Below w.heap.size w w' := by
  subst hm
  have := vput_any none [] 0 v w hv (by simp) (by simp) (Reads.nil _ _)
  simpa using this
theorem refPut_n (v m : Nat) (w : World) (hv : v < 18446744073709551616) (hm : (enc v).length = m) :
    Calls Try.prog 39 #[.int .u64 (v : Int)] w fun e w' => ∃ A' c', e = .returned (.slice A' m c') ∧ OwnB w' w.heap.size (.slice A' m c') (enc v) ∧ Below w.heap.size w w' := by
  subst hm
  exact refPut_any v w hv
theorem num_none (g : Nat) (A : Option Addr) (bs : List UInt8) (c : Nat) (i0 : Int) (w : World) (hl : bs.length ≤ 140737488355328) (h0 : -9223372036854775808 ≤ i0) (h1 : i0 ≤ 9223372036854775807) (hr : RdAt w g A bs c i0 false) (hT : getAt bs i0 = none) :
    Calls Try.prog 41 #[.pointer (some ⟨g, 0, none⟩)] w fun e w' => e = .returned (.int .u64 0) ∧ NumPost w g A bs c none w' := by
  have := num_any g A bs c i0 w hl h0 h1 hr
  rw [hT] at this
  exact this
theorem num_some (g : Nat) (A : Option Addr) (bs : List UInt8) (c : Nat) (i0 : Int) (v e' : Nat) (w : World) (hl : bs.length ≤ 140737488355328) (h0 : -9223372036854775808 ≤ i0) (h1 : i0 ≤ 9223372036854775807) (hr : RdAt w g A bs c i0 false) (hT : getAt bs i0 = some (v, e')) :
    Calls Try.prog 41 #[.pointer (some ⟨g, 0, none⟩)] w fun e w' => e = .returned (.int .u64 (v : Int)) ∧ NumPost w g A bs c (some (v, e')) w' := by
  have := num_any g A bs c i0 w hl h0 h1 hr
  rw [hT] at this
  exact this
theorem string_rule {w : World} {A : Option Addr} {bs : List UInt8} (h : ReadsB w A bs) (n c : Nat) (hn : bs.length = n) :
    ∀ W : World, Below w.heap.size w W → (convert 42 9 (.slice A n c)).run Try.prog W = .ok (.string (strOf bs)) W := by
  intro W hW
  subst hn
  exact string_of (h.below hW) 42 9 5 Try.underlying42 Try.underlying5 Try.underlying9 c
theorem ownB_of {w : World} {base n : Nat} {v : Value} {bs : List UInt8} (h : OwnB w base v bs) (hn : bs.length = n) : w.ownsRow base 5 1 v n (u8s bs) := by subst hn; exact h
theorem ownB_up {w : World} {base m : Nat} {v : Value} {B : List UInt8} (h : w.ownsRow base 5 1 v m (u8s B)) (hm : B.length = m) : OwnB w base v B := by subst hm; exact h
theorem blk_grown {w w' : World} {k : Nat} {t : TypeId} {cs : Array Value} {row : Option Nat} (h : Blk w k t cs) (hg : w.grownBy w' row) (hne : row ≠ some k) : Blk w' k t cs :=
  (hg.block k (Blk.lt h) (fun he => hne he.symm)).trans h
/-- reading a number where something is wrong already -/
theorem num_bad (g : Nat) (A : Option Addr) (bs : List UInt8) (c : Nat) (i0 : Int) (w : World) (hr : RdAt w g A bs c i0 true) :
    Calls Try.prog 41 #[.pointer (some ⟨g, 0, none⟩)] w fun e w' => e = .returned (.int .u64 0) ∧ NumPost w g A bs c none w' := by
  have c0 := hr.c0
  have c1 := hr.c1
  have c2 := hr.c2
  have f2 := hr.blk.frozen 2
  have HR := Lib.hid hr
  clear hr
  go_enter Try.func41, Try.ntmps41
  go_wp2
  refine wp_loop_rounds 1 ?_
  rw [rounds_succ]
  go_wp2_with fail
  go_quiet (fail)
  go_wp2
  go_ret
  exact ⟨rfl, numPost_bad rfl (HR.out.drewN _) (only_drewN (World.grownBy.refl _ _) _)⟩
end Go.Proofs.Yteohmcjclmaanaa
