/- The statements' all: the walk. -/
import Derived.Test.YtimmemkiilblcaaFrameAll
namespace Go.Proofs.Ytimmemkiilblcaa
set_option linter.unusedVariables false
set_option linter.unusedSimpArgs false
open Go.RowKit
theorem blk_at {w : World} {t : TypeId} {cs : Array Value} {k : Nat} (h : k = w.heap.size) : Blk (w.alloc (.cells cs t)) k t cs := by subst h; exact Blk.new _ _ _
theorem no_nil (f : Fn) (t : Array Value) (caps : Array Value) (W : World) : (binOp .eql 60 (.func f t caps) .nilFunc).run Try.prog W = .ok (.bool false) W := by
  have h : ∀ d, (Op.equalIn (d + 1) 60 (.func f t caps) .nilFunc).run Try.prog W = .ok false W := by
    intro d
    simp [Op.equalIn, run_underlying Try.underlying60]
  have h2 := h 9999
  simp only [Nat.reduceAdd] at h2
  simp only [binOp, Op.equal, Op.maxDepth, Sem.run_bind, h2, Result.andThen_ok, Sem.run_pure]
set_option maxRecDepth 100000 in
set_option maxHeartbeats 1600000 in
theorem all_told (most : Int) (A : Option Addr) (bs : List UInt8) (n c k : Nat) (w : World) (hn : bs.length = n) (hl : n ≤ 1048576) (hc : n ≤ c) (hr : ReadsB w A bs) (hm : 1 ≤ most) (hk : (toldOf bs most).length = k) :
    Calls Try.prog 19 #[.slice A n c, .int .i64 most] w fun e w' => ∃ A1 c1 A2 c2, e = .returned (.tuple #[.slice A1 k c1, .slice A2 k c2]) ∧ w'.ownsRow w.heap.size 3 1 (.slice A1 k c1) k (intsF (toldOf bs most)) ∧ w'.ownsRow w.heap.size 9 1 (.slice A2 k c2) k (textsF (toldOf bs most)) ∧ Below w.heap.size w w' := by
  subst hn
  have HR := Lib.hid hr
  have HK := Lib.hid hk
  have hm2 : (most < 1) = False := by simp; omega
  clear hr hk
  go_enter Try.func19, Try.ntmps19
  go_wp2_with fail
  refine (all_any A bs.length c _).mono ?_
  rintro e w1 ⟨rfl, rfl⟩
  have c0 : ∀ o p : Obj, (((w.alloc (.cells #[.int .i64 most] 3)).alloc o)).cell? ⟨w.heap.size, 0, none⟩ = some (.int .i64 most) := fun o p => by rw [((Blk.new w 3 #[.int .i64 most]).alloc o).cell]; rfl
  have hnn := fun (f : Fn) (t caps : Array Value) (W : World) => no_nil f t caps W
  have c00 := c0 (.cells #[.slice A bs.length c] 22) (.cells #[] 0)
  clear c0
  go_wp2_with fail
  have b0 : Blk ((((w.alloc (.cells #[.int .i64 most] 3)).alloc (.cells #[.slice A bs.length c] 22)).alloc (.cells #[.slice none 0 0] 38)).alloc (.cells #[.slice none 0 0] 39)) w.heap.size 3 #[.int .i64 most] := (((Blk.new _ _ _).alloc _).alloc _).alloc _
  have bn : Blk ((((w.alloc (.cells #[.int .i64 most] 3)).alloc (.cells #[.slice A bs.length c] 22)).alloc (.cells #[.slice none 0 0] 38)).alloc (.cells #[.slice none 0 0] 39)) (w.heap.size + 1) 22 #[.slice A bs.length c] := ((blk_at (by simp)).alloc _).alloc _
  have b1 : Blk ((((w.alloc (.cells #[.int .i64 most] 3)).alloc (.cells #[.slice A bs.length c] 22)).alloc (.cells #[.slice none 0 0] 38)).alloc (.cells #[.slice none 0 0] 39)) (w.heap.size + 1 + 1) 38 #[.slice none 0 0] := (blk_at (by simp)).alloc _
  have b2 : Blk ((((w.alloc (.cells #[.int .i64 most] 3)).alloc (.cells #[.slice A bs.length c] 22)).alloc (.cells #[.slice none 0 0] 38)).alloc (.cells #[.slice none 0 0] 39)) (w.heap.size + 1 + 1 + 1) 39 #[.slice none 0 0] := blk_at (by simp)
  have hb0 : Below w.heap.size w ((((w.alloc (.cells #[.int .i64 most] 3)).alloc (.cells #[.slice A bs.length c] 22)).alloc (.cells #[.slice none 0 0] 38)).alloc (.cells #[.slice none 0 0] 39)) := ((below_two w _ _).alloc (by simp; omega) _).alloc (by simp; omega) _
  refine (all1_told w.heap.size (w.heap.size + 1 + 1) (w.heap.size + 1) most A bs c w _ (by omega) (by omega) hl hc HR.out hb0 (by omega) hm bn ⟨⟨b0, b1, b2, World.ownsRow_nil _ _ _ _, World.ownsRow_nil _ _ _ _⟩⟩).mono ?_
  rintro e w5 ⟨A1, c1, A2, c2, ⟨v, rfl⟩, ⟨htell⟩, hb5⟩
  rw [HK.out] at htell
  have hb6 : Below w.heap.size w w5 := hb0.trans (hb5.mono (by omega))
  have k1 : w5.cell? ⟨w.heap.size + 1 + 1, 0, none⟩ = some (.slice A1 k c1) := by rw [htell.b1.cell]; rfl
  have k2 : w5.cell? ⟨w.heap.size + 1 + 1 + 1, 0, none⟩ = some (.slice A2 k c2) := by rw [htell.b2.cell]; rfl
  have HTE := Lib.hid htell
  clear b0 bn b1 b2 hb0 hb5 htell
  go_wp2
  go_quiet (fail)
  go_wp2
  go_ret2
  exact ⟨A1, c1, A2, c2, rfl, own_mono HTE.out.o1 (by omega), own_mono HTE.out.o2 (by omega), below_drewN hb6 _⟩
end Go.Proofs.Ytimmemkiilblcaa
