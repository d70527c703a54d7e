/- The plain law: frames that are laid are read back. -/
import Derived.Test.YtimmemkiilblcaaFrameAwake
namespace Go.Proofs.Ytimmemkiilblcaa
set_option linter.unusedVariables false
set_option linter.unusedSimpArgs false
open Go.RowKit
theorem frameEnc_length (body : List UInt8) : (frameEnc body).length = (enc body.length).length + 4 + body.length := by
  simp [frameEnc, le4_length]
  omega
theorem drop_app {α : Type} (a b : List α) (n : Nat) (h : a.length = n) : (a ++ b).drop n = b := by subst h; simp
theorem take_app {α : Type} (a b : List α) (n : Nat) (h : a.length = n) : (a ++ b).take n = a := by subst h; simp
theorem frameAt_enc (pre body post : List UInt8) (h1 : 1 ≤ body.length) (h2 : body.length ≤ 1048576) : frameAt (pre ++ (frameEnc body ++ post)) pre.length = some (body, pre.length + (frameEnc body).length) := by
  obtain ⟨E, hE⟩ : ∃ E, enc body.length = E := ⟨_, rfl⟩
  have hg := getAt_enc pre (le4 (Sum body) ++ body ++ post) body.length (by omega)
  have e0 : pre ++ (enc body.length ++ (le4 (Sum body) ++ body ++ post)) = pre ++ (frameEnc body ++ post) := by simp [frameEnc]
  rw [e0] at hg
  have hlen : (pre ++ (frameEnc body ++ post)).length = pre.length + ((enc body.length).length + 4 + body.length + post.length) := by
    rw [List.length_append, List.length_append, frameEnc_length]
  have hb : ¬ (body.length < 1 ∨ 1048576 < body.length ∨ (pre ++ (frameEnc body ++ post)).length < (pre.length + (enc body.length).length) + (body.length + 4)) := by rw [hlen]; omega
  have hd1 : (pre ++ (frameEnc body ++ post)).drop (pre.length + (enc body.length).length + 4) = body ++ post := by
    have e1 : pre ++ (frameEnc body ++ post) = (pre ++ enc body.length ++ le4 (Sum body)) ++ (body ++ post) := by simp [frameEnc]
    rw [e1]
    exact drop_app _ _ _ (by simp [le4_length]; omega)
  have hd2 : (pre ++ (frameEnc body ++ post)).drop (pre.length + (enc body.length).length) = le4 (Sum body) ++ (body ++ post) := by
    have e1 : pre ++ (frameEnc body ++ post) = (pre ++ enc body.length) ++ (le4 (Sum body) ++ (body ++ post)) := by simp [frameEnc]
    rw [e1]
    exact drop_app _ _ _ (by simp)
  rw [frameAt_sum hg hb, hd1, hd2, take_app _ _ _ rfl, take_app _ _ _ (le4_length _), if_pos rfl, frameEnc_length]
  congr 2
  omega
end Go.Proofs.Ytimmemkiilblcaa
