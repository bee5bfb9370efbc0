/-
  The law SumsDigest up to the bulk of 1048576, from its walk.
-/
import Derived.Test.YtmjikebbknjahaaSumsDigestA
namespace Go.Proofs.Ytmjikebbknjahaa.lawSumsDigest
open Go.ChangeShapes Go.WideShapes Go.ChangeAt Go.RowKit

theorem named_ : Rows.sumsDigestUptoRow.func = Rows.sumsDigestUptoRow.func ∧ Try.pinned.checked.prog.funcNamed Rows.sumsDigestUptoRow.func = some 9 := ⟨rfl, by kernel_rfl⟩
theorem closed_ : joinedFacts Try.pinned.checked.prog 9 Try.f9 (Rows.OpenSpec.upto Rows.sumsDigestSpec).bare Rows.sumsDigestUptoRow = true := by kernel_rfl
theorem proved : Rows.SumsDigestUptoSaid :=
  OpenClaim.holds_of_cond 9 Try.f9 rfl rfl rfl rfl rfl rfl rfl ⟨rfl, rfl, rfl, rfl, rfl⟩ rfl rfl rfl rfl rfl named_.2 Try.func9 closed_
    (of_decide_eq_true (by kernel_rfl)) (by unfold Func.isWrapper; first | (rw [if_pos (by decide +kernel)]; kernel_rfl) | (rw [if_neg (by decide +kernel)]; exact ⟨rfl, rfl⟩))
    (fun os started H enc _ F => lifted os started H enc F)
#print axioms proved
end Go.Proofs.Ytmjikebbknjahaa.lawSumsDigest
