/-
  The view of a tag with parts.
-/
import Derived.Test.YtmjikebbknjahaaFrameT
import Derived.Test.YtmjikebbknjahaaTextM
namespace Go.Proofs.Ytmjikebbknjahaa
open Go.ChangeShapes Go.WideShapes Go.ChangeAt Go.RowKit Go.Joins Go.Deep Hw
set_option linter.unusedVariables false
section
variable {H : Type} {enc : TypeId × Value → H} {W : World} {base : Nat} {sp : Nat → Bool} {b1 : Nat} {held : Bool}
theorem cells_Tagged : Try.prog.cellsOf 43 = 2 := by kernel_rfl
set_option maxRecDepth 100000 in
theorem view_tag_up {v : Value} {d : DataW H} {p : List MemPlace} (hz : Rows.uptoBulk d ≤ 1048576) (hv : Value.okWide Try.prog W .any b1 43 v) (h : DataW.Trod enc Try.prog W base sp held 43 v d p) : IsTagU W v := by
  obtain ⟨c0, c1, y0, y1, m, rfl, rfl, rfl, hy0, hy1⟩ := open_agg2 Try.underlying43 (by kernel_rfl) cells_Tagged hv h
  obtain ⟨s, e0, e2, _⟩ := DataW.trod_string Try.underlying9 hy0
  simp only [List.cons.injEq, and_true] at e0
  subst e0
  subst e2
  rw [Rows.uptoBulk, Rows.uptoBulkAll, Rows.uptoBulkAll, Rows.uptoBulkAll] at hz
  obtain ⟨l, hl, _, hc⟩ := trod_strs hy1
  have h1 : s.data.toList.length = s.size := by rw [Array.length_toList]; rfl
  have h2 : Rows.uptoBulk (DataW.lit (H := H) (.string s.data.toList)) = s.data.toList.length + 1 := rfl
  rw [h2] at hz
  refine ⟨s, c1, l, rfl, by omega, hl, ?_⟩
  rcases hc with ⟨rfl, _⟩ | ⟨spare, hd⟩
  · simp
  · rw [hd, Rows.uptoBulk, bulk_strs, flat_length] at hz
    omega
end
end Go.Proofs.Ytmjikebbknjahaa
