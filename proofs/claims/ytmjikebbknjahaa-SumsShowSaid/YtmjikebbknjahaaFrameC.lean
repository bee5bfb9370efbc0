/-
  Rows of bytes that a caller handed over, and their view.
-/
import Derived.Test.YtmjikebbknjahaaFrameT
namespace Go.Proofs.Ytmjikebbknjahaa
open Go.ChangeShapes Go.WideShapes Go.ChangeAt Go.RowKit Go.Joins Go.Deep Hw
set_option linter.unusedVariables false

def ByteRow (w : World) (v : Value) (l : List UInt8) : Prop :=
  ∃ ad c, v = .slice ad l.length c ∧ (0 < l.length → ∃ b o, ad = some ⟨b, o, none⟩ ∧ ∀ i (h : i < l.length), w.cell? ⟨b, o + i, none⟩ = some (.int .u8 (l[i].toNat : Int)))
theorem ByteRow.below {w w' : World} {v : Value} {l : List UInt8} (h : ByteRow w v l) (hb : Below w.heap.size w w') : ByteRow w' v l := by
  obtain ⟨ad, c, rfl, hc⟩ := h
  refine ⟨ad, c, rfl, fun hl => ?_⟩
  obtain ⟨b, o, rfl, hi⟩ := hc hl
  exact ⟨b, o, rfl, fun i h => cellB hb (World.block_lt_of_cell? _ _ (hi i h)) (hi i h)⟩
def IsBytes (w : World) (v : Value) : Prop := ∃ l, ByteRow w v l ∧ l.length ≤ 9223372036854775807
section
variable {H : Type} {enc : TypeId × Value → H} {W : World} {base : Nat} {sp : Nat → Bool} {b1 : Nat} {held : Bool}
theorem cells_u8 : Try.prog.cellsOf 5 = 1 := by kernel_rfl

theorem trod_bytes {n : Nat} {v : Value} {y : DataW H × List MemPlace} (h : DataW.trod enc Try.prog W base sp held n 35 [v] = some y) : IsBytes W v := by
  rcases open_slice1 Try.underlying35 cells_u8 h with ⟨hc, hy⟩ | ⟨a, len, cap, m, k, V, D, Pl, hc, _, hlc, hcm, hm, hy, hx⟩
  · simp only [List.cons.injEq, and_true] at hc
    subst hc
    exact ⟨[], ⟨none, 0, rfl, fun h => by simp at h⟩, by simp⟩
  · simp only [List.cons.injEq, and_true] at hc
    subst hc
    have hlm : len ≤ m := by rw [hm]; split <;> omega
    have each : ∀ i, i < len → ∃ x : UInt8, W.cell? (a.add i) = some (.int .u8 (x.toNat : Int)) := by
      intro i hi
      obtain ⟨h1, h2⟩ := hx i (by omega)
      obtain ⟨x, e, _, wx⟩ := DataW.trod_int Try.underlying5 h2
      simp at e
      rw [e] at h1
      have hb := wf_u8_bd wx
      refine ⟨UInt8.ofNat x.toNat, ?_⟩
      rw [h1, UInt8.toNat_ofNat']
      congr 2
      omega
    obtain ⟨f, hf⟩ := choose_lt each
    have hml : maxLen = 9223372036854775807 := rfl
    refine ⟨(List.range len).map f, ?_, by simp; omega⟩
    refine ⟨some a, cap, by simp, fun hl => ?_⟩
    simp at hl
    have h0 := World.cell?_spot (hf 0 hl)
    have ha : a.spot = none := by
      cases a with
      | mk b o s => simp [Addr.add] at h0; simp [h0]
    refine ⟨a.block, a.off, by cases a; simp_all, fun i hi => ?_⟩
    simp at hi
    have h1 := hf i hi
    rw [add_plain a ha] at h1
    simpa using h1
set_option maxRecDepth 100000 in
theorem view_bytes {v : Value} {d : DataW H} {p : List MemPlace} (hv : Value.okWide Try.prog W .any b1 35 v) (h : DataW.Trod enc Try.prog W base sp held 35 v d p) : IsBytes W v := by
  obtain ⟨a0, len, cap, rfl⟩ := okWide_slice Try.underlying35 hv
  obtain ⟨n, h⟩ := h
  exact trod_bytes h
end
end Go.Proofs.Ytmjikebbknjahaa
