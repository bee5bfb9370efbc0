/-
  Rows of marks: make([]bool, n), read and set place by place.
-/
import Derived.Test.YtkngmnfgdlnddaaRgtP
set_option linter.unusedSimpArgs false
set_option linter.unusedVariables false
namespace Go.Proofs.Ytkngmnfgdlnddaa
open Go.RowKit Go.Lib Hw Go.Maps
set_option linter.unusedSimpArgs false
set_option linter.unusedVariables false

/-- the block g holds a mark for each number below P: is it among acc? -/
def BitM (w : World) (g P : Nat) (acc : List Nat) : Prop := ∃ cur, w.heap[g]? = some (.cells cur 4 (0, 0)) ∧ cur.size = P ∧ ∀ i, i < P → cur[i]? = some (.bool (acc.contains i))
theorem info_bool : (Try.prog.info? 4).map (fun i => (i.zero, i.size, i.bytes)) = some (some (.bool false), 1, 1) := by kernel_rfl
theorem BitM.lt {w : World} {g P : Nat} {acc : List Nat} (h : BitM w g P acc) : g < w.heap.size := by
  obtain ⟨cur, h1, _⟩ := h
  exact heap_lt h1
theorem BitM.heap {w w' : World} {g P : Nat} {acc : List Nat} (h : BitM w g P acc) (e : w'.heap[g]? = w.heap[g]?) : BitM w' g P acc := by
  obtain ⟨cur, h1, h2⟩ := h
  exact ⟨cur, e.trans h1, h2⟩
theorem BitM.below {w w' : World} {g P : Nat} {acc : List Nat} (h : BitM w g P acc) (hb : Below w.heap.size w w') : BitM w' g P acc := h.heap (hb.block g h.lt)
theorem BitM.mod {w w' : World} {S : Nat → Prop} {g P : Nat} {acc : List Nat} (h : BitM w g P acc) (m : Mod S w w') (hS : ¬ S g) : BitM w' g P acc := h.heap (m.block g h.lt hS)
theorem BitM.cell {w : World} {g P : Nat} {acc : List Nat} (h : BitM w g P acc) {i : Nat} (hi : i < P) : w.cell? ⟨g, i, none⟩ = some (.bool (acc.contains i)) := by
  obtain ⟨cur, h1, h2, h3⟩ := h
  rw [heap_cell h1]
  exact h3 i hi
theorem BitM.free {w : World} {g P : Nat} {acc : List Nat} (h : BitM w g P acc) (i : Nat) : w.frozen? ⟨g, i, none⟩ = false := by
  obtain ⟨cur, h1, h2, h3⟩ := h
  exact heap_free h1 i
theorem BitM.put {w : World} {g P : Nat} {acc : List Nat} (h : BitM w g P acc) {x : Nat} (hx : x < P) : BitM (w.setCell ⟨g, x, none⟩ (.bool true)) g P (x :: acc) := by
  obtain ⟨cur, h1, h2, h3⟩ := h
  refine ⟨_, heap_set (o := x) h1 (.bool true), by rw [Array.size_setIfInBounds]; exact h2, fun i hi => ?_⟩
  rw [Array.getElem?_setIfInBounds]
  by_cases e : x = i
  · subst e
    rw [if_pos rfl, if_pos (by omega)]
    simp
  · rw [if_neg e, h3 i hi]
    have : (x :: acc).contains i = acc.contains i := by
      rw [List.contains_cons]
      have : (i == x) = false := by simp; omega
      rw [this, Bool.false_or]
    rw [this]
theorem BitM.made (w : World) (P : Nat) (hP : P ≤ 65536) : ∃ cur, (Instr.makeSlice 117 (.int .u32 (P : Int)) (.int .u32 (P : Int))).run Try.prog w = .ok (.slice (some ⟨w.heap.size, 0, none⟩) P P) (w.alloc (.cells cur 4)) ∧ BitM (w.alloc (.cells cur 4)) w.heap.size P [] := by
  obtain ⟨i, hi, hz0, hz1, hz2⟩ := info_parts info_bool
  have h := run_make (P := Try.prog) w 117 4 i (.bool false) Try.underlying117 hi hz0 .u32 .u32 (P : Int) (P : Int) (by omega) (by omega) (by rw [hz2]; omega) (by omega)
  rw [hz1] at h
  simp only [Int.toNat_natCast, Nat.mul_one] at h
  refine ⟨_, h, _, heap_alloc_new w _, by rw [size_madeCells], fun j hj => ?_⟩
  unfold madeCells
  simp [hj, Value.cells, Nat.mod_one]
end Go.Proofs.Ytkngmnfgdlnddaa

