/-
  A block that holds some bytes: what a string's conversion lays, read and written place by place.
-/
import Derived.Test.YtkngmnfgdlnddaaGA
import Derived.Lib.ConvBytes
set_option linter.unusedSimpArgs false
set_option linter.unusedVariables false
namespace Go.Proofs.Ytkngmnfgdlnddaa
open Go.RowKit Go.Lib
set_option linter.unusedVariables false

/-- the block p holds the bytes, each of them free to be written -/
def RowB (w : World) (p : Nat) (l : List UInt8) : Prop :=
  ∃ cs t fz, w.heap[p]? = some (.cells cs t fz) ∧ l.length ≤ fz.1 ∧ ∀ j (h : j < l.length), cs[j]? = some (bv l[j])

theorem RowB.lt {w : World} {p : Nat} {l : List UInt8} (h : RowB w p l) : p < w.heap.size := by
  obtain ⟨cs, t, fz, h1, _⟩ := h; exact heap_lt h1
theorem RowB.cell {w : World} {p : Nat} {l : List UInt8} (h : RowB w p l) (j : Nat) (hj : j < l.length) : w.cell? ⟨p, j, none⟩ = some (bv l[j]) := by
  obtain ⟨cs, t, fz, h1, h2, h3⟩ := h
  rw [heap_cell h1, h3 j hj]
theorem RowB.free {w : World} {p : Nat} {l : List UInt8} (h : RowB w p l) (j : Nat) (hj : j < l.length) : w.frozen? ⟨p, j, none⟩ = false := by
  obtain ⟨cs, t, fz, h1, h2, h3⟩ := h
  have : ¬ fz.1 ≤ j := by omega
  simp [World.frozen?, h1, this]
theorem RowB.set {w : World} {p : Nat} {l : List UInt8} (h : RowB w p l) (j : Nat) (hj : j < l.length) (b : UInt8) : RowB (w.setCell ⟨p, j, none⟩ (.int .u8 (b.toNat : Int))) p (l.set j b) := by
  obtain ⟨cs, t, fz, h1, h2, h3⟩ := h
  have hc : j < cs.size := by
    have := h3 j hj
    rcases Nat.lt_or_ge j cs.size with hl | hl
    · exact hl
    · rw [Array.getElem?_eq_none hl] at this; cases this
  refine ⟨_, t, fz, heap_set h1 _, by rw [List.length_set]; exact h2, fun k hk => ?_⟩
  rw [List.length_set] at hk
  rw [Array.getElem?_setIfInBounds]
  by_cases e : j = k
  · subst e; simp [hc, bv]
  · simp only [e, if_false]
    rw [h3 k hk, List.getElem_set_ne e]
theorem RowB.alloc {w : World} {p : Nat} {l : List UInt8} (h : RowB w p l) (o : Obj) : RowB (w.alloc o) p l := by
  obtain ⟨cs, t, fz, h1, h2⟩ := h; exact ⟨cs, t, fz, heap_alloc h1, h2⟩
theorem RowB.drew {w : World} {p : Nat} {l : List UInt8} (h : RowB w p l) : RowB w.drew p l := h
theorem RowB.below {w w' : World} {p B : Nat} {l : List UInt8} (h : RowB w p l) (hb : Below B w w') (hB : p < B) : RowB w' p l := by
  obtain ⟨cs, t, fz, h1, h2⟩ := h; exact ⟨cs, t, fz, heap_below h1 hb hB, h2⟩
theorem RowB.setOther {w : World} {p : Nat} {l : List UInt8} (h : RowB w p l) {a : Addr} (hne : p ≠ a.block) (v : Value) : RowB (w.setCell a v) p l := by
  obtain ⟨cs, t, fz, h1, h2⟩ := h; exact ⟨cs, t, fz, heap_setOther h1 hne v, h2⟩

/-- []byte(s) -/
theorem conv_str (s : ByteArray) (w : World) : (convert 9 101 (.string s)).run Try.prog w = .ok (.slice (some ⟨w.heap.size, 0, none⟩) s.size (grownCap w s.size 0 5)) (bytesWorld w 5 s) :=
  Lib.run_convert_string_bytes w 9 101 5 s Try.underlying9 Try.underlying101 Try.underlying5
theorem RowB.conv (s : ByteArray) (w : World) : RowB (bytesWorld w 5 s) w.heap.size s.data.toList := by
  refine ⟨_, _, _, bytesWorld_at_new w _ s, ?_, ?_⟩
  · simp [bytesCells]
  · intro j hj
    have hj' : j < s.data.size := by simpa using hj
    unfold bytesCells
    rw [Array.getElem?_append_left (by simpa using hj')]
    rw [Array.getElem?_map, Array.getElem?_eq_getElem hj']
    rfl
theorem Below.conv (s : ByteArray) (w : World) (B : Nat) (hB : B ≤ w.heap.size) : Below B w (bytesWorld w 5 s) := by
  refine ⟨?_, ?_, ?_, by rw [bytesWorld_size]; omega, fun k hk => bytesWorld_at_old w _ s k (by omega)⟩ <;>
    simp [bytesWorld, World.freeze, World.alloc, World.drew, -World.alloc_eq, -World.drew_eq]
/-- string(b) -/
theorem conv_row {w : World} {p : Nat} {l : List UInt8} (h : RowB w p l) (cap : Nat) :
    (convert 101 9 (.slice (some ⟨p, 0, none⟩) l.length cap)).run Try.prog w = .ok (.string ⟨l.toArray⟩) w := by
  have hcell : ∀ i, i < l.length → w.cell? ⟨p, 0 + i, none⟩ = some (.int .u8 ((l.map fun b => (b.toNat : Int)).getD i 0)) := by
    intro i hi
    rw [Nat.zero_add, h.cell i hi]
    simp [bv, List.getD, hi]
  have h2 := run_convert_bytes_arg (P := Try.prog) w 101 5 Try.underlying101 Try.underlying5 p 0 l.length cap (l.map fun b => (b.toNat : Int)) (by simp) hcell 9 Try.underlying9
  rw [h2, strOf_bytes]
end Go.Proofs.Ytkngmnfgdlnddaa

