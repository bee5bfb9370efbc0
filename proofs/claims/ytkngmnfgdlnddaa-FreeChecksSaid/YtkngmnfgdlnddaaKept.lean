/-
  Worlds that differ in one block at most.
-/
import Derived.Test.YtkngmnfgdlnddaaOwnB
namespace Go.Proofs.Ytkngmnfgdlnddaa
open Go.RowKit
set_option linter.unusedVariables false

/-- all is kept but the block B -/
structure Kept (B : Nat) (w w' : World) : Prop where
  os : w'.os = w.os
  tape : w'.tape = w.tape
  output : w'.output = w.output
  size : w.heap.size ≤ w'.heap.size
  block : ∀ k, k < w.heap.size → k ≠ B → w'.heap[k]? = w.heap[k]?
theorem Kept.refl (B : Nat) (w : World) : Kept B w w := ⟨rfl, rfl, rfl, Nat.le_refl _, fun _ _ _ => rfl⟩
theorem Kept.trans {B : Nat} {a b c : World} (h : Kept B a b) (k : Kept B b c) : Kept B a c :=
  ⟨k.os.trans h.os, k.tape.trans h.tape, k.output.trans h.output, Nat.le_trans h.size k.size, fun i hi hn => (k.block i (Nat.lt_of_lt_of_le hi h.size) hn).trans (h.block i hi hn)⟩
theorem Kept.of {B : Nat} {w w' : World} (h : Below w.heap.size w w') : Kept B w w' := ⟨h.os, h.tape, h.output, h.size, fun k hk _ => h.block k hk⟩
theorem Kept.below {B n : Nat} {w w' : World} (h : Kept B w w') (hn : n ≤ B) (hz : n ≤ w.heap.size) : Below n w w' :=
  ⟨h.os, h.tape, h.output, h.size, fun k hk => h.block k (by omega) (by omega)⟩
theorem Kept.low {B : Nat} {a b c : World} (h : Kept B a b) (k : Below a.heap.size b c) : Kept B a c :=
  ⟨k.os.trans h.os, k.tape.trans h.tape, k.output.trans h.output, Nat.le_trans h.size k.size, fun i hi hn => (k.block i hi).trans (h.block i hi hn)⟩
theorem Kept.set {B : Nat} (w : World) (o : Nat) (v : Value) : Kept B w (w.setCell ⟨B, o, none⟩ v) := by
  have h := (Below.refl B w).setCell (p := ⟨B, o, none⟩) (Nat.le_refl _) v
  refine ⟨h.os, h.tape, h.output, h.size, fun k hk hn => ?_⟩
  exact Below.heap_setCell _ _ _ _ hn
theorem Kept.heap {B : Nat} {w w' : World} {b : Nat} {o : Obj} (h : Kept B w w') (hb : w.heap[b]? = some o) (hn : b ≠ B) : w'.heap[b]? = some o := (h.block b (heap_lt hb) hn).trans hb

theorem Kept.drew {B : Nat} {a b : World} (h : Kept B a b) : Kept B a b.drew := ⟨h.os, h.tape, h.output, h.size, h.block⟩
end Go.Proofs.Ytkngmnfgdlnddaa
