/-
  Worlds that differ in some blocks.
-/
import Derived.Test.YtkngmnfgdlnddaaKept
import Derived.Test.YtkngmnfgdlnddaaCrc
import Derived.Below
import Derived.StillTailTactics
import Derived.Deep.CutRange
import Derived.Deep.DeepCutAuto
import Derived.Deep.RegionWith
import Derived.Deep.MidRow
namespace Go.Proofs.Ytkngmnfgdlnddaa
open Go.RowKit Go.Lib Hw
set_option linter.unusedVariables false

/-- all blocks are kept but those of S -/
structure Mod (S : Nat → Prop) (w w' : World) : Prop where
  os : w'.os = w.os
  tape : w'.tape = w.tape
  output : w'.output = w.output
  size : w.heap.size ≤ w'.heap.size
  block : ∀ k, k < w.heap.size → ¬ S k → w'.heap[k]? = w.heap[k]?
theorem Mod.refl (S : Nat → Prop) (w : World) : Mod S w w := ⟨rfl, rfl, rfl, Nat.le_refl _, fun _ _ _ => rfl⟩
theorem Mod.trans {S T : Nat → Prop} {a b c : World} (h : Mod S a b) (k : Mod T b c) (hT : ∀ i, i < a.heap.size → T i → S i) : Mod S a c :=
  ⟨k.os.trans h.os, k.tape.trans h.tape, k.output.trans h.output, Nat.le_trans h.size k.size, fun i hi hn => (k.block i (Nat.lt_of_lt_of_le hi h.size) (fun ht => hn (hT i hi ht))).trans (h.block i hi hn)⟩
theorem Mod.then {S : Nat → Prop} {a b c : World} (h : Mod S a b) (k : Mod S b c) : Mod S a c := h.trans k (fun _ _ h => h)
theorem Mod.mono {S T : Nat → Prop} {a b : World} (h : Mod S a b) (hT : ∀ i, i < a.heap.size → S i → T i) : Mod T a b :=
  ⟨h.os, h.tape, h.output, h.size, fun i hi hn => h.block i hi (fun hs => hn (hT i hi hs))⟩
theorem Mod.of (S : Nat → Prop) {w w' : World} (h : Below w.heap.size w w') : Mod S w w' := ⟨h.os, h.tape, h.output, h.size, fun k hk _ => h.block k hk⟩
theorem Mod.below {S : Nat → Prop} {n : Nat} {w w' : World} (h : Mod S w w') (hn : ∀ k, k < n → ¬ S k) (hz : n ≤ w.heap.size) : Below n w w' :=
  ⟨h.os, h.tape, h.output, h.size, fun k hk => h.block k (by omega) (hn k hk)⟩
theorem Mod.grown {S : Nat → Prop} {w w' : World} {row : Option Nat} (h : w.grownBy w' row) (hS : ∀ k, row = some k → S k) : Mod S w w' :=
  ⟨h.os, h.tape, h.output, h.size, fun k hk hn => h.block k hk (fun e => hn (hS k e.symm))⟩
theorem Mod.kept {S : Nat → Prop} {B : Nat} {w w' : World} (h : Kept B w w') (hS : S B) : Mod S w w' :=
  ⟨h.os, h.tape, h.output, h.size, fun k hk hn => h.block k hk (fun e => hn (e ▸ hS))⟩
theorem Mod.set {S : Nat → Prop} {p o : Nat} (w : World) (hp : S p) (v : Value) : Mod S w (w.setCell ⟨p, o, none⟩ v) := Mod.kept (Kept.set w o v) hp
theorem Mod.drew {S : Nat → Prop} {a b : World} (h : Mod S a b) : Mod S a b.drew := ⟨h.os, h.tape, h.output, h.size, h.block⟩
theorem Mod.heap {S : Nat → Prop} {w w' : World} {b : Nat} {o : Obj} (h : Mod S w w') (hb : w.heap[b]? = some o) (hn : ¬ S b) : w'.heap[b]? = some o := (h.block b (heap_lt hb) hn).trans hb

theorem OwnB.mod {w w' : World} {S : Nat → Prop} {B : Nat} {v : Value} {bs : List UInt8} (h : OwnB w B v bs) (m : Mod S w w') (hd : ∀ k, v.ownBlock = some k → ¬ S k) : OwnB w' B v bs := by
  refine ⟨h.1, ?_⟩
  rcases h.2 with hn | ⟨g, cap, cur, rfl, hb, hg, r⟩
  · exact .inl hn
  · exact .inr ⟨g, cap, cur, rfl, hb, m.heap hg (hd g rfl), r⟩
section
variable {P : Program} {ops : Array Oper} {rest : List Oper} {op : Oper} {a : Act} {w : World} {Q : Exit → Act → World → Prop}
/-- a new variable of a value; what is known of its world is handed on -/
theorem wpList_boxB (hg : op.guard = none) (t : TypeId) (x : Operand) (ho : op.op = .box t x) (N : Nat) (hN : w.heap.size = N) (cells : Array Value) (hx : (a.eval x).cells = cells)
    (h : ∀ W, W.heap[N]? = some (.cells cells t (0, 0)) → Below N w W → W.heap.size = N + 1 → wpList P ops Q rest (a.put op.dst (.pointer (some ⟨N, 0, none⟩))) W) : wpList P ops Q (op :: rest) a w := by
  subst hN hx
  refine wpList_plain hg fun K hK => ?_
  unfold Oper.wp execOp
  simp only [ho, Sem.run_bind, Instr.box, newVar, newRow, run_newObj_alloc, Sem.run_pure, Result.andThen_ok]
  exact hK _ _ (h _ (heap_new w _) ((Below.refl _ _).alloc (Nat.le_refl _) _) (by simp))
/-- a new variable of zeros -/
theorem wpList_allocB (hg : op.guard = none) (t : TypeId) (ho : op.op = .alloc t) (N : Nat) (hN : w.heap.size = N) (z : Value) (hz : ∀ w, (zeroValue t).run P w = .ok z w)
    (h : ∀ W, W.heap[N]? = some (.cells z.cells t (0, 0)) → Below N w W → W.heap.size = N + 1 → wpList P ops Q rest (a.put op.dst (.pointer (some ⟨N, 0, none⟩))) W) : wpList P ops Q (op :: rest) a w := by
  subst hN
  refine wpList_plain hg fun K hK => ?_
  unfold Oper.wp execOp
  simp only [ho, Sem.run_bind, Instr.alloc, hz, newVar, newRow, run_newObj_alloc, Sem.run_pure, Result.andThen_ok]
  exact hK _ _ (h _ (heap_new w _) ((Below.refl _ _).alloc (Nat.le_refl _) _) (by simp))
end
end Go.Proofs.Ytkngmnfgdlnddaa
