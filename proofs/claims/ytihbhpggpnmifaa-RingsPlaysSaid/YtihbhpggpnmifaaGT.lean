/-
 The walk of the document's Climb.
-/
import Derived.Test.YtihbhpggpnmifaaGS
set_option linter.unusedSimpArgs false
set_option linter.unusedVariables false
namespace Go.Proofs.Ytihbhpggpnmifaa
open Go.RowKit Go.Lib Hw
theorem wpList_loadRng {ops : Array Oper} {rest : List Oper} {o : Oper} {a : Act} {w : World} {Q : Exit → Act → World → Prop} (hg : o.guard = none) (x : Operand) (ho : o.op = .load 23 x) (b off : Nat) (hx : a.eval x = .pointer (some ⟨b, off, none⟩)) (m : Dg) (hm : m.length = 32) (hd : w.rangeAt b off (m.map bv))
  (h : wpList Try.prog ops Q rest (a.put o.dst (dv m)) w) : wpList Try.prog ops Q (o :: rest) a w := by
 have hml : (m.map bv).length = 32 := by rw [List.length_map, hm]
 exact wpList_load_mid hg 23 x ho b off hx (m.map bv) _ hd Try.underlying23 rfl (info_D.trans (congrArg some hml.symm)) h
structure RF (w : World) (N : Nat) (W : World) (P : Nat) (D LA : Dg) (sv : Value) (xs : List Dg) : Prop where
 z : DB W (N + 1) zeros32
 d : DB W P D
 la : DB W (N + 2) LA
 own : OwnQ W (N + 3) sv xs
 hb : Below N w W
 hP : N + 3 ≤ P
 lt : ∀ g, sv.ownBlock = some g → g < P
theorem RF.below {w : World} {N : Nat} {W W' : World} {P : Nat} {D LA : Dg} {sv : Value} {xs : List Dg} (h : RF w N W P D LA sv xs) (hb : Below W.heap.size W W') : RF w N W' P D LA sv xs := by
 have hp := heap_lt h.d
 have hs := h.hb.size
 have h1 := h.hP
 exact ⟨heap_below h.z hb (by omega), heap_below h.d hb hp, heap_below h.la hb (by omega), h.own.below hb (fun g hg => by have := h.lt g hg; omega), h.hb.trans (hb.mono (by omega)), h.hP, h.lt⟩
end Go.Proofs.Ytihbhpggpnmifaa
