/-
  Rows of pairs and of steps: places, loads, comparisons.
-/
import Derived.Test.YtihbhpggpnmifaaGS
import Derived.Test.YtihbhpggpnmifaaGX
set_option linter.unusedSimpArgs false
set_option linter.unusedVariables false
namespace Go.Proofs.Ytihbhpggpnmifaa
open Go.RowKit Go.Lib Hw
set_option linter.unusedVariables false

theorem rowV_at64 : ∀ {xs : List Dg}, All64 xs → ∀ (i : Nat) (h : i < xs.length) (j : Nat), j < 64 → (rowV xs)[i * 64 + j]? = (xs[i].map bv)[j]?
  | d :: xs, hA, 0, h, j, hj => by
    have hd : (d.map bv).length = 64 := by rw [List.length_map]; exact hA d (List.mem_cons_self ..)
    show (d.map bv ++ rowV xs)[0 * 64 + j]? = _
    rw [List.getElem?_append_left (by omega), Nat.zero_mul, Nat.zero_add]
    rfl
  | d :: xs, hA, i + 1, h, j, hj => by
    have hd : (d.map bv).length = 64 := by rw [List.length_map]; exact hA d (List.mem_cons_self ..)
    have e : (i + 1) * 64 + j = 64 + (i * 64 + j) := by omega
    show (d.map bv ++ rowV xs)[(i + 1) * 64 + j]? = _
    rw [e, List.getElem?_append_right (by omega)]
    have e2 : 64 + (i * 64 + j) - (d.map bv).length = i * 64 + j := by omega
    rw [e2, rowV_at64 (fun x hx => hA x (List.mem_cons_of_mem _ hx)) i (by simpa using h) j hj]
    rfl
theorem row64_range {w : World} {t : TypeId} {B g n cap : Nat} {xs : List Dg} (h : w.ownsRow B t 64 (.slice (some ⟨g, 0, none⟩) n cap) xs.length (rowV xs)) (hA : All64 xs) (i : Nat) (hi : i < xs.length) : w.rangeAt g (i * 64) (xs[i].map bv) := by
  intro j v hv
  have hj : j < 64 := by
    rcases Nat.lt_or_ge j (xs[i].map bv).length with h1 | h1
    · rw [List.length_map, hA _ (List.getElem_mem hi)] at h1; exact h1
    · rw [List.getElem?_eq_none h1] at hv; cases hv
  have h1 := World.ownsRow.cells (w := w) h (g := g) rfl (i * 64 + j) v (by rw [rowV_at64 hA i hi j hj]; exact hv)
  have hadd : (⟨g, 0, none⟩ : Addr).add (i * 64 + j) = ⟨g, i * 64 + j, none⟩ := by unfold Addr.add; split <;> simp_all
  rw [hadd] at h1
  exact h1
theorem row64_form {w : World} {t : TypeId} {B : Nat} {v : Value} {xs : List Dg} (h : w.ownsRow B t 64 v xs.length (rowV xs)) (hp : 0 < xs.length) : ∃ g cap, v = .slice (some ⟨g, 0, none⟩) xs.length cap := by
  rcases h.2 with ⟨_, h0⟩ | ⟨g, cap, cur, e, _⟩
  · omega
  · exact ⟨g, cap, e⟩
theorem OwnS.below {w w' : World} {B C : Nat} {v : Value} {xs : List Dg} (h : OwnS w B v xs) (hb : Below C w w') (hC : ∀ g, v.ownBlock = some g → g < C) : OwnS w' B v xs := h.heap (fun g hg => hb.block g (hC g hg))
theorem rng_left {w : World} {b o : Nat} {x y : Dg} (h : w.rangeAt b o ((x ++ y).map bv)) : w.rangeAt b o (x.map bv) := fun j v hv => h j v (by
  rw [List.map_append, List.getElem?_append_left (by
    rcases Nat.lt_or_ge j (x.map bv).length with h1 | h1
    · exact h1
    · rw [List.getElem?_eq_none h1] at hv; cases hv)]
  exact hv)
theorem rng_right {w : World} {b o : Nat} {x y : Dg} (hx : x.length = 32) (h : w.rangeAt b o ((x ++ y).map bv)) : w.rangeAt b (o + 32) (y.map bv) := fun j v hv => by
  have h1 := h (32 + j) v (by
    rw [List.map_append, List.getElem?_append_right (by rw [List.length_map]; omega), List.length_map, hx, Nat.add_sub_cancel_left]
    exact hv)
  rw [Nat.add_assoc]
  exact h1
theorem info_Pr : (Try.prog.info? 108).map (·.size) = some 64 := by kernel_rfl
theorem info_Qs : (Try.prog.info? 106).map (·.size) = some 64 := by kernel_rfl
theorem yieldsIf_loadPr {ops : Array Oper} {S : World → Prop} {op : Oper} {a : Act} (hw : Region.wanted op (yielded ops a.tmps) = true) (x : Operand) (ho : op.op = .load 108 x) (b off : Nat) (hx : a.eval x = .pointer (some ⟨b, off, none⟩)) (m : Dg) (hm : m.length = 64) (hd : ∀ W, S W → W.rangeAt b off (m.map bv)) :
    YieldsIf Try.prog ops S op (dv m) a :=
  have hml : (m.map bv).length = 64 := by rw [List.length_map, hm]
  yieldsIf_load_mid hw 108 x ho b off hx (m.map bv) _ (fun W h => hd W h) Try.underlying108 rfl (info_Pr.trans (congrArg some hml.symm))
theorem yieldsIf_loadQ {ops : Array Oper} {S : World → Prop} {op : Oper} {a : Act} (hw : Region.wanted op (yielded ops a.tmps) = true) (x : Operand) (ho : op.op = .load 106 x) (b off : Nat) (hx : a.eval x = .pointer (some ⟨b, off, none⟩)) (m : Dg) (hm : m.length = 64) (hd : ∀ W, S W → W.rangeAt b off (m.map bv)) :
    YieldsIf Try.prog ops S op (dv m) a :=
  have hml : (m.map bv).length = 64 := by rw [List.length_map, hm]
  yieldsIf_load_mid hw 106 x ho b off hx (m.map bv) _ (fun W h => hd W h) Try.underlying106 rfl (info_Qs.trans (congrArg some hml.symm))
theorem yieldsIf_loadHd {ops : Array Oper} {a : Act} {S : World → Prop} {op : Oper} (hw : Region.wanted op (yielded ops a.tmps) = true) (x : Operand) (ho : op.op = .load 31 x) (b : Nat) (hx : a.eval x = .pointer (some ⟨b, 0, none⟩)) (s : Nat) (d : Dg) (hd : d.length = 32) (hS : ∀ W, S W → HB W b s d) :
    YieldsIf Try.prog ops S op (hv s d) a := yieldsIf_loadH hw x ho b 0 hx (s, d) hd (fun W h => range_all (cs := hcs s d) (hS W h))
theorem eqP64 (l m : Dg) (hl : l.length = 64) (hm : m.length = 64) : ∀ w, (binOp .eql 108 (dv l) (dv m)).run Try.prog w = .ok (.bool (l == m)) w := by
  have h := eqP (l.take 32) (l.drop 32) (m.take 32) (m.drop 32) (by rw [List.length_take]; omega) (by rw [List.length_drop]; omega) (by rw [List.length_take]; omega) (by rw [List.length_drop]; omega)
  rw [List.take_append_drop, List.take_append_drop] at h
  exact h
theorem neQ64 (l m : Dg) (hl : l.length = 64) (hm : m.length = 64) : ∀ w, (binOp .neq 106 (dv l) (dv m)).run Try.prog w = .ok (.bool (!(l == m))) w := by
  have h := neQ (l.take 32) (l.drop 32) (m.take 32) (m.drop 32) (by rw [List.length_take]; omega) (by rw [List.length_drop]; omega) (by rw [List.length_take]; omega) (by rw [List.length_drop]; omega)
  rw [List.take_append_drop, List.take_append_drop] at h
  exact h
theorem row64_low {W W' : World} {t : TypeId} {B : Nat} {v : Value} {xs : List Dg} (h : W.ownsRow B t 64 v xs.length (rowV xs)) (hb : Below W.heap.size W W') : W'.ownsRow B t 64 v xs.length (rowV xs) := by
  have hlt := World.ownsRow.lt h
  refine ⟨h.1, ?_⟩
  rcases h.2 with hn | ⟨g, cap, cur, rfl, hB, hg, r⟩
  · exact .inl hn
  · exact .inr ⟨g, cap, cur, rfl, hB, (hb.block g (hlt g rfl).2).trans hg, r⟩
end Go.Proofs.Ytihbhpggpnmifaa

