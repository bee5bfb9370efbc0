/-
 Rows of heads of the call's own.
-/
import Derived.Test.YtihbhpggpnmifaaGR
import Derived.Test.YtihbhpggpnmifaaGM
import Derived.Laws.StructEq
import Derived.ChangeKeysEq
set_option linter.unusedSimpArgs false
set_option linter.unusedVariables false
namespace Go.Proofs.Ytihbhpggpnmifaa
open Go.RowKit Go.Lib Hw
abbrev Hd := Nat × Dg
def headV (x : Hd) : List Value := hcs x.1 x.2
def rowH (xs : List Hd) : List Value := xs.flatMap headV
def AllH (xs : List Hd) : Prop := ∀ x ∈ xs, x.2.length = 32
theorem AllH.nil : AllH [] := fun d h => by simp at h
theorem AllH.snoc {xs : List Hd} {d : Hd} (h : AllH xs) (hd : d.2.length = 32) : AllH (xs ++ [d]) := fun x hx => by
 rcases List.mem_append.1 hx with h1 | h1
 ·exact h x h1
 ·rw [List.mem_singleton.1 h1]; exact hd
theorem headV_len {x : Hd} (h : x.2.length = 32) : (headV x).length = 33 := hcs_length x.1 h
def OwnH (w : World) (B : Nat) (v : Value) (xs : List Hd) : Prop := w.ownsRow B 31 33 v xs.length (rowH xs)
theorem OwnH.nil (w : World) (B : Nat) : OwnH w B (.slice none 0 0) [] := World.ownsRow_nil w B _ 33
theorem OwnH.lt {w : World} {B : Nat} {v : Value} {xs : List Hd} (h : OwnH w B v xs) : ∀ g, v.ownBlock = some g → B ≤ g ∧ g < w.heap.size := World.ownsRow.lt h
theorem OwnH.heap {w w' : World} {B : Nat} {v : Value} {xs : List Hd} (h : OwnH w B v xs) (hk : ∀ g, v.ownBlock = some g → w'.heap[g]? = w.heap[g]?) : OwnH w' B v xs := by
 refine ⟨h.1, ?_⟩
 rcases h.2 with hn | ⟨g, cap, cur, rfl, hB, hg, r⟩
 ·exact .inl hn
 ·exact .inr ⟨g, cap, cur, rfl, hB, (hk g rfl).trans hg, r⟩
theorem OwnH.below {w w' : World} {B C : Nat} {v : Value} {xs : List Hd} (h : OwnH w B v xs) (hb : Below C w w') (hC : ∀ g, v.ownBlock = some g → g < C) : OwnH w' B v xs := h.heap (fun g hg => hb.block g (hC g hg))
theorem OwnH.mod {w w' : World} {S : Nat → Prop} {B : Nat} {v : Value} {xs : List Hd} (h : OwnH w B v xs) (m : Mod S w w') (hd : ∀ k, v.ownBlock = some k → ¬ S k) : OwnH w' B v xs :=
 h.heap (fun g hg => m.block g (h.lt g hg).2 (hd g hg))
section
variable {ops : Array Oper} {rest : List Oper} {o : Oper} {a : Act} {w : World} {K : Act → World → Prop} {Q : Exit → Act → World → Prop}
theorem yieldsIf_loadH {S : World → Prop} {op : Oper} (hw : Region.wanted op (yielded ops a.tmps) = true) (x : Operand) (ho : op.op = .load 31 x) (b off : Nat) (hx : a.eval x = .pointer (some ⟨b, off, none⟩)) (m : Hd) (hm : m.2.length = 32) (hd : ∀ W, S W → W.rangeAt b off (headV m)) :
  YieldsIf Try.prog ops S op (hv m.1 m.2) a :=
 yieldsIf_load_mid hw 31 x ho b off hx (headV m) _ (fun W h => hd W h) Try.underlying31 rfl (info_H.trans (congrArg some (headV_len hm).symm))
end
end Go.Proofs.Ytihbhpggpnmifaa
namespace Go.Proofs.Ytihbhpggpnmifaa
open Go.RowKit Go.Lib Hw
open Go.Deep Go.ChangeShapes Go.WideShapes Go.ChangeAt Go.Joins
def IsStrsZ (w : World) (v : Value) : Prop := ∃ ss n c ad, v = .slice ad n c ∧ n ≤ c ∧ StrRow w v ss ∧ ss.length * 16 ≤ 140737488355240 ∧ ∀ s ∈ ss, s.size ≤ 140737488351232
section
variable {H : Type} {enc : TypeId × Value → H} {W : World} {base : Nat} {sp : Nat → Bool} {b1 : Nat} {held : Bool}
theorem weights_strs : ∀ (l : List ByteArray), (DataW.weightsAll Try.prog 9 (l.map (strD H))).all (· ≤ reachBytes) = true → ∀ s ∈ l, s.size ≤ 140737488351232
 | [], _ => fun s h => by simp at h
 | x :: l, hz => by
  rw [List.map_cons, DataW.weightsAll, List.all_append, Bool.and_eq_true] at hz
  intro s hs
  rcases List.mem_cons.1 hs with rfl | h
  ·have h1 := hz.1
   unfold strD at h1
   rw [DataW.weights] at h1
   simp only [List.all_cons, List.all_nil, Bool.and_true, decide_eq_true_eq] at h1
   rw [Array.length_toList] at h1
   exact h1
  ·exact weights_strs l hz.2 s h
set_option maxRecDepth 100000 in
theorem view_strs_szz {v : Value} {d : DataW H} {p : List MemPlace} (hz : (d.weights Try.prog 37).all (· ≤ reachBytes) = true) (hv : Value.okWide Try.prog W .any b1 37 v) (h : DataW.Trod enc Try.prog W base sp held 37 v d p) : IsStrsZ W v := by
 obtain ⟨a0, len, cap, rfl⟩ := okWide_slice Try.underlying37 hv
 obtain ⟨n, h⟩ := h
 obtain ⟨l, hl, _, hc⟩ := trod_strs h
 refine ⟨l, len, cap, a0, rfl, ?_, hl, ?_⟩
 ·clear hc
  rcases open_slice1 Try.underlying37 cells_string h with ⟨h9, hy⟩ | ⟨a, len', cap', m, k, V, D, Pl, h9, _, hlc, hcm, hm, hy, hx⟩
  ·have h8 := List.cons.inj h9
   have h7 := h8.1
   cases h7
   exact Nat.le_refl _
  ·have h8 := List.cons.inj h9
   have h7 := h8.1
   cases h7
   omega
 rcases hc with ⟨rfl, _⟩ | ⟨spare, hd⟩
 ·exact ⟨by simp, fun s h => by simp at h⟩
 ·simp only at hd
  subst hd
  rw [DataW.weights, Try.underlying37] at hz
  simp only [List.all_cons, List.all_append, Bool.and_eq_true, decide_eq_true_eq, List.length_map, bytes_string] at hz
  have h1 := hz.1
  have h2 : reachBytes = 140737488351232 := rfl
  exact ⟨by omega, weights_strs l hz.2.1⟩
end
end Go.Proofs.Ytihbhpggpnmifaa
namespace Go.Proofs.Ytihbhpggpnmifaa
open Go.RowKit Go.Lib Hw
theorem eqGuardH (s s' : Nat) (l m : Dg) (x y : Operand) (w : World) : (eqGuard .eql 31 x y (hv s l) (hv s' m)).run Try.prog w = .ok () w := run_eqGuard_agg w _ _ _ _ _ _ Try.eqGuardType31
theorem part_dg (cs : Array Value) (off : Nat) (d : Dg) (w : World) (h : cs.extract off (off + 32) = (d.map bv).toArray) : (part 23 cs off).run Try.prog w = .ok (dv d) w := by
 have h1 : (isAgg 23).run Try.prog w = .ok true w := by kernel_rfl
 have h2 : (sizeOf 23).run Try.prog w = .ok 32 w := by kernel_rfl
 unfold part
 simp [h1, h2, h, dv]
theorem part_u64 (cs : Array Value) (off : Nat) (v : Value) (w : World) (h : cs[off]? = some v) : (part 29 cs off).run Try.prog w = .ok v w := by
 have h1 : (isAgg 29).run Try.prog w = .ok false w := by kernel_rfl
 unfold part
 simp [h1, h]
theorem eqDg (d : Nat) (l m : Dg) (hl : l.length = 32) (hm : m.length = 32) (w : World) : (Op.equalIn (d + 2) 23 (dv l) (dv m)).run Try.prog w = .ok (l == m) w :=
 run_equalIn_bytes w d 23 5 32 Try.underlying23 Try.underlying5 (fun w => size_u8 w) l m hl hm
theorem ext_at {α : Type _} (a b c : List α) (i n : Nat) (hi : a.length = i) (hn : b.length = n) : (a ++ (b ++ c)).toArray.extract i (i + n) = b.toArray := by
 rw [List.extract_toArray]
 congr 1
 rw [List.extract_eq_take_drop, List.drop_append_of_le_length (by omega), List.drop_of_length_le (by omega), List.nil_append, Nat.add_sub_cancel_left, List.take_append_of_le_length (by omega), List.take_of_length_le (by omega)]
theorem eqH_d (d s s' : Nat) (l m : Dg) (hl : l.length = 32) (hm : m.length = 32) (w : World) : (Op.equalIn (d + 3) 31 (hv s l) (hv s' m)).run Try.prog w = .ok ((s == s') && (l == m)) w := by
 have h1 := eqDg d l m hl hm w
 have p : ∀ (s : Nat) (d : Dg), d.length = 32 → (part 23 (.int .u64 (s : Int) :: d.map bv).toArray 1).run Try.prog w = .ok (dv d) w := fun s d hd => part_dg _ _ d w (by
  have := ext_at [Value.int .u64 (s : Int)] (d.map bv) [] 1 32 rfl (by rw [List.length_map, hd])
  rw [List.append_nil] at this
  exact this)
 have q : ∀ (s : Nat) (d : Dg), (part 29 (.int .u64 (s : Int) :: d.map bv).toArray 0).run Try.prog w = .ok (.int .u64 (s : Int)) w := fun s d => part_u64 _ _ _ w (by simp)
 have h2 : (Op.equalIn (d + 2) 29 (.int .u64 (s : Int)) (.int .u64 (s' : Int))).run Try.prog w = .ok ((s : Int) == (s' : Int)) w := run_equalIn_int w (d + 1) 29 _ .u64 _ _ Try.underlying29
 have h3 : ((s : Int) == (s' : Int)) = (s == s') := by
  rw [Bool.eq_iff_iff, beq_iff_eq, beq_iff_eq]
  omega
 rw [h3] at h2
 generalize (l == m) = r1 at h1 ⊢
 generalize (s == s') = r2 at h2 ⊢
 unfold hv
 rw [run_equalIn_agg w (d + 2) 31 _ _ (by unfold Program.fieldsOf; rw [Try.underlying31]) Try.stoodInHeld31]
 unfold Program.fieldsOf
 rw [Try.underlying31]
 dsimp only
 rw [Op.eqFields, if_pos (by decide), Sem.run_bind, q, Result.andThen_ok, Sem.run_bind, q, Result.andThen_ok, Sem.run_bind, h2, Result.andThen_ok]
 cases r2
 ·rfl
 ·rw [if_neg (by decide), Op.eqFields, if_pos (by decide), Sem.run_bind, p s l hl, Result.andThen_ok, Sem.run_bind, p s' m hm, Result.andThen_ok, Sem.run_bind, h1, Result.andThen_ok]
  cases r1 <;> rfl
theorem eqH_run (s s' : Nat) (l m : Dg) (hl : l.length = 32) (hm : m.length = 32) (w : World) : (Op.equalIn 10000 31 (hv s l) (hv s' m)).run Try.prog w = .ok ((s == s') && (l == m)) w := eqH_d 9997 s s' l m hl hm w
theorem eqH (s s' : Nat) (l m : Dg) (hl : l.length = 32) (hm : m.length = 32) : ∀ w, (binOp .eql 31 (hv s l) (hv s' m)).run Try.prog w = .ok (.bool ((s == s') && (l == m))) w := fun w => by
 have h := eqH_run s s' l m hl hm w
 unfold hv at h ⊢
 rw [run_eql_struct, h]
 rfl
end Go.Proofs.Ytihbhpggpnmifaa
