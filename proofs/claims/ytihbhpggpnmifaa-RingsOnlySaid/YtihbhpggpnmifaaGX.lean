/-
  Rows of heads of the call's own. The walk of few; rows of strings of which each is bounded. Two heads, two pairs, two steps compared.
-/
import Derived.Test.YtihbhpggpnmifaaGR
import Derived.Test.YtihbhpggpnmifaaGM
import Derived.Laws.StructEq
import Derived.ChangeKeysEq
set_option linter.unusedSimpArgs false
set_option linter.unusedVariables false
namespace Go.Proofs.Ytihbhpggpnmifaa
open Go.RowKit Go.Lib Hw
set_option linter.unusedVariables false

/-- a head in plain words: its size and its digest -/
abbrev Hd := Nat × Dg
def headV (x : Hd) : List Value := hcs x.1 x.2
def rowH (xs : List Hd) : List Value := xs.flatMap headV
def AllH (xs : List Hd) : Prop := ∀ x ∈ xs, x.2.length = 32
theorem AllH.nil : AllH [] := fun d h => by simp at h
theorem AllH.snoc {xs : List Hd} {d : Hd} (h : AllH xs) (hd : d.2.length = 32) : AllH (xs ++ [d]) := fun x hx => by
  rcases List.mem_append.1 hx with h1 | h1
  · exact h x h1
  · rw [List.mem_singleton.1 h1]; exact hd
theorem headV_len {x : Hd} (h : x.2.length = 32) : (headV x).length = 33 := hcs_length x.1 h
theorem rowH_len : ∀ {xs : List Hd}, AllH xs → (rowH xs).length = xs.length * 33
  | [], _ => rfl
  | d :: xs, h => by
    show (headV d ++ rowH xs).length = _
    rw [List.length_append, rowH_len (fun x hx => h x (List.mem_cons_of_mem _ hx)), headV_len (h d (List.mem_cons_self ..)), List.length_cons]
    omega
theorem rowH_at : ∀ {xs : List Hd}, AllH xs → ∀ (i : Nat) (h : i < xs.length) (j : Nat), j < 33 → (rowH xs)[i * 33 + j]? = (headV xs[i])[j]?
  | d :: xs, hA, 0, h, j, hj => by
    have hd := headV_len (hA d (List.mem_cons_self ..))
    show (headV d ++ rowH xs)[0 * 33 + j]? = _
    rw [List.getElem?_append_left (by omega), Nat.zero_mul, Nat.zero_add]
    rfl
  | d :: xs, hA, i + 1, h, j, hj => by
    have hd := headV_len (hA d (List.mem_cons_self ..))
    have e : (i + 1) * 33 + j = 33 + (i * 33 + j) := by omega
    show (headV d ++ rowH xs)[(i + 1) * 33 + j]? = _
    rw [e, List.getElem?_append_right (by omega)]
    have e2 : 33 + (i * 33 + j) - (headV d).length = i * 33 + j := by omega
    rw [e2, rowH_at (fun x hx => hA x (List.mem_cons_of_mem _ hx)) i (by simpa using h) j hj]
    rfl
theorem headV_one (x : Hd) : ∀ u ∈ headV x, u.oneCell' = true := by
  intro u hu
  rcases List.mem_cons.1 hu with rfl | h
  · rfl
  · obtain ⟨y, _, rfl⟩ := List.mem_map.1 h
    rfl
theorem rowH_one (xs : List Hd) : ∀ u ∈ rowH xs, u.oneCell' = true := by
  intro u hu
  obtain ⟨d, _, hd⟩ := List.mem_flatMap.1 hu
  exact headV_one d u hd
def OwnH (w : World) (B : Nat) (v : Value) (xs : List Hd) : Prop := w.ownsRow B 31 33 v xs.length (rowH xs)
theorem infoH : (Try.prog.info? 31).map (fun i => (i.zero, i.size, i.bytes)) = some (some (hv 0 zeros32), 33, 40) := by kernel_rfl
theorem OwnH.nil (w : World) (B : Nat) : OwnH w B (.slice none 0 0) [] := World.ownsRow_nil w B _ 33
theorem OwnH.lt {w : World} {B : Nat} {v : Value} {xs : List Hd} (h : OwnH w B v xs) : ∀ g, v.ownBlock = some g → B ≤ g ∧ g < w.heap.size := World.ownsRow.lt h
theorem OwnH.heap {w w' : World} {B : Nat} {v : Value} {xs : List Hd} (h : OwnH w B v xs) (hk : ∀ g, v.ownBlock = some g → w'.heap[g]? = w.heap[g]?) : OwnH w' B v xs := by
  refine ⟨h.1, ?_⟩
  rcases h.2 with hn | ⟨g, cap, cur, rfl, hB, hg, r⟩
  · exact .inl hn
  · exact .inr ⟨g, cap, cur, rfl, hB, (hk g rfl).trans hg, r⟩
theorem OwnH.below {w w' : World} {B C : Nat} {v : Value} {xs : List Hd} (h : OwnH w B v xs) (hb : Below C w w') (hC : ∀ g, v.ownBlock = some g → g < C) : OwnH w' B v xs := h.heap (fun g hg => hb.block g (hC g hg))
theorem OwnH.mod {w w' : World} {S : Nat → Prop} {B : Nat} {v : Value} {xs : List Hd} (h : OwnH w B v xs) (m : Mod S w w') (hd : ∀ k, v.ownBlock = some k → ¬ S k) : OwnH w' B v xs :=
  h.heap (fun g hg => m.block g (h.lt g hg).2 (hd g hg))
theorem OwnH.range {w : World} {B g n cap : Nat} {xs : List Hd} (h : OwnH w B (.slice (some ⟨g, 0, none⟩) n cap) xs) (hA : AllH xs) (i : Nat) (hi : i < xs.length) : w.rangeAt g (i * 33) (headV xs[i]) := by
  intro j v hv
  have hj : j < 33 := by
    rcases Nat.lt_or_ge j (headV xs[i]).length with h1 | h1
    · rw [headV_len (hA _ (List.getElem_mem hi))] at h1; exact h1
    · rw [List.getElem?_eq_none h1] at hv; cases hv
  have h1 := World.ownsRow.cells (w := w) h (g := g) rfl (i * 33 + j) v (by rw [rowH_at hA i hi j hj]; exact hv)
  have hadd : (⟨g, 0, none⟩ : Addr).add (i * 33 + j) = ⟨g, i * 33 + j, none⟩ := by unfold Addr.add; split <;> simp_all
  rw [hadd] at h1
  exact h1
section
variable {ops : Array Oper} {rest : List Oper} {o : Oper} {a : Act} {w : World} {K : Act → World → Prop} {Q : Exit → Act → World → Prop}
/-- []T{h} of a head -/
theorem wpList_sliceH (hg : o.guard = none) (x : Operand) (ho : o.op = .buildSlice 43 1 #[(0, x)]) (d : Hd) (hd : d.2.length = 32) (hx : a.eval x = hv d.1 d.2)
    (N : Nat) (hN : w.heap.size = N) (h : ∀ W, W.heap[N]? = some (.cells (headV d).toArray 31 (0, 0)) → Below N w W → W.heap.size = N + 1 → wpList Try.prog ops Q rest (a.put o.dst (.slice (some ⟨N, 0, none⟩) 1 1)) W) : wpList Try.prog ops Q (o :: rest) a w := by
  subst hN
  obtain ⟨i, hi, hz0, hz1, hz2⟩ := info_parts infoH
  have hf := Great.fill_whole (s := 33) (by decide) [hv d.1 d.2] ((Array.range (1 * i.size)).map ((hv 0 zeros32).cells[· % (hv 0 zeros32).cells.size]!)) (fun v hv => by
    obtain rfl := List.mem_singleton.1 hv
    show (headV d).toArray.size = 33
    rw [List.size_toArray, headV_len hd]) (by simp [hz1])
  have e : ([hv d.1 d.2].flatMap fun v => v.cells.toList) = headV d := by simp [hv, Value.cells, headV, hcs]
  rw [e] at hf
  refine wpList_plain hg fun _ hK => wp_buildSlice 43 31 1 _ ho (headV d).toArray i (hv 0 zeros32) Try.underlying43 hi hz0 (by rw [hz1]; omega) (by rw [hz1]; omega) ?_ (hK _ _ (h _ (heap_new w _) ((Below.refl _ _).alloc (Nat.le_refl _) _) (by simp)))
  rw [hz1]
  rw [hz1] at hf
  have e2 : (#[(0, x)] : Array (Nat × Operand)).map (fun (i, x) => (i, a.eval x)) = #[(0, hv d.1 d.2)] := by simp [hx]
  rw [e2]
  exact hf
/-- append(hs, h): one head, that was laid into a block of its own -/
theorem wpList_appH (hgd : o.guard = none) (W : World) (d : Hd) (hd : d.2.length = 32) (s y : Operand) (ho : o.op = .call { callee := .builtin .append, args := #[s, y], argTypes := #[43, 43] })
    (B : Nat) (v : Value) (xs : List Hd) (hs : a.eval s = v) (hown : OwnH W B v xs) (g c : Nat) (hy : a.eval y = .slice (some ⟨g, 0, none⟩) 1 c) (hn : W.heap[g]? = some (.cells (headV d).toArray 31 (0, 0)))
    (hlen : xs.length ≤ 1000000000000) (hB : B ≤ W.heap.size)
    (h : ∀ g2 cap2 w', OwnH w' B (.slice (some ⟨g2, 0, none⟩) (xs.length + 1) cap2) (xs ++ [d]) → W.grownBy w' v.ownBlock → (v.ownBlock = some g2 ∨ g2 = W.heap.size) → wpList Try.prog ops Q rest (a.put o.dst (.slice (some ⟨g2, 0, none⟩) (xs.length + 1) cap2)) w') : wpList Try.prog ops Q (o :: rest) a W := by
  obtain ⟨i, hi, hz0, hz1, hz2⟩ := info_parts infoH
  refine wpList_plain hgd fun _ hK => wp_append_lies W s y 43 ho B 31 i (hv 0 zeros32) 33 40 Try.underlying43 hi hz0 hz1 hz2 rfl (by decide) v xs.length (rowH xs) hs hown ⟨g, 0, none⟩ 1 c (headV d) hy (headV_len hd) ?_ (headV_one d) (by decide) (by rw [maxLen_eq]; omega) (by omega) hB W.heap.size rfl ?_
  · intro j u hu
    have hadd : (⟨g, 0, none⟩ : Addr).add j = ⟨g, j, none⟩ := by unfold Addr.add; split <;> simp_all
    rw [hadd, heap_cell hn, List.getElem?_toArray]
    exact hu
  · intro g' cap w' h1 h2 h3 _
    refine hK _ _ (h g' cap w' ?_ h2 h3)
    unfold OwnH
    have e : rowH (xs ++ [d]) = rowH xs ++ headV d := by simp [rowH]
    rw [List.length_append, e]
    exact h1
theorem yieldsIf_loadH {S : World → Prop} {op : Oper} (hw : Region.wanted op (yielded ops a.tmps) = true) (x : Operand) (ho : op.op = .load 31 x) (b off : Nat) (hx : a.eval x = .pointer (some ⟨b, off, none⟩)) (m : Hd) (hm : m.2.length = 32) (hd : ∀ W, S W → W.rangeAt b off (headV m)) :
    YieldsIf Try.prog ops S op (hv m.1 m.2) a :=
  yieldsIf_load_mid hw 31 x ho b off hx (headV m) _ (fun W h => hd W h) Try.underlying31 rfl (info_H.trans (congrArg some (headV_len hm).symm))
end
end Go.Proofs.Ytihbhpggpnmifaa

namespace Go.Proofs.Ytihbhpggpnmifaa
open Go.RowKit Go.Lib Hw
open Go.Deep Go.ChangeShapes Go.WideShapes Go.ChangeAt Go.Joins
set_option linter.unusedVariables false

theorem StrRow.take {w : World} {ad : Option Addr} {n c : Nat} {ss : List ByteArray} (h : StrRow w (.slice ad n c) ss) (k : Nat) (hk : k ≤ ss.length) : StrRow w (.slice ad k c) (ss.take k) := by
  obtain ⟨ad', c', e, h1, h2⟩ := h
  simp only [Value.slice.injEq] at e
  obtain ⟨rfl, rfl, rfl⟩ := e
  refine ⟨ad, c, by rw [List.length_take, Nat.min_eq_left hk], h1, fun hp => ?_⟩
  rw [List.length_take] at hp
  obtain ⟨b, o, rfl, hb⟩ := h2 (by omega)
  refine ⟨b, o, rfl, fun i hi => ?_⟩
  rw [List.length_take] at hi
  rw [hb i (by omega)]
  simp
def IsStrsZ (w : World) (v : Value) : Prop := ∃ ss n c ad, v = .slice ad n c ∧ n ≤ c ∧ StrRow w v ss ∧ ss.length * 16 ≤ 140737488355240 ∧ ∀ s ∈ ss, s.size ≤ 140737488351232
theorem few_any (ad : Option Addr) (n c : Nat) (ss : List ByteArray) (w : World) (hv : Hid (StrRow w (.slice ad n c) ss)) (hc : n ≤ c) (hl : n = ss.length) :
    Calls Try.prog 23 #[.slice ad n c] w fun e w' => e = .returned (.slice ad (min n 24) c) ∧ w = w' := by
  by_cases h : n ≤ 24
  · have d1 : decide (24 < n) = false := decide_eq_false (by omega)
    have d2 : decide ((24 : Int) < (n : Int)) = false := decide_eq_false (by omega)
    rw [Nat.min_eq_left h]
    clear hl
    go_enter Try.func23, Try.ntmps23
    go_wp2_with fail
    go_ret
    exact ⟨rfl, rfl⟩
  · have d1 : decide (24 < n) = true := decide_eq_true (by omega)
    have d2 : decide ((24 : Int) < (n : Int)) = true := decide_eq_true (by omega)
    have hc2 : 24 ≤ c := by omega
    rw [Nat.min_eq_right (by omega)]
    obtain ⟨_, _, e, _, hr⟩ := hv.out
    obtain ⟨b, o, rfl, _⟩ := hr (by omega)
    simp only [Value.slice.injEq] at e
    obtain ⟨rfl, e2, e3⟩ := e
    clear e2 e3 hl hr
    go_enter Try.func23, Try.ntmps23
    go_wp2_with fail
    go_ret
    exact ⟨rfl, rfl⟩
section
variable {H : Type} {enc : TypeId × Value → H} {W : World} {base : Nat} {sp : Nat → Bool} {b1 : Nat} {held : Bool}
theorem weights_strs : ∀ (l : List ByteArray), (DataW.weightsAll Try.prog 9 (l.map (strD H))).all (· ≤ reachBytes) = true → ∀ s ∈ l, s.size ≤ 140737488351232
  | [], _ => fun s h => by simp at h
  | x :: l, hz => by
    rw [List.map_cons, DataW.weightsAll, List.all_append, Bool.and_eq_true] at hz
    intro s hs
    rcases List.mem_cons.1 hs with rfl | h
    · have h1 := hz.1
      unfold strD at h1
      rw [DataW.weights] at h1
      simp only [List.all_cons, List.all_nil, Bool.and_true, decide_eq_true_eq] at h1
      rw [Array.length_toList] at h1
      exact h1
    · exact weights_strs l hz.2 s h
set_option maxRecDepth 100000 in
theorem view_strs_szz {v : Value} {d : DataW H} {p : List MemPlace} (hz : (d.weights Try.prog 37).all (· ≤ reachBytes) = true) (hv : Value.okWide Try.prog W .any b1 37 v) (h : DataW.Trod enc Try.prog W base sp held 37 v d p) : IsStrsZ W v := by
  obtain ⟨a0, len, cap, rfl⟩ := okWide_slice Try.underlying37 hv
  obtain ⟨n, h⟩ := h
  obtain ⟨l, hl, _, hc⟩ := trod_strs h
  refine ⟨l, len, cap, a0, rfl, ?_, hl, ?_⟩
  · clear hc
    rcases open_slice1 Try.underlying37 cells_string h with ⟨h9, hy⟩ | ⟨a, len', cap', m, k, V, D, Pl, h9, _, hlc, hcm, hm, hy, hx⟩
    · have h8 := List.cons.inj h9
      have h7 := h8.1
      cases h7
      exact Nat.le_refl _
    · have h8 := List.cons.inj h9
      have h7 := h8.1
      cases h7
      omega
  rcases hc with ⟨rfl, _⟩ | ⟨spare, hd⟩
  · exact ⟨by simp, fun s h => by simp at h⟩
  · simp only at hd
    subst hd
    rw [DataW.weights, Try.underlying37] at hz
    simp only [List.all_cons, List.all_append, Bool.and_eq_true, decide_eq_true_eq, List.length_map, bytes_string] at hz
    have h1 := hz.1
    have h2 : reachBytes = 140737488351232 := rfl
    exact ⟨by omega, weights_strs l hz.2.1⟩
end
end Go.Proofs.Ytihbhpggpnmifaa

namespace Go.Proofs.Ytihbhpggpnmifaa
open Go.RowKit Go.Lib Hw
set_option linter.unusedVariables false

theorem neGuardH (s s' : Nat) (l m : Dg) (x y : Operand) (w : World) : (eqGuard .neq 31 x y (hv s l) (hv s' m)).run Try.prog w = .ok () w := run_eqGuard_agg w _ _ _ _ _ _ Try.eqGuardType31
theorem eqGuardH (s s' : Nat) (l m : Dg) (x y : Operand) (w : World) : (eqGuard .eql 31 x y (hv s l) (hv s' m)).run Try.prog w = .ok () w := run_eqGuard_agg w _ _ _ _ _ _ Try.eqGuardType31
theorem eqGuardP (l m : Dg) (x y : Operand) (w : World) : (eqGuard .eql 108 x y (dv l) (dv m)).run Try.prog w = .ok () w := run_eqGuard_agg w _ _ _ _ _ _ Try.eqGuardType108
theorem neGuardQ (l m : Dg) (x y : Operand) (w : World) : (eqGuard .neq 106 x y (dv l) (dv m)).run Try.prog w = .ok () w := run_eqGuard_agg w _ _ _ _ _ _ Try.eqGuardType106
theorem part_dg (cs : Array Value) (off : Nat) (d : Dg) (w : World) (h : cs.extract off (off + 32) = (d.map bv).toArray) : (part 23 cs off).run Try.prog w = .ok (dv d) w := by
  have h1 : (isAgg 23).run Try.prog w = .ok true w := by kernel_rfl
  have h2 : (sizeOf 23).run Try.prog w = .ok 32 w := by kernel_rfl
  unfold part
  simp [h1, h2, h, dv]
theorem part_u64 (cs : Array Value) (off : Nat) (v : Value) (w : World) (h : cs[off]? = some v) : (part 29 cs off).run Try.prog w = .ok v w := by
  have h1 : (isAgg 29).run Try.prog w = .ok false w := by kernel_rfl
  unfold part
  simp [h1, h]
theorem eqDg (d : Nat) (l m : Dg) (hl : l.length = 32) (hm : m.length = 32) (w : World) : (Op.equalIn (d + 2) 23 (dv l) (dv m)).run Try.prog w = .ok (l == m) w :=
  run_equalIn_bytes w d 23 5 32 Try.underlying23 Try.underlying5 (fun w => size_u8 w) l m hl hm
theorem ext_at {α : Type _} (a b c : List α) (i n : Nat) (hi : a.length = i) (hn : b.length = n) : (a ++ (b ++ c)).toArray.extract i (i + n) = b.toArray := by
  rw [List.extract_toArray]
  congr 1
  rw [List.extract_eq_take_drop, List.drop_append_of_le_length (by omega), List.drop_of_length_le (by omega), List.nil_append, Nat.add_sub_cancel_left, List.take_append_of_le_length (by omega), List.take_of_length_le (by omega)]
theorem eqH_d (d s s' : Nat) (l m : Dg) (hl : l.length = 32) (hm : m.length = 32) (w : World) : (Op.equalIn (d + 3) 31 (hv s l) (hv s' m)).run Try.prog w = .ok ((s == s') && (l == m)) w := by
  have h1 := eqDg d l m hl hm w
  have p : ∀ (s : Nat) (d : Dg), d.length = 32 → (part 23 (.int .u64 (s : Int) :: d.map bv).toArray 1).run Try.prog w = .ok (dv d) w := fun s d hd => part_dg _ _ d w (by
    have := ext_at [Value.int .u64 (s : Int)] (d.map bv) [] 1 32 rfl (by rw [List.length_map, hd])
    rw [List.append_nil] at this
    exact this)
  have q : ∀ (s : Nat) (d : Dg), (part 29 (.int .u64 (s : Int) :: d.map bv).toArray 0).run Try.prog w = .ok (.int .u64 (s : Int)) w := fun s d => part_u64 _ _ _ w (by simp)
  have h2 : (Op.equalIn (d + 2) 29 (.int .u64 (s : Int)) (.int .u64 (s' : Int))).run Try.prog w = .ok ((s : Int) == (s' : Int)) w := run_equalIn_int w (d + 1) 29 _ .u64 _ _ Try.underlying29
  have h3 : ((s : Int) == (s' : Int)) = (s == s') := by
    rw [Bool.eq_iff_iff, beq_iff_eq, beq_iff_eq]
    omega
  rw [h3] at h2
  generalize (l == m) = r1 at h1 ⊢
  generalize (s == s') = r2 at h2 ⊢
  unfold hv
  rw [run_equalIn_agg w (d + 2) 31 _ _ (by unfold Program.fieldsOf; rw [Try.underlying31]) Try.stoodInHeld31]
  unfold Program.fieldsOf
  rw [Try.underlying31]
  dsimp only
  rw [Op.eqFields, if_pos (by decide), Sem.run_bind, q, Result.andThen_ok, Sem.run_bind, q, Result.andThen_ok, Sem.run_bind, h2, Result.andThen_ok]
  cases r2
  · rfl
  · rw [if_neg (by decide), Op.eqFields, if_pos (by decide), Sem.run_bind, p s l hl, Result.andThen_ok, Sem.run_bind, p s' m hm, Result.andThen_ok, Sem.run_bind, h1, Result.andThen_ok]
    cases r1 <;> rfl
theorem eqH_run (s s' : Nat) (l m : Dg) (hl : l.length = 32) (hm : m.length = 32) (w : World) : (Op.equalIn 10000 31 (hv s l) (hv s' m)).run Try.prog w = .ok ((s == s') && (l == m)) w := eqH_d 9997 s s' l m hl hm w
theorem neH (s s' : Nat) (l m : Dg) (hl : l.length = 32) (hm : m.length = 32) : ∀ w, (binOp .neq 31 (hv s l) (hv s' m)).run Try.prog w = .ok (.bool (!((s == s') && (l == m)))) w := fun w => by
  have h := eqH_run s s' l m hl hm w
  unfold hv at h ⊢
  rw [run_neq_struct, h]
  rfl
theorem eqH (s s' : Nat) (l m : Dg) (hl : l.length = 32) (hm : m.length = 32) : ∀ w, (binOp .eql 31 (hv s l) (hv s' m)).run Try.prog w = .ok (.bool ((s == s') && (l == m))) w := fun w => by
  have h := eqH_run s s' l m hl hm w
  unfold hv at h ⊢
  rw [run_eql_struct, h]
  rfl
theorem app_beq (a b c d : Dg) (ha : a.length = 32) (hc : c.length = 32) : (a ++ b == c ++ d) = ((a == c) && (b == d)) := by
  rw [Bool.eq_iff_iff, Bool.and_eq_true, beq_iff_eq, beq_iff_eq, beq_iff_eq]
  exact ⟨fun e => List.append_inj e (by omega), fun e => by rw [e.1, e.2]⟩
theorem neQ (a b c d : Dg) (ha : a.length = 32) (hb : b.length = 32) (hc : c.length = 32) (hd : d.length = 32) : ∀ w, (binOp .neq 106 (dv (a ++ b)) (dv (c ++ d))).run Try.prog w = .ok (.bool (!(a ++ b == c ++ d))) w := fun w => by
  have p0 : ∀ (a b : Dg), a.length = 32 → (part 23 ((a ++ b).map bv).toArray 0).run Try.prog w = .ok (dv a) w := fun a b ha => part_dg _ _ a w (by
    have := ext_at [] (a.map bv) (b.map bv) 0 32 rfl (by rw [List.length_map, ha])
    rw [List.nil_append] at this
    rw [List.map_append]
    exact this)
  have p1 : ∀ (a b : Dg), a.length = 32 → b.length = 32 → (part 23 ((a ++ b).map bv).toArray 32).run Try.prog w = .ok (dv b) w := fun a b ha hb => part_dg _ _ b w (by
    have := ext_at (a.map bv) (b.map bv) [] 32 32 (by rw [List.length_map, ha]) (by rw [List.length_map, hb])
    rw [List.append_nil] at this
    rw [List.map_append]
    exact this)
  rw [app_beq a b c d ha hc]
  have hr : ∀ n : Nat, (Op.equalIn (n + 3) 106 (dv (a ++ b)) (dv (c ++ d))).run Try.prog w = .ok ((a == c) && (b == d)) w := fun n => by
    have h1 := eqDg n a c ha hc w
    have h2 := eqDg n b d hb hd w
    generalize (a == c) = r1 at h1 ⊢
    generalize (b == d) = r2 at h2 ⊢
    rw [show dv (a ++ b) = .agg ((a ++ b).map bv).toArray from rfl, show dv (c ++ d) = .agg ((c ++ d).map bv).toArray from rfl]
    rw [run_equalIn_agg w (n + 2) 106 _ _ (by unfold Program.fieldsOf; rw [Try.underlying106]) Try.stoodInHeld106]
    unfold Program.fieldsOf
    rw [Try.underlying106]
    dsimp only
    rw [Op.eqFields, if_pos (by decide), Sem.run_bind, p0 a b ha, Result.andThen_ok, Sem.run_bind, p0 c d hc, Result.andThen_ok, Sem.run_bind, h1, Result.andThen_ok]
    cases r1
    · rfl
    · rw [if_neg (by decide), Op.eqFields, if_pos (by decide), Sem.run_bind, p1 a b ha hb, Result.andThen_ok, Sem.run_bind, p1 c d hc hd, Result.andThen_ok, Sem.run_bind, h2, Result.andThen_ok]
      cases r2 <;> rfl
  have hr := hr 9997
  unfold dv at hr ⊢
  rw [run_neq_struct, hr]
  rfl
theorem eqP (a b c d : Dg) (ha : a.length = 32) (hb : b.length = 32) (hc : c.length = 32) (hd : d.length = 32) : ∀ w, (binOp .eql 108 (dv (a ++ b)) (dv (c ++ d))).run Try.prog w = .ok (.bool (a ++ b == c ++ d)) w := fun w => by
  have p0 : ∀ (a b : Dg), a.length = 32 → (part 23 ((a ++ b).map bv).toArray (0 * 32)).run Try.prog w = .ok (dv a) w := fun a b ha => part_dg _ _ a w (by
    have := ext_at [] (a.map bv) (b.map bv) 0 32 rfl (by rw [List.length_map, ha])
    rw [List.nil_append] at this
    rw [List.map_append]
    exact this)
  have p1 : ∀ (a b : Dg), a.length = 32 → b.length = 32 → (part 23 ((a ++ b).map bv).toArray (1 * 32)).run Try.prog w = .ok (dv b) w := fun a b ha hb => part_dg _ _ b w (by
    have := ext_at (a.map bv) (b.map bv) [] 32 32 (by rw [List.length_map, ha]) (by rw [List.length_map, hb])
    rw [List.append_nil] at this
    rw [List.map_append]
    exact this)
  obtain ⟨i, hi⟩ : ∃ i, Try.prog.info? 23 = some i := Option.isSome_iff_exists.1 (by kernel_rfl)
  have hz : Try.prog.cellsOf 23 = 32 := by kernel_rfl
  rw [app_beq a b c d ha hc]
  have hr : ∀ n : Nat, (Op.equalIn (n + 3) 108 (dv (a ++ b)) (dv (c ++ d))).run Try.prog w = .ok ((a == c) && (b == d)) w := fun n => by
    have h1 := eqDg n a c ha hc w
    have h2 := eqDg n b d hb hd w
    generalize (a == c) = r1 at h1 ⊢
    generalize (b == d) = r2 at h2 ⊢
    have hh := run_equalIn_array w (n + 2) ((a ++ b).map bv).toArray ((c ++ d).map bv).toArray Try.underlying108 hi
    rw [hz, show List.range 2 = [0, 1] from rfl] at hh
    refine hh.trans ?_
    rw [Op.eqItems, Sem.run_bind, p0 a b ha, Result.andThen_ok, Sem.run_bind, p0 c d hc, Result.andThen_ok, Sem.run_bind, h1, Result.andThen_ok]
    cases r1
    · rfl
    · rw [if_neg (by decide), Op.eqItems, Sem.run_bind, p1 a b ha hb, Result.andThen_ok, Sem.run_bind, p1 c d hc hd, Result.andThen_ok, Sem.run_bind, h2, Result.andThen_ok]
      cases r2 <;> rfl
  have hr := hr 9997
  unfold dv at hr ⊢
  rw [run_eql_struct, hr]
  rfl
end Go.Proofs.Ytihbhpggpnmifaa

