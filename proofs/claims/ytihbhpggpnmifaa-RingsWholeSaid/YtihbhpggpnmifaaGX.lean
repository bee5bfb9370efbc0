/-
  Rows of heads of the call's own. The walk of few; rows of strings of which each is bounded. Two heads, two pairs, two steps compared. A log with the row of its heads and one head's block, as the walk of RingsWhole holds them. The walk of RingsWhole. RingsWhole.
-/
import Derived.Test.YtihbhpggpnmifaaGR
import Derived.Test.YtihbhpggpnmifaaGM
import Derived.Laws.StructEq
import Derived.ChangeKeysEq
set_option linter.unusedSimpArgs false
set_option linter.unusedVariables false
namespace Go.Proofs.Ytihbhpggpnmifaa
open Go.RowKit Go.Lib Hw
set_option linter.unusedVariables false

/-- a head in plain words: its size and its digest -/
abbrev Hd := Nat × Dg
def headV (x : Hd) : List Value := hcs x.1 x.2
def rowH (xs : List Hd) : List Value := xs.flatMap headV
def AllH (xs : List Hd) : Prop := ∀ x ∈ xs, x.2.length = 32
theorem AllH.nil : AllH [] := fun d h => by simp at h
theorem AllH.snoc {xs : List Hd} {d : Hd} (h : AllH xs) (hd : d.2.length = 32) : AllH (xs ++ [d]) := fun x hx => by
  rcases List.mem_append.1 hx with h1 | h1
  · exact h x h1
  · rw [List.mem_singleton.1 h1]; exact hd
theorem headV_len {x : Hd} (h : x.2.length = 32) : (headV x).length = 33 := hcs_length x.1 h
theorem rowH_len : ∀ {xs : List Hd}, AllH xs → (rowH xs).length = xs.length * 33
  | [], _ => rfl
  | d :: xs, h => by
    show (headV d ++ rowH xs).length = _
    rw [List.length_append, rowH_len (fun x hx => h x (List.mem_cons_of_mem _ hx)), headV_len (h d (List.mem_cons_self ..)), List.length_cons]
    omega
theorem rowH_at : ∀ {xs : List Hd}, AllH xs → ∀ (i : Nat) (h : i < xs.length) (j : Nat), j < 33 → (rowH xs)[i * 33 + j]? = (headV xs[i])[j]?
  | d :: xs, hA, 0, h, j, hj => by
    have hd := headV_len (hA d (List.mem_cons_self ..))
    show (headV d ++ rowH xs)[0 * 33 + j]? = _
    rw [List.getElem?_append_left (by omega), Nat.zero_mul, Nat.zero_add]
    rfl
  | d :: xs, hA, i + 1, h, j, hj => by
    have hd := headV_len (hA d (List.mem_cons_self ..))
    have e : (i + 1) * 33 + j = 33 + (i * 33 + j) := by omega
    show (headV d ++ rowH xs)[(i + 1) * 33 + j]? = _
    rw [e, List.getElem?_append_right (by omega)]
    have e2 : 33 + (i * 33 + j) - (headV d).length = i * 33 + j := by omega
    rw [e2, rowH_at (fun x hx => hA x (List.mem_cons_of_mem _ hx)) i (by simpa using h) j hj]
    rfl
theorem headV_one (x : Hd) : ∀ u ∈ headV x, u.oneCell' = true := by
  intro u hu
  rcases List.mem_cons.1 hu with rfl | h
  · rfl
  · obtain ⟨y, _, rfl⟩ := List.mem_map.1 h
    rfl
theorem rowH_one (xs : List Hd) : ∀ u ∈ rowH xs, u.oneCell' = true := by
  intro u hu
  obtain ⟨d, _, hd⟩ := List.mem_flatMap.1 hu
  exact headV_one d u hd
def OwnH (w : World) (B : Nat) (v : Value) (xs : List Hd) : Prop := w.ownsRow B 31 33 v xs.length (rowH xs)
theorem infoH : (Try.prog.info? 31).map (fun i => (i.zero, i.size, i.bytes)) = some (some (hv 0 zeros32), 33, 40) := by kernel_rfl
theorem OwnH.nil (w : World) (B : Nat) : OwnH w B (.slice none 0 0) [] := World.ownsRow_nil w B _ 33
theorem OwnH.lt {w : World} {B : Nat} {v : Value} {xs : List Hd} (h : OwnH w B v xs) : ∀ g, v.ownBlock = some g → B ≤ g ∧ g < w.heap.size := World.ownsRow.lt h
theorem OwnH.heap {w w' : World} {B : Nat} {v : Value} {xs : List Hd} (h : OwnH w B v xs) (hk : ∀ g, v.ownBlock = some g → w'.heap[g]? = w.heap[g]?) : OwnH w' B v xs := by
  refine ⟨h.1, ?_⟩
  rcases h.2 with hn | ⟨g, cap, cur, rfl, hB, hg, r⟩
  · exact .inl hn
  · exact .inr ⟨g, cap, cur, rfl, hB, (hk g rfl).trans hg, r⟩
theorem OwnH.below {w w' : World} {B C : Nat} {v : Value} {xs : List Hd} (h : OwnH w B v xs) (hb : Below C w w') (hC : ∀ g, v.ownBlock = some g → g < C) : OwnH w' B v xs := h.heap (fun g hg => hb.block g (hC g hg))
theorem OwnH.mod {w w' : World} {S : Nat → Prop} {B : Nat} {v : Value} {xs : List Hd} (h : OwnH w B v xs) (m : Mod S w w') (hd : ∀ k, v.ownBlock = some k → ¬ S k) : OwnH w' B v xs :=
  h.heap (fun g hg => m.block g (h.lt g hg).2 (hd g hg))
theorem OwnH.range {w : World} {B g n cap : Nat} {xs : List Hd} (h : OwnH w B (.slice (some ⟨g, 0, none⟩) n cap) xs) (hA : AllH xs) (i : Nat) (hi : i < xs.length) : w.rangeAt g (i * 33) (headV xs[i]) := by
  intro j v hv
  have hj : j < 33 := by
    rcases Nat.lt_or_ge j (headV xs[i]).length with h1 | h1
    · rw [headV_len (hA _ (List.getElem_mem hi))] at h1; exact h1
    · rw [List.getElem?_eq_none h1] at hv; cases hv
  have h1 := World.ownsRow.cells (w := w) h (g := g) rfl (i * 33 + j) v (by rw [rowH_at hA i hi j hj]; exact hv)
  have hadd : (⟨g, 0, none⟩ : Addr).add (i * 33 + j) = ⟨g, i * 33 + j, none⟩ := by unfold Addr.add; split <;> simp_all
  rw [hadd] at h1
  exact h1
section
variable {ops : Array Oper} {rest : List Oper} {o : Oper} {a : Act} {w : World} {K : Act → World → Prop} {Q : Exit → Act → World → Prop}
/-- []T{h} of a head -/
theorem wpList_sliceH (hg : o.guard = none) (x : Operand) (ho : o.op = .buildSlice 43 1 #[(0, x)]) (d : Hd) (hd : d.2.length = 32) (hx : a.eval x = hv d.1 d.2)
    (N : Nat) (hN : w.heap.size = N) (h : ∀ W, W.heap[N]? = some (.cells (headV d).toArray 31 (0, 0)) → Below N w W → W.heap.size = N + 1 → wpList Try.prog ops Q rest (a.put o.dst (.slice (some ⟨N, 0, none⟩) 1 1)) W) : wpList Try.prog ops Q (o :: rest) a w := by
  subst hN
  obtain ⟨i, hi, hz0, hz1, hz2⟩ := info_parts infoH
  have hf := Great.fill_whole (s := 33) (by decide) [hv d.1 d.2] ((Array.range (1 * i.size)).map ((hv 0 zeros32).cells[· % (hv 0 zeros32).cells.size]!)) (fun v hv => by
    obtain rfl := List.mem_singleton.1 hv
    show (headV d).toArray.size = 33
    rw [List.size_toArray, headV_len hd]) (by simp [hz1])
  have e : ([hv d.1 d.2].flatMap fun v => v.cells.toList) = headV d := by simp [hv, Value.cells, headV, hcs]
  rw [e] at hf
  refine wpList_plain hg fun _ hK => wp_buildSlice 43 31 1 _ ho (headV d).toArray i (hv 0 zeros32) Try.underlying43 hi hz0 (by rw [hz1]; omega) (by rw [hz1]; omega) ?_ (hK _ _ (h _ (heap_new w _) ((Below.refl _ _).alloc (Nat.le_refl _) _) (by simp)))
  rw [hz1]
  rw [hz1] at hf
  have e2 : (#[(0, x)] : Array (Nat × Operand)).map (fun (i, x) => (i, a.eval x)) = #[(0, hv d.1 d.2)] := by simp [hx]
  rw [e2]
  exact hf
/-- append(hs, h): one head, that was laid into a block of its own -/
theorem wpList_appH (hgd : o.guard = none) (W : World) (d : Hd) (hd : d.2.length = 32) (s y : Operand) (ho : o.op = .call { callee := .builtin .append, args := #[s, y], argTypes := #[43, 43] })
    (B : Nat) (v : Value) (xs : List Hd) (hs : a.eval s = v) (hown : OwnH W B v xs) (g c : Nat) (hy : a.eval y = .slice (some ⟨g, 0, none⟩) 1 c) (hn : W.heap[g]? = some (.cells (headV d).toArray 31 (0, 0)))
    (hlen : xs.length ≤ 1000000000000) (hB : B ≤ W.heap.size)
    (h : ∀ g2 cap2 w', OwnH w' B (.slice (some ⟨g2, 0, none⟩) (xs.length + 1) cap2) (xs ++ [d]) → W.grownBy w' v.ownBlock → (v.ownBlock = some g2 ∨ g2 = W.heap.size) → wpList Try.prog ops Q rest (a.put o.dst (.slice (some ⟨g2, 0, none⟩) (xs.length + 1) cap2)) w') : wpList Try.prog ops Q (o :: rest) a W := by
  obtain ⟨i, hi, hz0, hz1, hz2⟩ := info_parts infoH
  refine wpList_plain hgd fun _ hK => wp_append_lies W s y 43 ho B 31 i (hv 0 zeros32) 33 40 Try.underlying43 hi hz0 hz1 hz2 rfl (by decide) v xs.length (rowH xs) hs hown ⟨g, 0, none⟩ 1 c (headV d) hy (headV_len hd) ?_ (headV_one d) (by decide) (by rw [maxLen_eq]; omega) (by omega) hB W.heap.size rfl ?_
  · intro j u hu
    have hadd : (⟨g, 0, none⟩ : Addr).add j = ⟨g, j, none⟩ := by unfold Addr.add; split <;> simp_all
    rw [hadd, heap_cell hn, List.getElem?_toArray]
    exact hu
  · intro g' cap w' h1 h2 h3 _
    refine hK _ _ (h g' cap w' ?_ h2 h3)
    unfold OwnH
    have e : rowH (xs ++ [d]) = rowH xs ++ headV d := by simp [rowH]
    rw [List.length_append, e]
    exact h1
theorem yieldsIf_loadH {S : World → Prop} {op : Oper} (hw : Region.wanted op (yielded ops a.tmps) = true) (x : Operand) (ho : op.op = .load 31 x) (b off : Nat) (hx : a.eval x = .pointer (some ⟨b, off, none⟩)) (m : Hd) (hm : m.2.length = 32) (hd : ∀ W, S W → W.rangeAt b off (headV m)) :
    YieldsIf Try.prog ops S op (hv m.1 m.2) a :=
  yieldsIf_load_mid hw 31 x ho b off hx (headV m) _ (fun W h => hd W h) Try.underlying31 rfl (info_H.trans (congrArg some (headV_len hm).symm))
end
end Go.Proofs.Ytihbhpggpnmifaa

namespace Go.Proofs.Ytihbhpggpnmifaa
open Go.RowKit Go.Lib Hw
open Go.Deep Go.ChangeShapes Go.WideShapes Go.ChangeAt Go.Joins
set_option linter.unusedVariables false

theorem StrRow.take {w : World} {ad : Option Addr} {n c : Nat} {ss : List ByteArray} (h : StrRow w (.slice ad n c) ss) (k : Nat) (hk : k ≤ ss.length) : StrRow w (.slice ad k c) (ss.take k) := by
  obtain ⟨ad', c', e, h1, h2⟩ := h
  simp only [Value.slice.injEq] at e
  obtain ⟨rfl, rfl, rfl⟩ := e
  refine ⟨ad, c, by rw [List.length_take, Nat.min_eq_left hk], h1, fun hp => ?_⟩
  rw [List.length_take] at hp
  obtain ⟨b, o, rfl, hb⟩ := h2 (by omega)
  refine ⟨b, o, rfl, fun i hi => ?_⟩
  rw [List.length_take] at hi
  rw [hb i (by omega)]
  simp
def IsStrsZ (w : World) (v : Value) : Prop := ∃ ss n c ad, v = .slice ad n c ∧ n ≤ c ∧ StrRow w v ss ∧ ss.length * 16 ≤ 140737488355240 ∧ ∀ s ∈ ss, s.size ≤ 140737488351232
theorem few_any (ad : Option Addr) (n c : Nat) (ss : List ByteArray) (w : World) (hv : Hid (StrRow w (.slice ad n c) ss)) (hc : n ≤ c) (hl : n = ss.length) :
    Calls Try.prog 23 #[.slice ad n c] w fun e w' => e = .returned (.slice ad (min n 24) c) ∧ w = w' := by
  by_cases h : n ≤ 24
  · have d1 : decide (24 < n) = false := decide_eq_false (by omega)
    have d2 : decide ((24 : Int) < (n : Int)) = false := decide_eq_false (by omega)
    rw [Nat.min_eq_left h]
    clear hl
    go_enter Try.func23, Try.ntmps23
    go_wp2_with fail
    go_ret
    exact ⟨rfl, rfl⟩
  · have d1 : decide (24 < n) = true := decide_eq_true (by omega)
    have d2 : decide ((24 : Int) < (n : Int)) = true := decide_eq_true (by omega)
    have hc2 : 24 ≤ c := by omega
    rw [Nat.min_eq_right (by omega)]
    obtain ⟨_, _, e, _, hr⟩ := hv.out
    obtain ⟨b, o, rfl, _⟩ := hr (by omega)
    simp only [Value.slice.injEq] at e
    obtain ⟨rfl, e2, e3⟩ := e
    clear e2 e3 hl hr
    go_enter Try.func23, Try.ntmps23
    go_wp2_with fail
    go_ret
    exact ⟨rfl, rfl⟩
section
variable {H : Type} {enc : TypeId × Value → H} {W : World} {base : Nat} {sp : Nat → Bool} {b1 : Nat} {held : Bool}
theorem weights_strs : ∀ (l : List ByteArray), (DataW.weightsAll Try.prog 9 (l.map (strD H))).all (· ≤ reachBytes) = true → ∀ s ∈ l, s.size ≤ 140737488351232
  | [], _ => fun s h => by simp at h
  | x :: l, hz => by
    rw [List.map_cons, DataW.weightsAll, List.all_append, Bool.and_eq_true] at hz
    intro s hs
    rcases List.mem_cons.1 hs with rfl | h
    · have h1 := hz.1
      unfold strD at h1
      rw [DataW.weights] at h1
      simp only [List.all_cons, List.all_nil, Bool.and_true, decide_eq_true_eq] at h1
      rw [Array.length_toList] at h1
      exact h1
    · exact weights_strs l hz.2 s h
set_option maxRecDepth 100000 in
theorem view_strs_szz {v : Value} {d : DataW H} {p : List MemPlace} (hz : (d.weights Try.prog 37).all (· ≤ reachBytes) = true) (hv : Value.okWide Try.prog W .any b1 37 v) (h : DataW.Trod enc Try.prog W base sp held 37 v d p) : IsStrsZ W v := by
  obtain ⟨a0, len, cap, rfl⟩ := okWide_slice Try.underlying37 hv
  obtain ⟨n, h⟩ := h
  obtain ⟨l, hl, _, hc⟩ := trod_strs h
  refine ⟨l, len, cap, a0, rfl, ?_, hl, ?_⟩
  · clear hc
    rcases open_slice1 Try.underlying37 cells_string h with ⟨h9, hy⟩ | ⟨a, len', cap', m, k, V, D, Pl, h9, _, hlc, hcm, hm, hy, hx⟩
    · have h8 := List.cons.inj h9
      have h7 := h8.1
      cases h7
      exact Nat.le_refl _
    · have h8 := List.cons.inj h9
      have h7 := h8.1
      cases h7
      omega
  rcases hc with ⟨rfl, _⟩ | ⟨spare, hd⟩
  · exact ⟨by simp, fun s h => by simp at h⟩
  · simp only at hd
    subst hd
    rw [DataW.weights, Try.underlying37] at hz
    simp only [List.all_cons, List.all_append, Bool.and_eq_true, decide_eq_true_eq, List.length_map, bytes_string] at hz
    have h1 := hz.1
    have h2 : reachBytes = 140737488351232 := rfl
    exact ⟨by omega, weights_strs l hz.2.1⟩
end
end Go.Proofs.Ytihbhpggpnmifaa

namespace Go.Proofs.Ytihbhpggpnmifaa
open Go.RowKit Go.Lib Hw
set_option linter.unusedVariables false

theorem neGuardH (s s' : Nat) (l m : Dg) (x y : Operand) (w : World) : (eqGuard .neq 31 x y (hv s l) (hv s' m)).run Try.prog w = .ok () w := run_eqGuard_agg w _ _ _ _ _ _ Try.eqGuardType31
theorem eqGuardH (s s' : Nat) (l m : Dg) (x y : Operand) (w : World) : (eqGuard .eql 31 x y (hv s l) (hv s' m)).run Try.prog w = .ok () w := run_eqGuard_agg w _ _ _ _ _ _ Try.eqGuardType31
theorem eqGuardP (l m : Dg) (x y : Operand) (w : World) : (eqGuard .eql 108 x y (dv l) (dv m)).run Try.prog w = .ok () w := run_eqGuard_agg w _ _ _ _ _ _ Try.eqGuardType108
theorem neGuardQ (l m : Dg) (x y : Operand) (w : World) : (eqGuard .neq 106 x y (dv l) (dv m)).run Try.prog w = .ok () w := run_eqGuard_agg w _ _ _ _ _ _ Try.eqGuardType106
theorem part_dg (cs : Array Value) (off : Nat) (d : Dg) (w : World) (h : cs.extract off (off + 32) = (d.map bv).toArray) : (part 23 cs off).run Try.prog w = .ok (dv d) w := by
  have h1 : (isAgg 23).run Try.prog w = .ok true w := by kernel_rfl
  have h2 : (sizeOf 23).run Try.prog w = .ok 32 w := by kernel_rfl
  unfold part
  simp [h1, h2, h, dv]
theorem part_u64 (cs : Array Value) (off : Nat) (v : Value) (w : World) (h : cs[off]? = some v) : (part 29 cs off).run Try.prog w = .ok v w := by
  have h1 : (isAgg 29).run Try.prog w = .ok false w := by kernel_rfl
  unfold part
  simp [h1, h]
theorem eqDg (d : Nat) (l m : Dg) (hl : l.length = 32) (hm : m.length = 32) (w : World) : (Op.equalIn (d + 2) 23 (dv l) (dv m)).run Try.prog w = .ok (l == m) w :=
  run_equalIn_bytes w d 23 5 32 Try.underlying23 Try.underlying5 (fun w => size_u8 w) l m hl hm
theorem ext_at {α : Type _} (a b c : List α) (i n : Nat) (hi : a.length = i) (hn : b.length = n) : (a ++ (b ++ c)).toArray.extract i (i + n) = b.toArray := by
  rw [List.extract_toArray]
  congr 1
  rw [List.extract_eq_take_drop, List.drop_append_of_le_length (by omega), List.drop_of_length_le (by omega), List.nil_append, Nat.add_sub_cancel_left, List.take_append_of_le_length (by omega), List.take_of_length_le (by omega)]
theorem eqH_d (d s s' : Nat) (l m : Dg) (hl : l.length = 32) (hm : m.length = 32) (w : World) : (Op.equalIn (d + 3) 31 (hv s l) (hv s' m)).run Try.prog w = .ok ((s == s') && (l == m)) w := by
  have h1 := eqDg d l m hl hm w
  have p : ∀ (s : Nat) (d : Dg), d.length = 32 → (part 23 (.int .u64 (s : Int) :: d.map bv).toArray 1).run Try.prog w = .ok (dv d) w := fun s d hd => part_dg _ _ d w (by
    have := ext_at [Value.int .u64 (s : Int)] (d.map bv) [] 1 32 rfl (by rw [List.length_map, hd])
    rw [List.append_nil] at this
    exact this)
  have q : ∀ (s : Nat) (d : Dg), (part 29 (.int .u64 (s : Int) :: d.map bv).toArray 0).run Try.prog w = .ok (.int .u64 (s : Int)) w := fun s d => part_u64 _ _ _ w (by simp)
  have h2 : (Op.equalIn (d + 2) 29 (.int .u64 (s : Int)) (.int .u64 (s' : Int))).run Try.prog w = .ok ((s : Int) == (s' : Int)) w := run_equalIn_int w (d + 1) 29 _ .u64 _ _ Try.underlying29
  have h3 : ((s : Int) == (s' : Int)) = (s == s') := by
    rw [Bool.eq_iff_iff, beq_iff_eq, beq_iff_eq]
    omega
  rw [h3] at h2
  generalize (l == m) = r1 at h1 ⊢
  generalize (s == s') = r2 at h2 ⊢
  unfold hv
  rw [run_equalIn_agg w (d + 2) 31 _ _ (by unfold Program.fieldsOf; rw [Try.underlying31]) Try.stoodInHeld31]
  unfold Program.fieldsOf
  rw [Try.underlying31]
  dsimp only
  rw [Op.eqFields, if_pos (by decide), Sem.run_bind, q, Result.andThen_ok, Sem.run_bind, q, Result.andThen_ok, Sem.run_bind, h2, Result.andThen_ok]
  cases r2
  · rfl
  · rw [if_neg (by decide), Op.eqFields, if_pos (by decide), Sem.run_bind, p s l hl, Result.andThen_ok, Sem.run_bind, p s' m hm, Result.andThen_ok, Sem.run_bind, h1, Result.andThen_ok]
    cases r1 <;> rfl
theorem eqH_run (s s' : Nat) (l m : Dg) (hl : l.length = 32) (hm : m.length = 32) (w : World) : (Op.equalIn 10000 31 (hv s l) (hv s' m)).run Try.prog w = .ok ((s == s') && (l == m)) w := eqH_d 9997 s s' l m hl hm w
theorem neH (s s' : Nat) (l m : Dg) (hl : l.length = 32) (hm : m.length = 32) : ∀ w, (binOp .neq 31 (hv s l) (hv s' m)).run Try.prog w = .ok (.bool (!((s == s') && (l == m)))) w := fun w => by
  have h := eqH_run s s' l m hl hm w
  unfold hv at h ⊢
  rw [run_neq_struct, h]
  rfl
theorem eqH (s s' : Nat) (l m : Dg) (hl : l.length = 32) (hm : m.length = 32) : ∀ w, (binOp .eql 31 (hv s l) (hv s' m)).run Try.prog w = .ok (.bool ((s == s') && (l == m))) w := fun w => by
  have h := eqH_run s s' l m hl hm w
  unfold hv at h ⊢
  rw [run_eql_struct, h]
  rfl
theorem app_beq (a b c d : Dg) (ha : a.length = 32) (hc : c.length = 32) : (a ++ b == c ++ d) = ((a == c) && (b == d)) := by
  rw [Bool.eq_iff_iff, Bool.and_eq_true, beq_iff_eq, beq_iff_eq, beq_iff_eq]
  exact ⟨fun e => List.append_inj e (by omega), fun e => by rw [e.1, e.2]⟩
theorem neQ (a b c d : Dg) (ha : a.length = 32) (hb : b.length = 32) (hc : c.length = 32) (hd : d.length = 32) : ∀ w, (binOp .neq 106 (dv (a ++ b)) (dv (c ++ d))).run Try.prog w = .ok (.bool (!(a ++ b == c ++ d))) w := fun w => by
  have p0 : ∀ (a b : Dg), a.length = 32 → (part 23 ((a ++ b).map bv).toArray 0).run Try.prog w = .ok (dv a) w := fun a b ha => part_dg _ _ a w (by
    have := ext_at [] (a.map bv) (b.map bv) 0 32 rfl (by rw [List.length_map, ha])
    rw [List.nil_append] at this
    rw [List.map_append]
    exact this)
  have p1 : ∀ (a b : Dg), a.length = 32 → b.length = 32 → (part 23 ((a ++ b).map bv).toArray 32).run Try.prog w = .ok (dv b) w := fun a b ha hb => part_dg _ _ b w (by
    have := ext_at (a.map bv) (b.map bv) [] 32 32 (by rw [List.length_map, ha]) (by rw [List.length_map, hb])
    rw [List.append_nil] at this
    rw [List.map_append]
    exact this)
  rw [app_beq a b c d ha hc]
  have hr : ∀ n : Nat, (Op.equalIn (n + 3) 106 (dv (a ++ b)) (dv (c ++ d))).run Try.prog w = .ok ((a == c) && (b == d)) w := fun n => by
    have h1 := eqDg n a c ha hc w
    have h2 := eqDg n b d hb hd w
    generalize (a == c) = r1 at h1 ⊢
    generalize (b == d) = r2 at h2 ⊢
    rw [show dv (a ++ b) = .agg ((a ++ b).map bv).toArray from rfl, show dv (c ++ d) = .agg ((c ++ d).map bv).toArray from rfl]
    rw [run_equalIn_agg w (n + 2) 106 _ _ (by unfold Program.fieldsOf; rw [Try.underlying106]) Try.stoodInHeld106]
    unfold Program.fieldsOf
    rw [Try.underlying106]
    dsimp only
    rw [Op.eqFields, if_pos (by decide), Sem.run_bind, p0 a b ha, Result.andThen_ok, Sem.run_bind, p0 c d hc, Result.andThen_ok, Sem.run_bind, h1, Result.andThen_ok]
    cases r1
    · rfl
    · rw [if_neg (by decide), Op.eqFields, if_pos (by decide), Sem.run_bind, p1 a b ha hb, Result.andThen_ok, Sem.run_bind, p1 c d hc hd, Result.andThen_ok, Sem.run_bind, h2, Result.andThen_ok]
      cases r2 <;> rfl
  have hr := hr 9997
  unfold dv at hr ⊢
  rw [run_neq_struct, hr]
  rfl
theorem eqP (a b c d : Dg) (ha : a.length = 32) (hb : b.length = 32) (hc : c.length = 32) (hd : d.length = 32) : ∀ w, (binOp .eql 108 (dv (a ++ b)) (dv (c ++ d))).run Try.prog w = .ok (.bool (a ++ b == c ++ d)) w := fun w => by
  have p0 : ∀ (a b : Dg), a.length = 32 → (part 23 ((a ++ b).map bv).toArray (0 * 32)).run Try.prog w = .ok (dv a) w := fun a b ha => part_dg _ _ a w (by
    have := ext_at [] (a.map bv) (b.map bv) 0 32 rfl (by rw [List.length_map, ha])
    rw [List.nil_append] at this
    rw [List.map_append]
    exact this)
  have p1 : ∀ (a b : Dg), a.length = 32 → b.length = 32 → (part 23 ((a ++ b).map bv).toArray (1 * 32)).run Try.prog w = .ok (dv b) w := fun a b ha hb => part_dg _ _ b w (by
    have := ext_at (a.map bv) (b.map bv) [] 32 32 (by rw [List.length_map, ha]) (by rw [List.length_map, hb])
    rw [List.append_nil] at this
    rw [List.map_append]
    exact this)
  obtain ⟨i, hi⟩ : ∃ i, Try.prog.info? 23 = some i := Option.isSome_iff_exists.1 (by kernel_rfl)
  have hz : Try.prog.cellsOf 23 = 32 := by kernel_rfl
  rw [app_beq a b c d ha hc]
  have hr : ∀ n : Nat, (Op.equalIn (n + 3) 108 (dv (a ++ b)) (dv (c ++ d))).run Try.prog w = .ok ((a == c) && (b == d)) w := fun n => by
    have h1 := eqDg n a c ha hc w
    have h2 := eqDg n b d hb hd w
    generalize (a == c) = r1 at h1 ⊢
    generalize (b == d) = r2 at h2 ⊢
    have hh := run_equalIn_array w (n + 2) ((a ++ b).map bv).toArray ((c ++ d).map bv).toArray Try.underlying108 hi
    rw [hz, show List.range 2 = [0, 1] from rfl] at hh
    refine hh.trans ?_
    rw [Op.eqItems, Sem.run_bind, p0 a b ha, Result.andThen_ok, Sem.run_bind, p0 c d hc, Result.andThen_ok, Sem.run_bind, h1, Result.andThen_ok]
    cases r1
    · rfl
    · rw [if_neg (by decide), Op.eqItems, Sem.run_bind, p1 a b ha hb, Result.andThen_ok, Sem.run_bind, p1 c d hc hd, Result.andThen_ok, Sem.run_bind, h2, Result.andThen_ok]
      cases r2 <;> rfl
  have hr := hr 9997
  unfold dv at hr ⊢
  rw [run_eql_struct, hr]
  rfl
end Go.Proofs.Ytihbhpggpnmifaa

namespace Go.Proofs.Ytihbhpggpnmifaa
open Go.RowKit Go.Lib Hw
set_option linter.unusedVariables false

def hdsF (wd : Nat) (L : List Dg) (n : Nat) : List Hd := (List.range n).map (fun j => (j, spanD wd L 0 j))
theorem hdsF_succ (wd : Nat) (L : List Dg) (n : Nat) : hdsF wd L (n + 1) = hdsF wd L n ++ [(n, spanD wd L 0 n)] := by
  unfold hdsF
  rw [List.range_succ, List.map_append]
  rfl
theorem hdsF_len (wd : Nat) (L : List Dg) (n : Nat) : (hdsF wd L n).length = n := by simp [hdsF]
theorem hdsF_at (wd : Nat) (L : List Dg) (n i : Nat) (h : i < (hdsF wd L n).length) : (hdsF wd L n)[i] = (i, spanD wd L 0 i) := by simp [hdsF]
theorem hdsF_all (wd : Nat) (L : List Dg) (hL : All32 L) (n : Nat) (hn : n ≤ L.length + 1) : AllH (hdsF wd L n) := fun x hx => by
  unfold hdsF at hx
  obtain ⟨j, hj, rfl⟩ := List.mem_map.1 hx
  have := List.mem_range.1 hj
  exact spanD_length wd L 0 j hL (by omega)
theorem spanD_take (wd : Nat) (L : List Dg) (n k : Nat) (h : n ≤ k) : spanD wd (L.take k) 0 n = spanD wd L 0 n := by
  unfold spanD
  rw [List.drop_zero, List.drop_zero, List.take_take, Nat.min_eq_left h]
structure WB (w W : World) (N p b P : Nat) (lv : Value) (wd : Nat) (L : List Dg) (hvv : Value) (H : List Hd) (s : Nat) (d : Dg) : Prop where
  log : LogB W N p b lv wd L
  own : OwnH W N hvv H
  all : AllH H
  hb : HB W P s d
  hd : d.length = 32
  bl : Below N w W
  NP : N ≤ P
  pp : P ≠ p
  pb : P ≠ b
  pl : lv.ownBlock ≠ some P
  hp : hvv.ownBlock ≠ some p
  hbb : hvv.ownBlock ≠ some b
  hP : hvv.ownBlock ≠ some P
  hl : ∀ g, hvv.ownBlock = some g → lv.ownBlock ≠ some g
section
variable {w W W' : World} {N p b P : Nat} {lv lv' : Value} {wd : Nat} {L L' : List Dg} {hvv hv' : Value} {H H' : List Hd} {s s' : Nat} {d d' : Dg}
theorem WB.lt (h : WB w W N p b P lv wd L hvv H s d) : P < W.heap.size := heap_lt h.hb
theorem WB.log1 (h : WB w W N p b P lv wd L hvv H s d) (l : LogB W' N p b lv wd L) (m : Mod (fun k => k = b) W W') : WB w W' N p b P lv wd L hvv H s d :=
  have hN := h.bl.size
  have h1 := h.log.hb
  have h2 := h.lt
  have h3 := h.NP
  ⟨l, h.own.mod m (fun k hk e => h.hbb (by rw [hk, e])), h.all, m.heap h.hb h.pb, h.hd, h.bl.trans (m.below (n := N) (fun k hk e => by omega) (by omega)), h.NP, h.pp, h.pb, h.pl, h.hp, h.hbb, h.hP, h.hl⟩
theorem WB.low (h : WB w W N p b P lv wd L hvv H s d) (hb : Below W.heap.size W W') : WB w W' N p b P lv wd L hvv H s d := h.log1 (h.log.below hb) (Mod.of _ hb)
theorem WB.drew (h : WB w W N p b P lv wd L hvv H s d) : WB w W.drew N p b P lv wd L hvv H s d := h.low (Below.refl _ _).drew
theorem WB.add (h : WB w W N p b P lv wd L hvv H s d) (l : LogB W' N p b lv' wd L') (m : Mod (fun k => k = p ∨ lv.ownBlock = some k) W W') (hf : ∀ g, lv'.ownBlock = some g → lv.ownBlock = some g ∨ W.heap.size ≤ g) : WB w W' N p b P lv' wd L' hvv H s d :=
  have h1 := h.log.hp
  have h2 := h.lt
  have h3 := h.NP
  ⟨l, h.own.mod m (fun k hk e => e.elim (fun e => h.hp (by rw [hk, e])) (h.hl k hk)), h.all, m.heap h.hb (fun e => e.elim h.pp h.pl), h.hd,
    h.bl.trans (m.below (n := N) (fun k hk e => e.elim (fun e => by omega) (fun e => by have := (h.log.leaves.lt k e).1; omega)) (by omega)), h.NP, h.pp, h.pb,
    fun e => (hf P e).elim h.pl (fun e => by omega), h.hp, h.hbb, h.hP, fun g hg e => (hf g e).elim (h.hl g hg) (fun e => by have := (h.own.lt g hg).2; omega)⟩
theorem WB.put (h : WB w W N p b P lv wd L hvv H s d) (hk : Kept P W W') (hb : HB W' P s' d') (hd : d'.length = 32) : WB w W' N p b P lv wd L hvv H s' d' :=
  have m : Mod (fun k => k = P) W W' := Mod.kept hk rfl
  have h2 := h.lt
  have h3 := h.NP
  ⟨h.log.mod m (fun e => h.pp e.symm) (fun e => h.pb e.symm) (fun k hk e => h.pl (by rw [hk, e])), h.own.mod m (fun k hk e => h.hP (by rw [hk, e])), h.all, hb, hd,
    h.bl.trans (m.below (n := N) (fun k hk e => by omega) (by omega)), h.NP, h.pp, h.pb, h.pl, h.hp, h.hbb, h.hP, h.hl⟩
theorem WB.app (h : WB w W N p b P lv wd L hvv H s d) (hg : W.grownBy W' hvv.ownBlock) (ho : OwnH W' N hv' H') (ha : AllH H') (hf : ∀ g, hv'.ownBlock = some g → hvv.ownBlock = some g ∨ g = W.heap.size) : WB w W' N p b P lv wd L hv' H' s d :=
  have m : Mod (fun k => hvv.ownBlock = some k) W W' := Mod.grown hg (fun k e => e)
  have h2 := h.lt
  have h3 := h.NP
  have h4 := h.log.lt
  have h5 := h.log.ltb
  ⟨h.log.mod m h.hp h.hbb (fun k hk e => h.hl k e hk), ho, ha, m.heap h.hb h.hP, h.hd,
    h.bl.trans (m.below (n := N) (fun k hk e => by have := (h.own.lt k e).1; omega) (by omega)), h.NP, h.pp, h.pb, h.pl,
    fun e => (hf _ e).elim h.hp (fun e => by omega), fun e => (hf _ e).elim h.hbb (fun e => by omega), fun e => (hf _ e).elim h.hP (fun e => by omega),
    fun g hg e => (hf g hg).elim (fun hh => h.hl g hh e) (fun e2 => by have := (h.log.leaves.lt g e).2; omega)⟩
end
theorem OwnH.form {w : World} {B : Nat} {v : Value} {xs : List Hd} (h : OwnH w B v xs) (hp : 0 < xs.length) : ∃ g cap, v = .slice (some ⟨g, 0, none⟩) xs.length cap := by
  rcases h.2 with ⟨_, h0⟩ | ⟨g, cap, cur, e, _⟩
  · omega
  · exact ⟨g, cap, e⟩
theorem yieldsIf_loadHs {ops : Array Oper} {a : Act} {S : World → Prop} {op : Oper} (hw : Region.wanted op (yielded ops a.tmps) = true) (x : Operand) (ho : op.op = .load 31 x) (b off : Nat) (hx : a.eval x = .pointer (some ⟨b, off, none⟩)) (s : Nat) (d : Dg) (hd : d.length = 32) (hS : ∀ W, S W → W.rangeAt b off (hcs s d)) :
    YieldsIf Try.prog ops S op (hv s d) a := yieldsIf_loadH hw x ho b off hx (s, d) hd hS
/-- the same, whatever the head's block holds -/
def WF (w W : World) (N p b P : Nat) (lv : Value) (wd : Nat) (L : List Dg) (g T cap : Nat) : Prop :=
  ∃ s d, WB w W N p b P lv wd L (.slice (some ⟨g, 0, none⟩) (T + 1) cap) (hdsF wd L (T + 1)) s d
section
variable {w W W' : World} {N p b P : Nat} {lv : Value} {wd : Nat} {L : List Dg} {g T cap : Nat}
theorem WF.log (h : WF w W N p b P lv wd L g T cap) : LogB W N p b lv wd L := h.elim (fun _ h => h.elim (fun _ h => h.log))
theorem WF.log1 (h : WF w W N p b P lv wd L g T cap) (l : LogB W' N p b lv wd L) (m : Mod (fun k => k = b) W W') : WF w W' N p b P lv wd L g T cap := h.elim (fun s h => h.elim (fun d h => ⟨s, d, h.log1 l m⟩))
theorem WF.low (h : WF w W N p b P lv wd L g T cap) (hb : Below W.heap.size W W') : WF w W' N p b P lv wd L g T cap := h.elim (fun s h => h.elim (fun d h => ⟨s, d, h.low hb⟩))
theorem WF.drew (h : WF w W N p b P lv wd L g T cap) : WF w W.drew N p b P lv wd L g T cap := h.low (Below.refl _ _).drew
theorem WF.bl (h : WF w W N p b P lv wd L g T cap) : Below N w W := h.elim (fun _ h => h.elim (fun _ h => h.bl))
theorem WF.range (h : WF w W N p b P lv wd L g T cap) (i : Nat) (hi : i ≤ T) : W.rangeAt g (i * 33) (hcs i (spanD wd L 0 i)) := by
  obtain ⟨s, d, h⟩ := h
  have h1 := h.own.range h.all i (by rw [hdsF_len]; omega)
  rw [hdsF_at] at h1
  exact h1
end
theorem since_len (wd : Nat) (L : List Dg) (m n c : Nat) (hm : m ≤ n) (h : n ≤ 2 ^ c) : (sinceD wd L m n).length ≤ c + 1 := by
  unfold sinceD
  by_cases h0 : m = 0 ∨ m = n
  · rw [if_pos h0]; simp
  · rw [if_neg h0]
    exact since_short wd L c n 0 m true (by omega) hm h
end Go.Proofs.Ytihbhpggpnmifaa

namespace Go.Proofs.Ytihbhpggpnmifaa
open Go.RowKit Go.Lib Hw
set_option linter.unusedVariables false

set_option maxRecDepth 20000 in
set_option maxHeartbeats 4000000 in
theorem Whole_bad (n : Int) (v : Value) (w : World) (h : Hid (wideB n = false)) :
    Calls Try.prog 6 #[.int .i64 n, v] w fun e w' => e = .returned (.bool true) ∧ Below w.heap.size w w' := by
  go_enter Try.func6, Try.ntmps6
  go_upto_region 2 with (go_at_call 22; refine (refRight_any _ _).mono ?_; rintro e w' ⟨rfl, rfl⟩; rw [h.out])
  go_wp2_with (go_at_call 15; refine (lives_any _).mono ?_; rintro e w' ⟨rfl, hb⟩)
  go_ret
  exact ⟨rfl, hb⟩

set_option maxRecDepth 20000 in
set_option maxHeartbeats 16000000 in
theorem Whole_ok (wd : Nat) (hw : 1 ≤ wd) (hwd : wd ≤ 32) (ad : Option Addr) (n c : Nat) (ss : List ByteArray) (w : World) (hv : Hid (StrRow w (.slice ad n c) ss)) (hnc : n ≤ c) (hn : n = ss.length) (hss : Hid (∀ s ∈ ss, s.size ≤ 140737488355300)) :
    Calls Try.prog 6 #[.int .i64 (wd : Int), .slice ad n c] w fun e w' => e = .returned (.bool true) ∧ Below w.heap.size w w' := by
  have hwb : wideB (wd : Int) = true := by simp [wideB]; omega
  have HWb := Lib.hid hwb
  have hfw := few_any ad n c ss w hv hnc hn
  have hT24 : min n 24 ≤ 24 := Nat.min_le_right _ _
  have htk := hv.out.take (min n 24) (by rw [← hn]; exact Nat.min_le_left _ _)
  obtain ⟨T, hT⟩ : ∃ T, min n 24 = T := ⟨_, rfl⟩
  have htl : (ss.take T).length = T := by rw [List.length_take, ← hT]; omega
  rw [hT] at hfw hT24 htk
  obtain ⟨t, ht⟩ : ∃ t, ss.take T = t := ⟨_, rfl⟩
  have hts : ∀ s ∈ t, s.size ≤ 140737488355300 := fun s hs => hss.out s (List.mem_of_mem_take (by rw [ht]; exact hs))
  rw [ht] at htk htl
  obtain ⟨N, hN⟩ : ∃ N, w.heap.size = N := ⟨_, rfl⟩
  rw [hN]
  have HN := Lib.hid hN
  obtain ⟨L, hL⟩ : ∃ L, t.map (leafD wd) = L := ⟨_, rfl⟩
  have hLl : L.length = T := by rw [← hL, List.length_map, htl]
  have hLa : All32 L := by
    rw [← hL]
    intro d hd
    obtain ⟨s, _, rfl⟩ := List.mem_map.1 hd
    exact leafD_length _ _
  have hLs : ∀ k (h : k < t.length), L.take (k + 1) = L.take k ++ [leafD wd t[k]] := fun k h => by
    rw [← hL, ← List.map_take, ← List.map_take, map_take _ _ _ h]
  have hLf : AllFit wd L := by
    rw [← hL]
    intro d hd
    obtain ⟨s, _, rfl⟩ := List.mem_map.1 hd
    exact fit_leaf wd s hw hwd
  have hLg : ∀ k (h : k < t.length) (h2 : k < L.length), L[k] = leafD wd t[k] := fun k h h2 => by
    subst hL
    rw [List.getElem_map]
  have HFew := Lib.hid hfw
  have HT := Lib.hid htk
  have HTl := Lib.hid htl
  have HTs := Lib.hid hts
  have HLl := Lib.hid hLl
  have HLa := Lib.hid hLa
  have HLs := Lib.hid hLs
  have HLf := Lib.hid hLf
  have HLg := Lib.hid hLg
  clear hwb hfw htk htl hts hLl hLa hLs hLf hLg hL ht hT hss hv hN hn
  go_enter Try.func6, Try.ntmps6
  go_upto_region 3 with (go_at_call 22; refine (refRight_any _ _).mono ?_; rintro e w' ⟨rfl, rfl⟩; rw [HWb.out])
  refine wp_region_list ?_
  refine wpList_plain rfl (fun K hK => ?_)
  go_simp
  refine hK _ _ ?_
  clear hK K
  (try simp only [Act.put, nA, nB, nC])
  refine wpList_plain rfl (fun K hK => ?_)
  go_simp
  refine HFew.out.mono ?_; rintro e w' ⟨rfl, rfl⟩
  refine hK _ _ ?_
  clear hK K
  (try simp only [Act.put, nA, nB, nC])
  refine wpList_plain rfl (fun K hK => ?_)
  go_simp
  refine hK _ _ ?_
  clear hK K
  (try simp only [Act.put, nA, nB, nC])
  go_upto_region 4 with fail
  refine wp_region_list ?_
  refine wpList_plain rfl (fun K hK => ?_)
  go_simp
  refine hK _ _ ?_
  clear hK K
  (try simp only [Act.put, nA, nB, nC])
  refine wpList_plain rfl (fun K hK => ?_)
  go_simp
  refine (New_ok wd _ [] w hw hwd (Lib.hid (StrRow.nil _)) (by simp) (Lib.hid (fun s h => by simp at h)) (Lib.hid (fun k h => by simp [Value.ownBlock] at h))).mono ?_; rintro e w1 ⟨p, b, lv, rfl, l1, b1⟩; rw [HN.out] at l1 b1
  refine hK _ _ ?_
  clear hK K
  (try simp only [Act.put, nA, nB, nC])
  have T1 : Hid (LogB w1 N p b lv wd []) := l1
  have B1 := Lib.hid b1
  clear l1 b1
  refine wpList_plain rfl (fun K hK => ?_)
  go_simp
  refine hK _ _ ?_
  clear hK K
  (try simp only [Act.put, nA, nB, nC])
  refine wpList_plain rfl (fun K hK => ?_)
  go_simp
  refine hK _ _ ?_
  clear hK K
  (try simp only [Act.put, nA, nB, nC])
  refine wpList_plain rfl (fun K hK => ?_)
  go_simp
  refine hK _ _ ?_
  clear hK K
  (try simp only [Act.put, nA, nB, nC])
  refine wpList_plain rfl (fun K hK => ?_)
  go_simp
  refine hK _ _ ?_
  clear hK K
  (try simp only [Act.put, nA, nB, nC])
  refine wpList_plain rfl (fun K hK => ?_)
  go_simp
  refine hK _ _ ?_
  clear hK K
  (try simp only [Act.put, nA, nB, nC])
  go_upto_region 5 with fail
  refine wp_region_list ?_
  refine wpList_plain rfl (fun K hK => ?_)
  go_simp
  refine hK _ _ ?_
  clear hK K
  (try simp only [Act.put, nA, nB, nC])
  refine wpList_plain rfl (fun K hK => ?_)
  go_simp
  refine hK _ _ ?_
  clear hK K
  (try simp only [Act.put, nA, nB, nC])
  refine wpList_plain rfl (fun K hK => ?_)
  go_simp
  refine hK _ _ ?_
  clear hK K
  (try simp only [Act.put, nA, nB, nC])
  refine wpList_step (fun K hK => ?_)
  rw [if_pos (by rfl)]
  go_simp
  refine hK _ _ ?_
  clear hK K
  (try simp only [Act.put, nA, nB, nC])
  refine wpList_step (fun K hK => ?_)
  rw [if_pos (by rfl)]
  go_simp
  refine hK _ _ ?_
  clear hK K
  (try simp only [Act.put, nA, nB, nC])
  refine wpList_plain rfl (fun K hK => ?_)
  go_simp
  refine hK _ _ ?_
  clear hK K
  (try simp only [Act.put, nA, nB, nC])
  refine wpList_plain rfl (fun K hK => ?_)
  go_simp
  refine hK _ _ ?_
  clear hK K
  (try simp only [Act.put, nA, nB, nC])
  refine wpList_step (fun K hK => ?_)
  rw [if_pos (by rfl)]
  go_simp
  refine (lives_any _).mono ?_; rintro e w2 ⟨rfl, b2⟩
  refine hK _ _ ?_
  clear hK K
  (try simp only [Act.put, nA, nB, nC])
  have T2 := Lib.hid (T1.out.below b2)
  have B2 := Lib.hid (B1.out.trans (b2.mono (by have := B1.out.size; have := HN.out; omega)))
  clear b2 T1 B1
  refine wpList_step (fun K hK => ?_)
  rw [if_pos (by rfl)]
  go_simp
  refine hK _ _ ?_
  clear hK K
  (try simp only [Act.put, nA, nB, nC])
  refine wpList_plain rfl (fun K hK => ?_)
  go_simp
  refine hK _ _ ?_
  clear hK K
  (try simp only [Act.put, nA, nB, nC])
  go_upto_region 8 with fail
  refine wp_region_list ?_
  refine wpList_plain rfl (fun K hK => ?_)
  go_simp
  refine hK _ _ ?_
  clear hK K
  (try simp only [Act.put, nA, nB, nC])
  refine wpList_plain rfl (fun K hK => ?_)
  go_simp
  refine (Head_yes w2 N p b lv wd [] 0 T2 hw hwd (Nat.le_refl _)).mono ?_; rintro e w3 ⟨rfl, l3, m3⟩
  refine hK _ _ ?_
  clear hK K
  (try simp only [Act.put, nA, nB, nC])
  have hD0 : spanD wd [] 0 0 = spanD wd L 0 0 := by rw [spanD_zero, spanD_zero]
  have hD0l : (spanD wd L 0 0).length = 32 := by rw [spanD_zero]; exact noneD_length _
  rw [hD0]
  obtain ⟨D0, hD⟩ : ∃ D, spanD wd L 0 0 = D := ⟨_, rfl⟩
  rw [hD] at hD0l ⊢
  have HD0 := Lib.hid hD
  have HD0l := Lib.hid hD0l
  clear hD hD0 hD0l
  have T3 := Lib.hid l3
  have B3 := Lib.hid (B2.out.trans (m3.below (n := N) (fun k hk e => by have := T2.out.hb; omega) (by have := B2.out.size; have := HN.out; omega)))
  clear l3 m3 T2 B2
  refine wpList_plain rfl (fun K hK => ?_)
  go_simp
  refine hK _ _ ?_
  clear hK K
  (try simp only [Act.put, nA, nB, nC])
  refine wpList_plain rfl (fun K hK => ?_)
  go_simp
  refine hK _ _ ?_
  clear hK K
  (try simp only [Act.put, nA, nB, nC])
  refine wpList_plain rfl (fun K hK => ?_)
  go_simp
  refine hK _ _ ?_
  clear hK K
  (try simp only [Act.put, nA, nB, nC])
  obtain ⟨P, hP⟩ : ∃ P, w3.heap.size = P := ⟨_, rfl⟩
  refine wpList_allocH rfl rfl P hP ?_
  intro w4 e4 b4 z4
  (try simp only [Act.put, nA, nB, nC])
  refine wpList_storeH rfl _ _ rfl P rfl 0 0 zeros32 D0 rfl HD0l.out e4 rfl ?_
  intro w5 e5 k5 b5 z5
  (try simp only [Act.put, nA, nB, nC])
  refine wpList_plain rfl (fun K hK => ?_)
  go_simp
  refine hK _ _ ?_
  clear hK K
  (try simp only [Act.put, nA, nB, nC])
  have hpP : p < P := by have := T3.out.lt; omega
  have hbP : b < P := by have := T3.out.ltb; omega
  have hNP : N ≤ P := by have := B3.out.size; have := HN.out; omega
  have b35 : Below w3.heap.size w3 w5 := (b4.mono (by omega)).trans (b5.mono (by omega))
  have F5 : Hid (WB w w5 N p b P lv wd [] (.slice none 0 0) [] 0 D0) :=
    ⟨T3.out.below b35, OwnH.nil _ _, AllH.nil, e5, HD0l.out, B3.out.trans (b35.mono (by omega)), hNP, by omega, by omega, fun e => by have := (T3.out.leaves.lt P e).2; omega, by simp [Value.ownBlock], by simp [Value.ownBlock], by simp [Value.ownBlock], fun g hg => by simp [Value.ownBlock] at hg⟩
  have z5' : w5.heap.size = P + 1 := by omega
  clear e4 b4 z4 e5 k5 b5 b35 T3 B3 hP z5
  go_upto_region 9 with fail
  refine wp_region_list ?_
  refine wpList_plain rfl (fun K hK => ?_)
  go_simp
  refine hK _ _ ?_
  clear hK K
  (try simp only [Act.put, nA, nB, nC])
  refine wpList_loadH rfl _ rfl P rfl 0 D0 HD0l.out F5.out.hb ?_
  (try simp only [Act.put, nA, nB, nC])
  refine wpList_sliceH rfl _ rfl (0, D0) HD0l.out rfl (P + 1) z5' ?_
  intro w6 e6 b6 z6
  (try simp only [Act.put, nA, nB, nC])
  have F6 := Lib.hid (F5.out.low (by rw [z5']; exact b6))
  refine wpList_appH rfl w6 (0, D0) HD0l.out _ _ rfl N (.slice none 0 0) [] rfl F6.out.own (P + 1) 1 rfl e6 (by simp) (by omega) ?_
  intro g2 cap2 w7 oh hh sh
  (try simp only [Act.put, nA, nB, nC])
  refine wpList_plain rfl (fun K hK => ?_)
  go_simp
  refine hK _ _ ?_
  clear hK K
  (try simp only [Act.put, nA, nB, nC])
  have F7 : Hid (WB w w7 N p b P lv wd [] (.slice (some ⟨g2, 0, none⟩) 1 cap2) (hdsF wd L 1) 0 D0) := by
    refine F6.out.app hh ?_ (hdsF_all wd L HLa.out 1 (by omega)) (fun g hg => ?_)
    · have e : hdsF wd L 1 = [] ++ [(0, D0)] := by rw [← HD0.out]; rfl
      rw [e]
      exact oh
    · have e : g2 = g := Option.some.inj hg
      subst e
      exact sh
  clear e6 b6 z6 oh hh sh F5 F6 z5'
  go_upto_region 11 with fail
  go_loopw [7, 8, 10] (fun ev hvv i wr => ∃ (k : Nat) (lvk : Value), k ≤ T ∧ ev = .int .i64 0 ∧ Hid (∃ s d, WB w wr N p b P lvk wd (L.take k) hvv (hdsF wd L (k + 1)) s d) ∧ i = .int .i64 (k : Int)) (fun _ _ i _ => T - (intOf i).toNat)
  case atStart => exact ⟨0, lv, Nat.zero_le _, rfl, ⟨0, D0, F7.out⟩, rfl⟩
  case round =>
    obtain ⟨k, lvk, hk, rfl, HW, rfl⟩ := hrel
    clear F7 HFew
    by_cases hlt : k < T
    case pos =>
      have dk : decide (k < T) = true := decide_eq_true hlt
      have dk2 : decide ((k : Int) < (T : Int)) = true := decide_eq_true (by omega)
      have ik : (k : Int) < (T : Int) := by omega
      obtain ⟨s0, d0, f0⟩ := HW.out
      have F0 := Lib.hid f0
      clear HW f0
      have hkt : k < t.length := by rw [HTl.out]; exact hlt
      have hrow := HT.out.below' (by rw [HN.out]; exact F0.out.bl)
      obtain ⟨vad', vc', hvv', hvs⟩ := strRow_form hrow
      rw [HTl.out] at hvv'
      obtain ⟨rfl, rfl⟩ : ad = vad' ∧ c = vc' := by simpa using hvv'
      obtain ⟨vb, vo, rfl, hcs⟩ := hvs (by omega)
      have hc := hcs k hkt
      have hsz := HTs.out t[k] (List.getElem_mem hkt)
      have hnext := HLs.out k hkt
      obtain ⟨s, hs⟩ : ∃ s, t[k] = s := ⟨_, rfl⟩
      rw [hs] at hc hsz hnext
      have HNx := Lib.hid hnext
      have HSz := Lib.hid hsz
      clear hcs hvs hvv' hs hnext hrow hsz hkt
      go_upto_region 13 with fail
      refine wp_region_list ?_
      refine wpList_plain rfl (fun K hK => ?_)
      go_simp
      refine hK _ _ ?_
      clear hK K
      (try simp only [Act.put, nA, nB, nC])
      refine wpList_plain rfl (fun K hK => ?_)
      go_simp
      refine hK _ _ ?_
      clear hK K
      (try simp only [Act.put, nA, nB, nC])
      refine wpList_plain rfl (fun K hK => ?_)
      go_simp
      refine hK _ _ ?_
      clear hK K
      (try simp only [Act.put, nA, nB, nC])
      refine wpList_step (fun K hK => ?_)
      rw [if_pos (by rfl)]
      go_simp
      refine hK _ _ ?_
      clear hK K
      (try simp only [Act.put, nA, nB, nC])
      refine wpList_step (fun K hK => ?_)
      rw [if_pos (by rfl)]
      go_simp
      refine hK _ _ ?_
      clear hK K
      (try simp only [Act.put, nA, nB, nC])
      refine wpList_step (fun K hK => ?_)
      rw [if_pos (by rfl)]
      go_simp
      refine hK _ _ ?_
      clear hK K
      (try simp only [Act.put, nA, nB, nC])
      refine wpList_step (fun K hK => ?_)
      rw [if_pos (by rfl)]
      go_simp
      refine hK _ _ ?_
      clear hK K
      (try simp only [Act.put, nA, nB, nC])
      refine wpList_step (fun K hK => ?_)
      rw [if_pos (by rfl)]
      go_simp
      refine hK _ _ ?_
      clear hK K
      (try simp only [Act.put, nA, nB, nC])
      obtain ⟨u, hu⟩ : ∃ u, wr.heap.size = u := ⟨_, rfl⟩
      have hpu : p < u := by have := F0.out.log.lt; omega
      have hlu : Hid (∀ g, lvk.ownBlock = some g → g < u) := fun g hg => by have := (F0.out.log.leaves.lt g hg).2; omega
      refine wpList_step (fun K hK => ?_)
      rw [if_pos (by rfl)]
      go_simp
      refine hK _ _ ?_
      clear hK K
      (try simp only [Act.put, nA, nB, nC])
      obtain ⟨wa, hwa⟩ : ∃ W, wr.alloc (.cells #[.string s] 9) = W := ⟨_, rfl⟩
      have Ra : Hid (StrRow wa (.slice (some ⟨u, 0, none⟩) 1 1) [s]) := by rw [← hwa]; exact StrRow.oneAt wr s _ u hu
      have ba : Below wr.heap.size wr wa := by rw [← hwa]; exact (Below.refl _ _).alloc (Nat.le_refl _) _
      have za : wa.heap.size = u + 1 := by rw [← hwa]; simp [hu]
      rw [hwa]
      have Fa := Lib.hid (F0.out.low ba)
      clear ba F0 hwa hc
      have hkl : (L.take k).length = k := by rw [List.length_take, HLl.out]; omega
      refine wpList_step (fun K hK => ?_)
      rw [if_pos (by rfl)]
      go_simp
      refine (Add_yes wa N p b lvk wd (L.take k) _ [s] (Lib.hid Fa.out.log) hw hwd Ra (by rw [hkl]; simp; omega) (Lib.hid (fun x hx => by rw [List.mem_singleton.1 hx]; exact HSz.out)) (by have := Fa.out.bl.size; have := HN.out; omega) (Lib.hid (fun k hk => by obtain rfl := Option.some.inj hk; exact ⟨by show u < _; omega, by show u ≠ p; omega, fun e => by have h : u < u := hlu.out _ e; omega⟩))).mono ?_; rintro e wc ⟨rfl, lv2, lc, mc, oc⟩
      refine hK _ _ ?_
      clear hK K
      (try simp only [Act.put, nA, nB, nC])
      have lc' : LogB wc N p b lv2 wd (L.take (k + 1)) := by rw [HNx.out]; exact lc
      have Fc := Lib.hid (Fa.out.add lc' mc oc)
      clear lc lc' mc oc Fa hkl Ra HNx HSz hlu
      refine wpList_step (fun K hK => ?_)
      rw [if_pos (by rfl)]
      go_simp
      refine hK _ _ ?_
      clear hK K
      (try simp only [Act.put, nA, nB, nC])
      refine wpList_plain rfl (fun K hK => ?_)
      go_simp
      refine hK _ _ ?_
      clear hK K
      (try simp only [Act.put, nA, nB, nC])
      have hk1 : (k : Int) + 1 = ((k + 1 : Nat) : Int) := by omega
      have hk2 : (L.take (k + 1)).length = k + 1 := by rw [List.length_take, HLl.out]; omega
      have hsp := spanD_take wd L (k + 1) (k + 1) (Nat.le_refl _)
      have hDl := spanD_length wd L 0 (k + 1) HLa.out (by rw [HLl.out]; omega)
      have HHs := Lib.hid (hdsF_succ wd L (k + 1))
      have HAl := Lib.hid (hdsF_all wd L HLa.out (k + 1 + 1) (by rw [HLl.out]; omega))
      have HHl := Lib.hid (hdsF_len wd L (k + 1))
      obtain ⟨D, hD⟩ : ∃ D, spanD wd L 0 (k + 1) = D := ⟨_, rfl⟩
      obtain ⟨k1, hkk⟩ : ∃ k1, k + 1 = k1 := ⟨_, rfl⟩
      rw [hkk] at hD hk1 Fc hk2 hsp hDl HHs HAl HHl
      rw [hD] at hsp hDl HHs
      have HDl := Lib.hid hDl
      have HK2 := Lib.hid hk2
      have HSp := Lib.hid hsp
      have hk124 : k1 ≤ 24 := by omega
      have wk1 : IntKind.u64.wrap (k1 : Int) = (k1 : Int) := IntWalk.u64_in _ (by omega)
      have wk2 : IntKind.i64.wrap (k1 : Int) = (k1 : Int) := IntWalk.i64_in _ (by omega)
      clear hD hDl hk2 hsp
      have HKK := Lib.hid hkk
      clear hkk
      go_upto_region 15 with fail
      refine wp_region_list ?_
      refine wpList_plain rfl (fun K hK => ?_)
      go_simp
      refine hK _ _ ?_
      clear hK K
      (try simp only [Act.put, nA, nB, nC])
      refine wpList_plain rfl (fun K hK => ?_)
      go_simp
      refine hK _ _ ?_
      clear hK K
      (try simp only [Act.put, nA, nB, nC])
      refine wpList_plain rfl (fun K hK => ?_)
      go_simp
      refine hK _ _ ?_
      clear hK K
      (try simp only [Act.put, nA, nB, nC])
      refine wpList_plain rfl (fun K hK => ?_)
      go_simp
      refine hK _ _ ?_
      clear hK K
      (try simp only [Act.put, nA, nB, nC])
      refine wpList_plain rfl (fun K hK => ?_)
      go_simp
      refine (Head_yes wc N p b lv2 wd (L.take k1) k1 (Lib.hid Fc.out.log) hw hwd (by rw [HK2.out]; omega)).mono ?_; rintro e wx ⟨rfl, lx, mx⟩; rw [HSp.out]
      refine hK _ _ ?_
      clear hK K
      (try simp only [Act.put, nA, nB, nC])
      have Fx := Lib.hid (Fc.out.log1 lx mx)
      clear lx mx Fc
      refine wpList_plain rfl (fun K hK => ?_)
      go_simp
      refine hK _ _ ?_
      clear hK K
      (try simp only [Act.put, nA, nB, nC])
      refine wpList_plain rfl (fun K hK => ?_)
      go_simp
      refine hK _ _ ?_
      clear hK K
      (try simp only [Act.put, nA, nB, nC])
      refine wpList_plain rfl (fun K hK => ?_)
      go_simp
      refine hK _ _ ?_
      clear hK K
      (try simp only [Act.put, nA, nB, nC])
      refine wpList_storeH rfl _ _ rfl P rfl s0 k1 d0 D Fx.out.hd HDl.out Fx.out.hb rfl ?_
      intro wy ey ky _ _
      (try simp only [Act.put, nA, nB, nC])
      refine wpList_plain rfl (fun K hK => ?_)
      go_simp
      refine hK _ _ ?_
      clear hK K
      (try simp only [Act.put, nA, nB, nC])
      have Fy := Lib.hid (Fx.out.put ky ey HDl.out)
      clear Fx ey ky
      obtain ⟨u2, hu2⟩ : ∃ u, wy.heap.size = u := ⟨_, rfl⟩
      go_upto_region 16 with fail
      refine wp_region_list ?_
      refine wpList_plain rfl (fun K hK => ?_)
      go_simp
      refine hK _ _ ?_
      clear hK K
      (try simp only [Act.put, nA, nB, nC])
      refine wpList_loadH rfl _ rfl P rfl k1 D HDl.out Fy.out.hb ?_
      (try simp only [Act.put, nA, nB, nC])
      refine wpList_sliceH rfl _ rfl (k1, D) HDl.out rfl u2 hu2 ?_
      intro wz ez bz zz
      (try simp only [Act.put, nA, nB, nC])
      have Fz := Lib.hid (Fy.out.low (by rw [hu2]; exact bz))
      refine wpList_appH rfl wz (k1, D) HDl.out _ _ rfl N _ _ rfl Fz.out.own u2 1 rfl ez (by rw [HHl.out]; omega) (by have := Fz.out.bl.size; have := HN.out; omega) ?_
      intro g3 cap3 wq oh hh sh
      (try simp only [Act.put, nA, nB, nC])
      refine wpList_plain rfl (fun K hK => ?_)
      go_simp
      refine hK _ _ ?_
      clear hK K
      (try simp only [Act.put, nA, nB, nC])
      have Fq : Hid (∃ s d, WB w wq N p b P lv2 wd (L.take k1) (.slice (some ⟨g3, 0, none⟩) (k1 + 1) cap3) (hdsF wd L (k1 + 1)) s d) := by
        rw [HHl.out] at oh
        refine ⟨k1, D, Fz.out.app hh ?_ HAl.out (fun g hg => ?_)⟩
        · rw [HHs.out]
          exact oh
        · have e : g3 = g := Option.some.inj hg
          subst e
          exact sh
      clear Fz ez bz zz oh hh sh Fy
      rw [HHl.out]
      go_wp2_with fail
      have e1 := HKK.out
      exact ⟨⟨k1, lv2, by omega, rfl, Fq, by go_num⟩, by simp [intOf]; omega⟩
    case neg =>
      have dk : decide (k < T) = false := decide_eq_false hlt
      have dk2 : decide ((k : Int) < (T : Int)) = false := decide_eq_false (by omega)
      obtain rfl : k = T := by omega
      have hfull : L.take k = L := List.take_of_length_le (by rw [HLl.out]; exact Nat.le_refl _)
      obtain ⟨s0, d0, f0⟩ := HW.out
      rw [hfull] at f0
      obtain ⟨g, cap, rfl⟩ : ∃ g cap, u8 = .slice (some ⟨g, 0, none⟩) (k + 1) cap := by
        have h := f0.own.form (by rw [hdsF_len]; omega)
        rw [hdsF_len] at h
        exact h
      have F0 : Hid (WF w wr N p b P lvk wd L g k cap) := ⟨s0, d0, f0⟩
      have hTk : (k : Int) + 1 = ((k + 1 : Nat) : Int) := by omega
      obtain ⟨T1, hT1⟩ : ∃ T1, k + 1 = T1 := ⟨_, rfl⟩
      have HT1 := Lib.hid hT1
      have HT1i : Hid (((k + 1 : Nat) : Int) = (T1 : Int)) := by show _ = _; omega
      clear f0 HW hfull HLs hlt hk hTk hT1 s0 d0
      go_upto_region 18 with fail
      obtain ⟨wo, rfl⟩ : ∃ wo : World, wo = wr := ⟨_, rfl⟩
      clear dk dk2
      go_loopw [11] (fun i wr => ∃ (size : Nat), size ≤ k + 1 ∧ Hid (WF w wr N p b P lvk wd L g k cap) ∧ i = .int .i64 (size : Int)) (fun i _ => k + 1 - (intOf i).toNat)
      case atStart => exact ⟨0, Nat.zero_le _, F0, rfl⟩
      case round =>
        obtain ⟨size, hsz, F, rfl⟩ := hrel
        clear F0
        by_cases hlt : size ≤ k
        case neg =>
          have dk : decide (size ≤ k) = false := decide_eq_false hlt
          have dk2 : decide ((size : Int) ≤ (k : Int)) = false := decide_eq_false (by omega)
          go_wp2_with fail
          go_ret
          exact ⟨rfl, F.out.bl⟩
        case pos =>
          have dk : decide (size ≤ k) = true := decide_eq_true hlt
          have dk2 : decide ((size : Int) ≤ (k : Int)) = true := decide_eq_true (by omega)
          have hs24 : size ≤ 24 := by omega
          have ws1 : IntKind.u64.wrap (size : Int) = (size : Int) := IntWalk.u64_in _ (by omega)
          have hSDl := spanD_length wd L 0 size HLa.out (by rw [HLl.out]; omega)
          obtain ⟨SD, hSD⟩ : ∃ SD, spanD wd L 0 size = SD := ⟨_, rfl⟩
          rw [hSD] at hSDl
          have HSD := Lib.hid hSD
          have HSDl := Lib.hid hSDl
          clear hSD hSDl
          go_upto_region 20 with fail
          refine wp_region_list ?_
          refine wpList_plain rfl (fun K hK => ?_)
          go_simp
          refine hK _ _ ?_
          clear hK K
          (try simp only [Act.put, nA, nB, nC])
          refine wpList_plain rfl (fun K hK => ?_)
          go_simp
          refine hK _ _ ?_
          clear hK K
          (try simp only [Act.put, nA, nB, nC])
          refine wpList_plain rfl (fun K hK => ?_)
          go_simp
          refine hK _ _ ?_
          clear hK K
          (try simp only [Act.put, nA, nB, nC])
          refine wpList_plain rfl (fun K hK => ?_)
          go_simp
          refine (Head_yes wr N p b lvk wd L size (Lib.hid F.out.log) hw hwd (by rw [HLl.out]; omega)).mono ?_; rintro e wx ⟨rfl, lx, mx⟩; rw [HSD.out]
          refine hK _ _ ?_
          clear hK K
          (try simp only [Act.put, nA, nB, nC])
          have Fx := Lib.hid (F.out.log1 lx mx)
          clear lx mx F
          refine wpList_plain rfl (fun K hK => ?_)
          go_simp
          refine hK _ _ ?_
          clear hK K
          (try simp only [Act.put, nA, nB, nC])
          refine wpList_plain rfl (fun K hK => ?_)
          go_simp
          refine hK _ _ ?_
          clear hK K
          (try simp only [Act.put, nA, nB, nC])
          refine wpList_plain rfl (fun K hK => ?_)
          go_simp
          refine hK _ _ ?_
          clear hK K
          (try simp only [Act.put, nA, nB, nC])
          obtain ⟨x, hx⟩ : ∃ x, wx.heap.size = x := ⟨_, rfl⟩
          refine wpList_allocH rfl rfl x hx ?_
          intro w4 e4 b4 z4
          (try simp only [Act.put, nA, nB, nC])
          refine wpList_storeH rfl _ _ rfl x rfl 0 size zeros32 SD rfl HSDl.out e4 rfl ?_
          intro w5 e5 k5 b5 z5
          (try simp only [Act.put, nA, nB, nC])
          refine wpList_plain rfl (fun K hK => ?_)
          go_simp
          refine hK _ _ ?_
          clear hK K
          (try simp only [Act.put, nA, nB, nC])
          have F5 := Lib.hid (Fx.out.low (by rw [hx]; exact b4.trans b5))
          have hcx : w5.cell? ⟨x, 0, none⟩ = some (.int .u64 (size : Int)) := by rw [heap_cell e5]; rfl
          have H5 : Hid (w5.rangeAt x 0 (hcs size SD) ∧ w5.rangeAt g (size * 33) (hcs size SD) ∧ w5.cell? ⟨x, 0, none⟩ = some (.int .u64 (size : Int))) := ⟨range_all (cs := hcs size SD) e5, by rw [← HSD.out]; exact F5.out.range size hlt, hcx⟩
          clear e4 b4 z4 e5 k5 b5 z5 Fx hcx hx
          have hq := neH size size SD SD HSDl.out HSDl.out
          rw [beq_self_eq_true, beq_self_eq_true] at hq
          have hqg := neGuardH size size SD SD
          have isz : (size : Int) < ((k + 1 : Nat) : Int) := by omega
          have isz2 : (size : Int) < (k : Int) + 1 := by omega
          go_upto_region 21 with fail
          refine wp_region_held_drew (S := fun W => W.rangeAt x 0 (hcs size SD) ∧ W.rangeAt g (size * 33) (hcs size SD) ∧ W.cell? ⟨x, 0, none⟩ = some (.int .u64 (size : Int))) (by kernel_rfl) H5.out (fun hHeld => ?_)
          refine' wpAnyH_take (i := 0) (oi := ⟨some 99, .move (.tmp 13), 24, "outright.go:58", #[], none⟩) rfl (by kernel_rfl) (by kernel_rfl) (by kernel_rfl) (fun _ _ _ h => h) (Or.inl ⟨by rfl, _⟩) (by assumption) _
          rotate_left
          · (intro wS hSw; (try dsimp only at hSw); go_simp; try with_reducible rfl)
          try simp only [Act.put, nA, nB, nC]
          refine' wpAnyH_take (i := 1) (oi := ⟨some 100, .binOp .neq 24 (.tmp 99) (.const (.int .i64 0)) 24, 4, "outright.go:58", #[⟨0, .data⟩], none⟩) rfl (by kernel_rfl) (by kernel_rfl) (by kernel_rfl) (fun _ _ _ h => h) (Or.inl ⟨by rfl, _⟩) (by assumption) _
          rotate_left
          · (intro wS hSw; (try dsimp only at hSw); go_simp; try with_reducible rfl)
          try simp only [Act.put, nA, nB, nC]
          refine' wpAnyH_take (i := 2) (oi := ⟨some 101, .move (.tmp 100), 4, "outright.go:58", #[⟨1, .data⟩], none⟩) rfl (by kernel_rfl) (by kernel_rfl) (by kernel_rfl) (fun _ _ _ h => h) (Or.inl ⟨by rfl, _⟩) (by assumption) _
          rotate_left
          · (intro wS hSw; (try dsimp only at hSw); go_simp; try with_reducible rfl)
          try simp only [Act.put, nA, nB, nC]
          refine' wpAnyH_take (i := 3) (oi := ⟨some 102, .load 31 (.tmp 12), 31, "outright.go:58", #[⟨2, .guard⟩], some (2, false)⟩) rfl (by kernel_rfl) (by kernel_rfl) (by kernel_rfl) (fun _ _ _ h => h) (yieldsIf_loadHs (by rfl) _ rfl x 0 rfl size SD HSDl.out (fun W hW => hW.1)) (by assumption) _
          (try simp only [Act.put, nA, nB, nC])
          refine' wpAnyH_take (i := 4) (oi := ⟨some 103, .move (.tmp 8), 43, "outright.go:58", #[⟨2, .guard⟩], some (2, false)⟩) rfl (by kernel_rfl) (by kernel_rfl) (by kernel_rfl) (fun _ _ _ h => h) (Or.inl ⟨by rfl, _⟩) (by assumption) _
          rotate_left
          · (intro wS hSw; (try dsimp only at hSw); go_simp; try with_reducible rfl)
          try simp only [Act.put, nA, nB, nC]
          refine' wpAnyH_take (i := 5) (oi := ⟨some 104, .move (.tmp 11), 3, "outright.go:58", #[⟨2, .guard⟩], some (2, false)⟩) rfl (by kernel_rfl) (by kernel_rfl) (by kernel_rfl) (fun _ _ _ h => h) (Or.inl ⟨by rfl, _⟩) (by assumption) _
          rotate_left
          · (intro wS hSw; (try dsimp only at hSw); go_simp; try with_reducible rfl)
          try simp only [Act.put, nA, nB, nC]
          refine' wpAnyH_take (i := 6) (oi := ⟨some 105, .indexAddr 43 (.tmp 103) (.tmp 104), 0, "outright.go:58", #[⟨4, .data⟩, ⟨5, .data⟩, ⟨2, .guard⟩], some (2, false)⟩) rfl (by kernel_rfl) (by kernel_rfl) (by kernel_rfl) (fun _ _ _ h => h) (Or.inl ⟨by rfl, _⟩) (by assumption) _
          rotate_left
          · (intro wS hSw; (try dsimp only at hSw); go_simp; try with_reducible rfl)
          try simp only [Act.put, nA, nB, nC]
          refine' wpAnyH_take (i := 7) (oi := ⟨some 106, .load 31 (.tmp 105), 31, "outright.go:58", #[⟨6, .data⟩, ⟨2, .guard⟩], some (2, false)⟩) rfl (by kernel_rfl) (by kernel_rfl) (by kernel_rfl) (fun _ _ _ h => h) (yieldsIf_loadHs (by rfl) _ rfl g (size * 33) rfl size SD HSDl.out (fun W hW => hW.2.1)) (by assumption) _
          (try simp only [Act.put, nA, nB, nC])
          refine' wpAnyH_take (i := 8) (oi := ⟨some 107, .binOp .neq 31 (.tmp 102) (.tmp 106) 31, 4, "outright.go:58", #[⟨3, .data⟩, ⟨7, .data⟩, ⟨2, .guard⟩], some (2, false)⟩) rfl (by kernel_rfl) (by kernel_rfl) (by kernel_rfl) (fun _ _ _ h => h) (Or.inl ⟨by rfl, _⟩) (by assumption) _
          rotate_left
          · (intro wS hSw; (try dsimp only at hSw); go_simp; try with_reducible rfl)
          try simp only [Act.put, nA, nB, nC]
          refine' wpAnyH_take (i := 9) (oi := ⟨some 108, .pick (.tmp 101) (.const (.bool true)) (.tmp 107), 4, "outright.go:58", #[⟨2, .data⟩, ⟨8, .data⟩], none⟩) rfl (by kernel_rfl) (by kernel_rfl) (by kernel_rfl) (fun _ _ _ h => h) (Or.inl ⟨by rfl, _⟩) (by assumption) _
          rotate_left
          · (intro wS hSw; (try dsimp only at hSw); go_simp; try with_reducible rfl)
          try simp only [Act.put, nA, nB, nC]
          refine' wpAnyH_take (i := 10) (oi := ⟨some 109, .move (.tmp 108), 4, "outright.go:58", #[⟨9, .data⟩, ⟨2, .chain⟩], none⟩) rfl (by kernel_rfl) (by kernel_rfl) (by kernel_rfl) (fun _ _ _ h => h) (Or.inl ⟨by rfl, _⟩) (by assumption) _
          rotate_left
          · (intro wS hSw; (try dsimp only at hSw); go_simp; try with_reducible rfl)
          try simp only [Act.put, nA, nB, nC]
          refine' wpAnyH_take (i := 11) (oi := ⟨some 110, .fieldAddr 31 (.tmp 12) 0, 0, "outright.go:58", #[⟨10, .guard⟩], some (10, false)⟩) rfl (by kernel_rfl) (by kernel_rfl) (by kernel_rfl) (fun _ _ _ h => h) (Or.inl ⟨by rfl, _⟩) (by assumption) _
          rotate_left
          · (intro wS hSw; (try dsimp only at hSw); go_simp; try with_reducible rfl)
          try simp only [Act.put, nA, nB, nC]
          refine' wpAnyH_take (i := 12) (oi := ⟨some 111, .load 29 (.tmp 110), 29, "outright.go:58", #[⟨11, .data⟩, ⟨10, .guard⟩], some (10, false)⟩) rfl (by kernel_rfl) (by kernel_rfl) (by kernel_rfl) (fun _ _ _ h => h) (Or.inl ⟨by rfl, _⟩) (by assumption) _
          rotate_left
          · (intro wS hSw; (try dsimp only at hSw); go_simp; try with_reducible rfl)
          try simp only [Act.put, nA, nB, nC]
          refine' wpAnyH_take (i := 13) (oi := ⟨some 112, .move (.tmp 11), 3, "outright.go:58", #[⟨10, .guard⟩], some (10, false)⟩) rfl (by kernel_rfl) (by kernel_rfl) (by kernel_rfl) (fun _ _ _ h => h) (Or.inl ⟨by rfl, _⟩) (by assumption) _
          rotate_left
          · (intro wS hSw; (try dsimp only at hSw); go_simp; try with_reducible rfl)
          try simp only [Act.put, nA, nB, nC]
          refine' wpAnyH_take (i := 14) (oi := ⟨some 113, .convert 3 29 (.tmp 112), 29, "outright.go:58", #[⟨13, .data⟩, ⟨10, .guard⟩], some (10, false)⟩) rfl (by kernel_rfl) (by kernel_rfl) (by kernel_rfl) (fun _ _ _ h => h) (Or.inl ⟨by rfl, _⟩) (by assumption) _
          rotate_left
          · (intro wS hSw; (try dsimp only at hSw); go_simp; try with_reducible rfl)
          try simp only [Act.put, nA, nB, nC]
          refine' wpAnyH_take (i := 15) (oi := ⟨some 114, .binOp .neq 29 (.tmp 111) (.tmp 113) 29, 4, "outright.go:58", #[⟨12, .data⟩, ⟨14, .data⟩, ⟨10, .guard⟩], some (10, false)⟩) rfl (by kernel_rfl) (by kernel_rfl) (by kernel_rfl) (fun _ _ _ h => h) (Or.inl ⟨by rfl, _⟩) (by assumption) _
          rotate_left
          · (intro wS hSw; (try dsimp only at hSw); go_simp; try with_reducible rfl)
          try simp only [Act.put, nA, nB, nC]
          refine' wpAnyH_take (i := 16) (oi := ⟨some 115, .pick (.tmp 109) (.const (.bool true)) (.tmp 114), 4, "outright.go:58", #[⟨10, .data⟩, ⟨15, .data⟩], none⟩) rfl (by kernel_rfl) (by kernel_rfl) (by kernel_rfl) (fun _ _ _ h => h) (Or.inl ⟨by rfl, _⟩) (by assumption) _
          rotate_left
          · (intro wS hSw; (try dsimp only at hSw); go_simp; try with_reducible rfl)
          try simp only [Act.put, nA, nB, nC]
          refine wpAnyH_done (by kernel_rfl) ?_ _
          clear hq hqg hHeld H5
          have F6 := Lib.hid F5.out.drew
          clear F5
          go_upto_region 25 with fail
          obtain ⟨w6, rfl⟩ : ∃ w6 : World, w6 = w5.drew := ⟨_, rfl⟩
          go_loopw [14, 15] (fun s c wr => ∃ (j c' : Nat), s = .int .i64 (j : Int) ∧ c = .int .i64 (c' : Int) ∧ 1 ≤ c' ∧ c' ≤ 64 ∧ j ≤ c' ∧ Hid (c' = 2 ^ j) ∧ Hid (WF w wr N p b P lvk wd L g k cap)) (fun _ c _ => 100 - (intOf c).toNat)
          case atStart => exact ⟨0, 1, rfl, rfl, by omega, by omega, by omega, rfl, F6⟩
          case round =>
            obtain ⟨j, c', rfl, rfl, hc1, hc2, hj, HP, F⟩ := hrel
            clear F6
            by_cases hlc : c' < size
            case pos =>
              have dc : decide (c' < size) = true := decide_eq_true hlc
              have dc2 : decide ((c' : Int) < (size : Int)) = true := decide_eq_true (by omega)
              obtain ⟨c2, hc3⟩ : ∃ c2, 2 * c' = c2 := ⟨_, rfl⟩
              have hc4 : (2 : Int) * (c' : Int) = (c2 : Int) := by omega
              have hc5 : IntKind.i64.wrap (c2 : Int) = (c2 : Int) := IntWalk.i64_in _ (by omega)
              have hc6 : c2 ≤ 64 := by omega
              have hc7 : c' < c2 := by omega
              have HP2 : Hid (c2 = 2 ^ (j + 1)) := by show _ = _; rw [Nat.pow_succ, ← HP.out]; omega
              have hj2 : j + 1 ≤ c2 := by omega
              clear hc3
              go_wp2_with fail
              exact ⟨⟨j + 1, c2, by go_num, rfl, by omega, hc6, hj2, HP2, F⟩, by simp [intOf]; omega⟩
            case neg =>
              have dc : decide (c' < size) = false := decide_eq_false hlc
              have dc2 : decide ((c' : Int) < (size : Int)) = false := decide_eq_false (by omega)
              have HJ : Hid (size ≤ 2 ^ j) := by show _ ≤ _; rw [← HP.out]; omega
              have hj64 : j ≤ 64 := by omega
              go_upto_region 29 with fail
              obtain ⟨w7, rfl⟩ : ∃ w7 : World, w7 = wr := ⟨_, rfl⟩
              clear dc dc2 HP hc1 hc2 hj hlc
              go_loopw [16] (fun i wr => ∃ (i' : Nat), i' ≤ size ∧ Hid (WF w wr N p b P lvk wd L g k cap) ∧ i = .int .i64 (i' : Int)) (fun i _ => size - (intOf i).toNat)
              case atStart => exact ⟨0, Nat.zero_le _, F, rfl⟩
              case round =>
                obtain ⟨i, hi, F0, rfl⟩ := hrel
                clear F
                by_cases his : i < size
                case pos =>
                  have di : decide (i < size) = true := decide_eq_true his
                  have di2 : decide ((i : Int) < (size : Int)) = true := decide_eq_true (by omega)
                  have wi1 : IntKind.u64.wrap (i : Int) = (i : Int) := IntWalk.u64_in _ (by omega)
                  have hiL : i < L.length := by rw [HLl.out]; omega
                  have hit : i < t.length := by rw [HTl.out]; omega
                  have hTL := trail_short wd L j size 0 i HJ.out
                  have hho := holds_own wd L i size hw hwd HLf.out his (by rw [HLl.out]; omega) (by omega) hiL
                  have hLi := HLg.out i hit hiL
                  obtain ⟨D, hD⟩ : ∃ D, L[i] = D := ⟨_, rfl⟩
                  have hDl : D.length = 32 := by rw [← hD]; exact HLa.out _ (List.getElem_mem hiL)
                  obtain ⟨TR, hTR⟩ : ∃ TR, trailP wd L 0 i size = TR := ⟨_, rfl⟩
                  obtain ⟨TL, hTLe⟩ : ∃ TL, TR.length = TL := ⟨_, rfl⟩
                  rw [hTR, hTLe] at hTL
                  rw [HSD.out, hD, hTR] at hho
                  rw [hD] at hLi
                  have HTR := Lib.hid hTR
                  have HTLe := Lib.hid hTLe
                  have HHo := Lib.hid hho
                  have HLi := Lib.hid hLi
                  have HDi := Lib.hid hD
                  have HDl := Lib.hid hDl
                  have HiL := Lib.hid hiL
                  have hrow := HT.out.below' (by rw [HN.out]; exact F0.out.bl)
                  obtain ⟨vad', vc', hvv', hvs⟩ := strRow_form hrow
                  rw [HTl.out] at hvv'
                  obtain ⟨rfl, rfl⟩ : ad = vad' ∧ c = vc' := by simpa using hvv'
                  obtain ⟨vb, vo, rfl, hcs⟩ := hvs (by omega)
                  have hssz := HTs.out t[i] (List.getElem_mem hit)
                  obtain ⟨s, hs⟩ : ∃ s, t[i] = s := ⟨_, rfl⟩
                  rw [hs] at hssz HLi
                  have HS := Lib.hid hs
                  have HSz := Lib.hid hssz
                  have Hit := Lib.hid hit
                  clear hD hDl hTR hTLe hho hLi hs hssz hvv' hvs hrow hcs
                  go_upto_region 31 with fail
                  refine wp_region_list ?_
                  refine wpList_plain rfl (fun K hK => ?_)
                  go_simp
                  refine hK _ _ ?_
                  clear hK K
                  (try simp only [Act.put, nA, nB, nC])
                  refine wpList_plain rfl (fun K hK => ?_)
                  go_simp
                  refine hK _ _ ?_
                  clear hK K
                  (try simp only [Act.put, nA, nB, nC])
                  refine wpList_plain rfl (fun K hK => ?_)
                  go_simp
                  refine hK _ _ ?_
                  clear hK K
                  (try simp only [Act.put, nA, nB, nC])
                  refine wpList_plain rfl (fun K hK => ?_)
                  go_simp
                  refine hK _ _ ?_
                  clear hK K
                  (try simp only [Act.put, nA, nB, nC])
                  refine wpList_plain rfl (fun K hK => ?_)
                  go_simp
                  refine hK _ _ ?_
                  clear hK K
                  (try simp only [Act.put, nA, nB, nC])
                  refine wpList_plain rfl (fun K hK => ?_)
                  go_simp
                  refine (Trail_yes wr N p b lvk wd L i size (Lib.hid F0.out.log) hw hwd (by rw [HLl.out]; omega) his).mono ?_; rintro e wx ⟨tv, rfl, o1, a1, l1, m1⟩
                  refine hK _ _ ?_
                  clear hK K
                  (try simp only [Act.put, nA, nB, nC])
                  rw [HTR.out] at o1 a1
                  obtain ⟨tad, tcap, htv, _⟩ := o1.shape
                  rw [HTLe.out] at htv
                  subst htv
                  have F1 := Lib.hid (F0.out.log1 l1 m1)
                  have O1 := Lib.hid o1
                  have A1 := Lib.hid a1
                  clear o1 a1 l1 m1 F0
                  refine wpList_plain rfl (fun K hK => ?_)
                  go_simp
                  refine hK _ _ ?_
                  clear hK K
                  (try simp only [Act.put, nA, nB, nC])
                  refine wpList_plain rfl (fun K hK => ?_)
                  go_simp
                  refine hK _ _ ?_
                  clear hK K
                  (try simp only [Act.put, nA, nB, nC])
                  refine wpList_plain rfl (fun K hK => ?_)
                  go_simp
                  refine hK _ _ ?_
                  clear hK K
                  (try simp only [Act.put, nA, nB, nC])
                  refine wpList_plain rfl (fun K hK => ?_)
                  go_simp
                  refine hK _ _ ?_
                  clear hK K
                  (try simp only [Act.put, nA, nB, nC])
                  refine wpList_plain rfl (fun K hK => ?_)
                  go_simp
                  refine hK _ _ ?_
                  clear hK K
                  (try simp only [Act.put, nA, nB, nC])
                  go_upto_region 32 with fail
                  refine wp_region_list ?_
                  refine wpList_plain rfl (fun K hK => ?_)
                  go_simp
                  refine hK _ _ ?_
                  clear hK K
                  (try simp only [Act.put, nA, nB, nC])
                  refine wpList_plain rfl (fun K hK => ?_)
                  go_simp
                  refine hK _ _ ?_
                  clear hK K
                  (try simp only [Act.put, nA, nB, nC])
                  refine wpList_plain rfl (fun K hK => ?_)
                  go_simp
                  refine hK _ _ ?_
                  clear hK K
                  (try simp only [Act.put, nA, nB, nC])
                  refine wpList_plain rfl (fun K hK => ?_)
                  go_simp
                  refine (LLeaf_yes wx N p b lvk wd L i (Lib.hid F1.out.log) hw HiL.out).mono ?_; rintro e w2 ⟨rfl, b2⟩; rw [HDi.out]
                  refine hK _ _ ?_
                  clear hK K
                  (try simp only [Act.put, nA, nB, nC])
                  have F2 := Lib.hid (F1.out.low b2)
                  have O2 := Lib.hid (O1.out.below b2 (fun g hg => (O1.out.lt g hg).2))
                  clear b2 F1 O1
                  refine wpList_plain rfl (fun K hK => ?_)
                  go_simp
                  refine hK _ _ ?_
                  clear hK K
                  (try simp only [Act.put, nA, nB, nC])
                  refine wpList_plain rfl (fun K hK => ?_)
                  go_simp
                  refine hK _ _ ?_
                  clear hK K
                  (try simp only [Act.put, nA, nB, nC])
                  refine wpList_plain rfl (fun K hK => ?_)
                  go_simp
                  refine hK _ _ ?_
                  clear hK K
                  (try simp only [Act.put, nA, nB, nC])
                  obtain ⟨y, hy⟩ : ∃ y, w2.heap.size = y := ⟨_, rfl⟩
                  refine wpList_allocD rfl rfl y hy ?_
                  intro w3 e3 b3 z3
                  (try simp only [Act.put, nA, nB, nC])
                  refine wpList_storeD rfl _ _ rfl y rfl zeros32 D rfl HDl.out rfl e3 ?_
                  intro w4 e4 b4 k4 z4
                  (try simp only [Act.put, nA, nB, nC])
                  refine wpList_plain rfl (fun K hK => ?_)
                  go_simp
                  refine hK _ _ ?_
                  clear hK K
                  (try simp only [Act.put, nA, nB, nC])
                  have b24 : Below w2.heap.size w2 w4 := (b3.trans b4).mono (by omega)
                  have F4 := Lib.hid (F2.out.low b24)
                  have O4 := Lib.hid (O2.out.below b24 (fun g hg => (O2.out.lt g hg).2))
                  have Y4 := Lib.hid e4
                  have hyz : y < w4.heap.size := heap_lt e4
                  clear e3 b3 z3 e4 b4 k4 z4 b24 F2 O2 hy
                  have hrow := HT.out.below' (by rw [HN.out]; exact F4.out.bl)
                  obtain ⟨_, _, hvv', hvs⟩ := strRow_form hrow
                  have hvv2 := (Value.slice.inj hvv').1
                  obtain ⟨vb', vo', e8, hcs⟩ := hvs (by have := Hit.out; omega)
                  rw [e8] at hvv2
                  have hc := hcs i Hit.out
                  rw [HS.out] at hc
                  cases hvv2
                  clear hvs hrow hcs e8 hvv'
                  have iT : (i : Int) < (k : Int) := by omega
                  go_upto_region 33 with fail
                  refine wp_region_list ?_
                  refine wpList_plain rfl (fun K hK => ?_)
                  go_simp
                  refine hK _ _ ?_
                  clear hK K
                  (try simp only [Act.put, nA, nB, nC])
                  refine wpList_plain rfl (fun K hK => ?_)
                  go_simp
                  refine hK _ _ ?_
                  clear hK K
                  (try simp only [Act.put, nA, nB, nC])
                  refine wpList_plain rfl (fun K hK => ?_)
                  go_simp
                  refine hK _ _ ?_
                  clear hK K
                  (try simp only [Act.put, nA, nB, nC])
                  refine wpList_plain rfl (fun K hK => ?_)
                  go_simp
                  refine hK _ _ ?_
                  clear hK K
                  (try simp only [Act.put, nA, nB, nC])
                  refine wpList_plain rfl (fun K hK => ?_)
                  go_simp
                  refine hK _ _ ?_
                  clear hK K
                  (try simp only [Act.put, nA, nB, nC])
                  refine wpList_plain rfl (fun K hK => ?_)
                  go_simp
                  refine (Leaf_any wd s w4 hw hwd HSz.out).mono ?_; rintro e w5 ⟨rfl, b5⟩; rw [← HLi.out]
                  refine hK _ _ ?_
                  clear hK K
                  (try simp only [Act.put, nA, nB, nC])
                  have F5 := Lib.hid (F4.out.low b5)
                  have O5 := Lib.hid (O4.out.below b5 (fun g hg => (O4.out.lt g hg).2))
                  have Y5 := Lib.hid (heap_below Y4.out b5 hyz)
                  clear b5 F4 O4 Y4 hc
                  refine wpList_plain rfl (fun K hK => ?_)
                  go_simp
                  refine hK _ _ ?_
                  clear hK K
                  (try simp only [Act.put, nA, nB, nC])
                  refine wpList_plain rfl (fun K hK => ?_)
                  go_simp
                  refine hK _ _ ?_
                  clear hK K
                  (try simp only [Act.put, nA, nB, nC])
                  refine wpList_plain rfl (fun K hK => ?_)
                  go_simp
                  refine hK _ _ ?_
                  clear hK K
                  (try simp only [Act.put, nA, nB, nC])
                  obtain ⟨z, hz⟩ : ∃ z, w5.heap.size = z := ⟨_, rfl⟩
                  refine wpList_allocD rfl rfl z hz ?_
                  intro w6 e6 b6 z6
                  (try simp only [Act.put, nA, nB, nC])
                  refine wpList_storeD rfl _ _ rfl z rfl zeros32 D rfl HDl.out rfl e6 ?_
                  intro w7 e7 b7 k7 z7
                  (try simp only [Act.put, nA, nB, nC])
                  refine wpList_plain rfl (fun K hK => ?_)
                  go_simp
                  refine hK _ _ ?_
                  clear hK K
                  (try simp only [Act.put, nA, nB, nC])
                  have b57 : Below w5.heap.size w5 w7 := (b6.trans b7).mono (by omega)
                  have F7 := Lib.hid (F5.out.low b57)
                  have O7 := Lib.hid (O5.out.below b57 (fun g hg => (O5.out.lt g hg).2))
                  have hyz : y < w5.heap.size := heap_lt Y5.out
                  have Y7 := Lib.hid (heap_below Y5.out b57 hyz)
                  have Z7 := Lib.hid e7
                  have hyw : y < w7.heap.size := heap_lt Y7.out
                  have hzw : z < w7.heap.size := heap_lt e7
                  clear e6 b6 z6 e7 b7 k7 z7 b57 F5 O5 Y5 hz hyz
                  have isz : (size : Int) < ((k + 1 : Nat) : Int) := by omega
                  have isz2 : (size : Int) < (k : Int) + 1 := by omega
                  have hg1 : decide (j < TL) = false := decide_eq_false (by omega)
                  have hg2 : decide ((j : Int) < (TL : Int)) = false := decide_eq_false (by omega)
                  have hq := neD D D HDl.out HDl.out
                  rw [beq_self_eq_true] at hq
                  have hqg := neGuardD D D
                  have H7 : Hid (DB w7 y D ∧ DB w7 z D ∧ w7.rangeAt g (size * 33) (hcs size SD)) := ⟨Y7.out, Z7.out, by rw [← HSD.out]; exact F7.out.range size hlt⟩
                  have dr : Hid (DRow w7.drew w7.drew.heap.size (.slice tad TL tcap) TR) := Lib.hid (O7.out.drow A1.out (by rw [HTLe.out]; omega))
                  go_upto_region 34 with fail
                  refine wp_region_held_drew (S := fun W => DB W y D ∧ DB W z D ∧ W.rangeAt g (size * 33) (hcs size SD)) (by kernel_rfl) H7.out (fun hHeld => ?_)
                  refine' wpAnyH_take (i := 0) (oi := ⟨some 153, .move (.tmp 18), 24, "outright.go:69", #[], none⟩) rfl (by kernel_rfl) (by kernel_rfl) (by kernel_rfl) (fun _ _ _ h => h) (Or.inl ⟨by rfl, _⟩) (by assumption) _
                  rotate_left
                  · (intro wS hSw; (try dsimp only at hSw); go_simp; try with_reducible rfl)
                  try simp only [Act.put, nA, nB, nC]
                  refine' wpAnyH_take (i := 1) (oi := ⟨some 154, .binOp .neq 24 (.tmp 153) (.const (.int .i64 0)) 24, 4, "outright.go:69", #[⟨0, .data⟩], none⟩) rfl (by kernel_rfl) (by kernel_rfl) (by kernel_rfl) (fun _ _ _ h => h) (Or.inl ⟨by rfl, _⟩) (by assumption) _
                  rotate_left
                  · (intro wS hSw; (try dsimp only at hSw); go_simp; try with_reducible rfl)
                  try simp only [Act.put, nA, nB, nC]
                  refine' wpAnyH_take (i := 2) (oi := ⟨some 155, .move (.tmp 154), 4, "outright.go:69", #[⟨1, .data⟩], none⟩) rfl (by kernel_rfl) (by kernel_rfl) (by kernel_rfl) (fun _ _ _ h => h) (Or.inl ⟨by rfl, _⟩) (by assumption) _
                  rotate_left
                  · (intro wS hSw; (try dsimp only at hSw); go_simp; try with_reducible rfl)
                  try simp only [Act.put, nA, nB, nC]
                  refine' wpAnyH_take (i := 3) (oi := ⟨some 156, .move (.tmp 20), 24, "outright.go:69", #[⟨2, .guard⟩], some (2, false)⟩) rfl (by kernel_rfl) (by kernel_rfl) (by kernel_rfl) (fun _ _ _ h => h) (Or.inl ⟨by rfl, _⟩) (by assumption) _
                  rotate_left
                  · (intro wS hSw; (try dsimp only at hSw); go_simp; try with_reducible rfl)
                  try simp only [Act.put, nA, nB, nC]
                  refine' wpAnyH_take (i := 4) (oi := ⟨some 157, .binOp .neq 24 (.tmp 156) (.const (.int .i64 0)) 24, 4, "outright.go:69", #[⟨3, .data⟩, ⟨2, .guard⟩], some (2, false)⟩) rfl (by kernel_rfl) (by kernel_rfl) (by kernel_rfl) (fun _ _ _ h => h) (Or.inl ⟨by rfl, _⟩) (by assumption) _
                  rotate_left
                  · (intro wS hSw; (try dsimp only at hSw); go_simp; try with_reducible rfl)
                  try simp only [Act.put, nA, nB, nC]
                  refine' wpAnyH_take (i := 5) (oi := ⟨some 158, .pick (.tmp 155) (.const (.bool true)) (.tmp 157), 4, "outright.go:69", #[⟨2, .data⟩, ⟨4, .data⟩], none⟩) rfl (by kernel_rfl) (by kernel_rfl) (by kernel_rfl) (fun _ _ _ h => h) (Or.inl ⟨by rfl, _⟩) (by assumption) _
                  rotate_left
                  · (intro wS hSw; (try dsimp only at hSw); go_simp; try with_reducible rfl)
                  try simp only [Act.put, nA, nB, nC]
                  refine' wpAnyH_take (i := 6) (oi := ⟨some 159, .move (.tmp 158), 4, "outright.go:69", #[⟨5, .data⟩, ⟨2, .chain⟩], none⟩) rfl (by kernel_rfl) (by kernel_rfl) (by kernel_rfl) (fun _ _ _ h => h) (Or.inl ⟨by rfl, _⟩) (by assumption) _
                  rotate_left
                  · (intro wS hSw; (try dsimp only at hSw); go_simp; try with_reducible rfl)
                  try simp only [Act.put, nA, nB, nC]
                  refine' wpAnyH_take (i := 7) (oi := ⟨some 160, .move (.tmp 22), 24, "outright.go:69", #[⟨6, .guard⟩], some (6, false)⟩) rfl (by kernel_rfl) (by kernel_rfl) (by kernel_rfl) (fun _ _ _ h => h) (Or.inl ⟨by rfl, _⟩) (by assumption) _
                  rotate_left
                  · (intro wS hSw; (try dsimp only at hSw); go_simp; try with_reducible rfl)
                  try simp only [Act.put, nA, nB, nC]
                  refine' wpAnyH_take (i := 8) (oi := ⟨some 161, .binOp .neq 24 (.tmp 160) (.const (.int .i64 0)) 24, 4, "outright.go:69", #[⟨7, .data⟩, ⟨6, .guard⟩], some (6, false)⟩) rfl (by kernel_rfl) (by kernel_rfl) (by kernel_rfl) (fun _ _ _ h => h) (Or.inl ⟨by rfl, _⟩) (by assumption) _
                  rotate_left
                  · (intro wS hSw; (try dsimp only at hSw); go_simp; try with_reducible rfl)
                  try simp only [Act.put, nA, nB, nC]
                  refine' wpAnyH_take (i := 9) (oi := ⟨some 162, .pick (.tmp 159) (.const (.bool true)) (.tmp 161), 4, "outright.go:69", #[⟨6, .data⟩, ⟨8, .data⟩], none⟩) rfl (by kernel_rfl) (by kernel_rfl) (by kernel_rfl) (fun _ _ _ h => h) (Or.inl ⟨by rfl, _⟩) (by assumption) _
                  rotate_left
                  · (intro wS hSw; (try dsimp only at hSw); go_simp; try with_reducible rfl)
                  try simp only [Act.put, nA, nB, nC]
                  refine' wpAnyH_take (i := 10) (oi := ⟨some 163, .move (.tmp 162), 4, "outright.go:69", #[⟨9, .data⟩, ⟨6, .chain⟩], none⟩) rfl (by kernel_rfl) (by kernel_rfl) (by kernel_rfl) (fun _ _ _ h => h) (Or.inl ⟨by rfl, _⟩) (by assumption) _
                  rotate_left
                  · (intro wS hSw; (try dsimp only at hSw); go_simp; try with_reducible rfl)
                  try simp only [Act.put, nA, nB, nC]
                  refine' wpAnyH_take (i := 11) (oi := ⟨some 164, .load 23 (.tmp 19), 23, "outright.go:69", #[⟨10, .guard⟩], some (10, false)⟩) rfl (by kernel_rfl) (by kernel_rfl) (by kernel_rfl) (fun _ _ _ h => h) (yieldsIf_loadD (by rfl) _ rfl (y) rfl (D) (HDl.out) (fun W hW => hW.1)) (by assumption) _
                  try simp only [Act.put, nA, nB, nC]
                  refine' wpAnyH_take (i := 12) (oi := ⟨some 165, .load 23 (.tmp 21), 23, "outright.go:69", #[⟨10, .guard⟩], some (10, false)⟩) rfl (by kernel_rfl) (by kernel_rfl) (by kernel_rfl) (fun _ _ _ h => h) (yieldsIf_loadD (by rfl) _ rfl (z) rfl (D) (HDl.out) (fun W hW => hW.2.1)) (by assumption) _
                  try simp only [Act.put, nA, nB, nC]
                  refine' wpAnyH_take (i := 13) (oi := ⟨some 166, .binOp .neq 23 (.tmp 164) (.tmp 165) 23, 4, "outright.go:69", #[⟨11, .data⟩, ⟨12, .data⟩, ⟨10, .guard⟩], some (10, false)⟩) rfl (by kernel_rfl) (by kernel_rfl) (by kernel_rfl) (fun _ _ _ h => h) (Or.inl ⟨by rfl, _⟩) (by assumption) _
                  rotate_left
                  · (intro wS hSw; (try dsimp only at hSw); go_simp; try with_reducible rfl)
                  try simp only [Act.put, nA, nB, nC]
                  refine' wpAnyH_take (i := 14) (oi := ⟨some 167, .pick (.tmp 163) (.const (.bool true)) (.tmp 166), 4, "outright.go:69", #[⟨10, .data⟩, ⟨13, .data⟩], none⟩) rfl (by kernel_rfl) (by kernel_rfl) (by kernel_rfl) (fun _ _ _ h => h) (Or.inl ⟨by rfl, _⟩) (by assumption) _
                  rotate_left
                  · (intro wS hSw; (try dsimp only at hSw); go_simp; try with_reducible rfl)
                  try simp only [Act.put, nA, nB, nC]
                  refine' wpAnyH_take (i := 15) (oi := ⟨some 168, .move (.tmp 167), 4, "outright.go:69", #[⟨14, .data⟩, ⟨10, .chain⟩], none⟩) rfl (by kernel_rfl) (by kernel_rfl) (by kernel_rfl) (fun _ _ _ h => h) (Or.inl ⟨by rfl, _⟩) (by assumption) _
                  rotate_left
                  · (intro wS hSw; (try dsimp only at hSw); go_simp; try with_reducible rfl)
                  try simp only [Act.put, nA, nB, nC]
                  refine' wpAnyH_take (i := 16) (oi := ⟨some 169, .move (.tmp 17), 32, "outright.go:69", #[⟨15, .guard⟩], some (15, false)⟩) rfl (by kernel_rfl) (by kernel_rfl) (by kernel_rfl) (fun _ _ _ h => h) (Or.inl ⟨by rfl, _⟩) (by assumption) _
                  rotate_left
                  · (intro wS hSw; (try dsimp only at hSw); go_simp; try with_reducible rfl)
                  try simp only [Act.put, nA, nB, nC]
                  refine' wpAnyH_take (i := 17) (oi := ⟨some 170, .call ⟨.builtin .len, #[.tmp 169], #[32]⟩, 3, "outright.go:69", #[⟨16, .data⟩, ⟨15, .guard⟩], some (15, false)⟩) rfl (by kernel_rfl) (by kernel_rfl) (by kernel_rfl) (fun _ _ _ h => h) (Or.inl ⟨by rfl, _⟩) (by assumption) _
                  rotate_left
                  · (intro wS hSw; (try dsimp only at hSw); go_simp; try with_reducible rfl)
                  try simp only [Act.put, nA, nB, nC]
                  refine' wpAnyH_take (i := 18) (oi := ⟨some 171, .move (.tmp 14), 3, "outright.go:69", #[⟨15, .guard⟩], some (15, false)⟩) rfl (by kernel_rfl) (by kernel_rfl) (by kernel_rfl) (fun _ _ _ h => h) (Or.inl ⟨by rfl, _⟩) (by assumption) _
                  rotate_left
                  · (intro wS hSw; (try dsimp only at hSw); go_simp; try with_reducible rfl)
                  try simp only [Act.put, nA, nB, nC]
                  refine' wpAnyH_take (i := 19) (oi := ⟨some 172, .binOp .gtr 3 (.tmp 170) (.tmp 171) 3, 4, "outright.go:69", #[⟨17, .data⟩, ⟨18, .data⟩, ⟨15, .guard⟩], some (15, false)⟩) rfl (by kernel_rfl) (by kernel_rfl) (by kernel_rfl) (fun _ _ _ h => h) (Or.inl ⟨by rfl, _⟩) (by assumption) _
                  rotate_left
                  · (intro wS hSw; (try dsimp only at hSw); go_simp; try with_reducible rfl)
                  try simp only [Act.put, nA, nB, nC]
                  refine' wpAnyH_take (i := 20) (oi := ⟨some 173, .pick (.tmp 168) (.const (.bool true)) (.tmp 172), 4, "outright.go:69", #[⟨15, .data⟩, ⟨19, .data⟩], none⟩) rfl (by kernel_rfl) (by kernel_rfl) (by kernel_rfl) (fun _ _ _ h => h) (Or.inl ⟨by rfl, _⟩) (by assumption) _
                  rotate_left
                  · (intro wS hSw; (try dsimp only at hSw); go_simp; try with_reducible rfl)
                  try simp only [Act.put, nA, nB, nC]
                  refine' wpAnyH_take (i := 21) (oi := ⟨some 174, .move (.tmp 173), 4, "outright.go:69", #[⟨20, .data⟩, ⟨15, .chain⟩], none⟩) rfl (by kernel_rfl) (by kernel_rfl) (by kernel_rfl) (fun _ _ _ h => h) (Or.inl ⟨by rfl, _⟩) (by assumption) _
                  rotate_left
                  · (intro wS hSw; (try dsimp only at hSw); go_simp; try with_reducible rfl)
                  try simp only [Act.put, nA, nB, nC]
                  refine' wpAnyH_take (i := 22) (oi := ⟨some 175, .move (.tmp 0), 3, "outright.go:69", #[⟨21, .guard⟩], some (21, false)⟩) rfl (by kernel_rfl) (by kernel_rfl) (by kernel_rfl) (fun _ _ _ h => h) (Or.inl ⟨by rfl, _⟩) (by assumption) _
                  rotate_left
                  · (intro wS hSw; (try dsimp only at hSw); go_simp; try with_reducible rfl)
                  try simp only [Act.put, nA, nB, nC]
                  refine' wpAnyH_take (i := 23) (oi := ⟨some 176, .move (.tmp 8), 43, "outright.go:69", #[⟨21, .guard⟩], some (21, false)⟩) rfl (by kernel_rfl) (by kernel_rfl) (by kernel_rfl) (fun _ _ _ h => h) (Or.inl ⟨by rfl, _⟩) (by assumption) _
                  rotate_left
                  · (intro wS hSw; (try dsimp only at hSw); go_simp; try with_reducible rfl)
                  try simp only [Act.put, nA, nB, nC]
                  refine' wpAnyH_take (i := 24) (oi := ⟨some 177, .move (.tmp 11), 3, "outright.go:69", #[⟨21, .guard⟩], some (21, false)⟩) rfl (by kernel_rfl) (by kernel_rfl) (by kernel_rfl) (fun _ _ _ h => h) (Or.inl ⟨by rfl, _⟩) (by assumption) _
                  rotate_left
                  · (intro wS hSw; (try dsimp only at hSw); go_simp; try with_reducible rfl)
                  try simp only [Act.put, nA, nB, nC]
                  refine' wpAnyH_take (i := 25) (oi := ⟨some 178, .indexAddr 43 (.tmp 176) (.tmp 177), 0, "outright.go:69", #[⟨23, .data⟩, ⟨24, .data⟩, ⟨21, .guard⟩], some (21, false)⟩) rfl (by kernel_rfl) (by kernel_rfl) (by kernel_rfl) (fun _ _ _ h => h) (Or.inl ⟨by rfl, _⟩) (by assumption) _
                  rotate_left
                  · (intro wS hSw; (try dsimp only at hSw); go_simp; try with_reducible rfl)
                  try simp only [Act.put, nA, nB, nC]
                  refine' wpAnyH_take (i := 26) (oi := ⟨some 179, .load 31 (.tmp 178), 31, "outright.go:69", #[⟨25, .data⟩, ⟨21, .guard⟩], some (21, false)⟩) rfl (by kernel_rfl) (by kernel_rfl) (by kernel_rfl) (fun _ _ _ h => h) (yieldsIf_loadHs (by rfl) _ rfl g (size * 33) rfl size SD HSDl.out (fun W hW => hW.2.2)) (by assumption) _
                  (try simp only [Act.put, nA, nB, nC])
                  refine' wpAnyH_take (i := 27) (oi := ⟨some 180, .move (.tmp 16), 3, "outright.go:69", #[⟨21, .guard⟩], some (21, false)⟩) rfl (by kernel_rfl) (by kernel_rfl) (by kernel_rfl) (fun _ _ _ h => h) (Or.inl ⟨by rfl, _⟩) (by assumption) _
                  rotate_left
                  · (intro wS hSw; (try dsimp only at hSw); go_simp; try with_reducible rfl)
                  try simp only [Act.put, nA, nB, nC]
                  refine' wpAnyH_take (i := 28) (oi := ⟨some 181, .convert 3 29 (.tmp 180), 29, "outright.go:69", #[⟨27, .data⟩, ⟨21, .guard⟩], some (21, false)⟩) rfl (by kernel_rfl) (by kernel_rfl) (by kernel_rfl) (fun _ _ _ h => h) (Or.inl ⟨by rfl, _⟩) (by assumption) _
                  rotate_left
                  · (intro wS hSw; (try dsimp only at hSw); go_simp; try with_reducible rfl)
                  try simp only [Act.put, nA, nB, nC]
                  refine' wpAnyH_take (i := 29) (oi := ⟨some 182, .load 23 (.tmp 19), 23, "outright.go:69", #[⟨21, .guard⟩], some (21, false)⟩) rfl (by kernel_rfl) (by kernel_rfl) (by kernel_rfl) (fun _ _ _ h => h) (yieldsIf_loadD (by rfl) _ rfl (y) rfl (D) (HDl.out) (fun W hW => hW.1)) (by assumption) _
                  try simp only [Act.put, nA, nB, nC]
                  refine' wpAnyH_take (i := 30) (oi := ⟨some 183, .move (.tmp 17), 32, "outright.go:69", #[⟨21, .guard⟩], some (21, false)⟩) rfl (by kernel_rfl) (by kernel_rfl) (by kernel_rfl) (fun _ _ _ h => h) (Or.inl ⟨by rfl, _⟩) (by assumption) _
                  rotate_left
                  · (intro wS hSw; (try dsimp only at hSw); go_simp; try with_reducible rfl)
                  try simp only [Act.put, nA, nB, nC]
                  clear hq hqg hg1 hg2
                  refine wpAnyH_ready (rs := [31]) (by kernel_rfl) (by simp) ?_
                  refine AllReadyH.cons (o := ⟨some 184, .call ⟨.value (.func 17), #[.tmp 175, .tmp 179, .tmp 181, .tmp 182, .tmp 183], #[3, 31, 29, 23, 32]⟩, 4, "outright.go:69", #[⟨22, .data⟩, ⟨26, .data⟩, ⟨28, .data⟩, ⟨29, .data⟩, ⟨30, .data⟩, ⟨21, .chain⟩, ⟨21, .guard⟩], some (21, false)⟩) rfl (fun K hK => ?_) AllReadyH.nil
                  (go_simp; (go_at_call 17; refine (Holds_any wd size i SD D _ TR _ HSDl HDl dr (by omega) (by omega)).mono ?_; rintro e w8 ⟨rfl, hb8'⟩; rw [HHo.out]; have hb8 : Below w7.heap.size w7 w8 := Below.trans (Below.refl _ _).drew hb8'; have F8 := Lib.hid (F7.out.low hb8)))
                  refine hK.out _ _ ?_ (fun hHeld => ?_)
                  · exact ⟨heap_below Y7.out hb8 hyw, heap_below Z7.out hb8 hzw, by rw [← HSD.out]; exact F8.out.range size hlt⟩
                  clear hK K
                  try simp only [Act.put, nA, nB, nC]
                  refine' wpAnyH_take (i := 32) (oi := ⟨some 185, .unOp .not 4 (.tmp 184), 4, "outright.go:69", #[⟨31, .data⟩, ⟨21, .guard⟩], some (21, false)⟩) rfl (by kernel_rfl) (by kernel_rfl) (by kernel_rfl) (fun _ _ _ h => h) (Or.inl ⟨by rfl, _⟩) (by assumption) _
                  rotate_left
                  · (intro wS hSw; (try dsimp only at hSw); go_simp; try with_reducible rfl)
                  try simp only [Act.put, nA, nB, nC]
                  refine' wpAnyH_take (i := 33) (oi := ⟨some 186, .pick (.tmp 174) (.const (.bool true)) (.tmp 185), 4, "outright.go:69", #[⟨21, .data⟩, ⟨32, .data⟩], none⟩) rfl (by kernel_rfl) (by kernel_rfl) (by kernel_rfl) (fun _ _ _ h => h) (Or.inl ⟨by rfl, _⟩) (by assumption) _
                  rotate_left
                  · (intro wS hSw; (try dsimp only at hSw); go_simp; try with_reducible rfl)
                  try simp only [Act.put, nA, nB, nC]
                  refine wpAnyH_done (by kernel_rfl) ?_ _
                  clear hHeld H7 dr hb8 hb8' F7 O7 Y7 Z7
                  go_wp2_with fail
                  exact ⟨⟨i + 1, by omega, F8, by go_num⟩, by simp [intOf]; omega⟩
                case neg =>
                  have di : decide (i < size) = false := decide_eq_false his
                  have di2 : decide ((i : Int) < (size : Int)) = false := decide_eq_false (by omega)
                  go_upto_region 37 with fail
                  obtain ⟨w8, rfl⟩ : ∃ w8 : World, w8 = wr := ⟨_, rfl⟩
                  clear di di2 his hi
                  have hj1 : (j : Int) + 1 = ((j + 1 : Nat) : Int) := by omega
                  obtain ⟨j1, hjj⟩ : ∃ j1, j + 1 = j1 := ⟨_, rfl⟩
                  rw [hjj] at hj1
                  have hj65 : j1 ≤ 65 := by omega
                  have wj1 : IntKind.i64.wrap (j1 : Int) = (j1 : Int) := IntWalk.i64_in _ (by omega)
                  have HJJ := Lib.hid hjj
                  clear hjj
                  go_loopw [23] (fun i wr => ∃ (m : Nat), m ≤ size + 1 ∧ Hid (WF w wr N p b P lvk wd L g k cap) ∧ i = .int .i64 (m : Int)) (fun i _ => size + 1 - (intOf i).toNat)
                  case atStart => exact ⟨0, Nat.zero_le _, F0, rfl⟩
                  case round =>
                    obtain ⟨m, hm, F, rfl⟩ := hrel
                    clear F0
                    by_cases hms : m ≤ size
                    case pos =>
                      have dm : decide (m ≤ size) = true := decide_eq_true hms
                      have dm2 : decide ((m : Int) ≤ (size : Int)) = true := decide_eq_true (by omega)
                      have wm1 : IntKind.u64.wrap (m : Int) = (m : Int) := IntWalk.u64_in _ (by omega)
                      have hSL := since_len wd L m size j hms HJ.out
                      have hex := extends_own wd L m size hw hwd HLf.out hms (by rw [HLl.out]; omega) (by omega)
                      have hMDl := spanD_length wd L 0 m HLa.out (by rw [HLl.out]; omega)
                      obtain ⟨MD, hMD⟩ : ∃ MD, spanD wd L 0 m = MD := ⟨_, rfl⟩
                      obtain ⟨SI, hSI⟩ : ∃ SI, sinceD wd L m size = SI := ⟨_, rfl⟩
                      obtain ⟨SL, hSLe⟩ : ∃ SL, SI.length = SL := ⟨_, rfl⟩
                      rw [hSI, hSLe, HJJ.out] at hSL
                      rw [hMD, HSD.out, hSI] at hex
                      rw [hMD] at hMDl
                      have HMD := Lib.hid hMD
                      have HMDl := Lib.hid hMDl
                      have HSI := Lib.hid hSI
                      have HSLe := Lib.hid hSLe
                      have HEx := Lib.hid hex
                      clear hMD hMDl hSI hSLe hex
                      go_upto_region 39 with fail
                      refine wp_region_list ?_
                      refine wpList_plain rfl (fun K hK => ?_)
                      go_simp
                      refine hK _ _ ?_
                      clear hK K
                      (try simp only [Act.put, nA, nB, nC])
                      refine wpList_plain rfl (fun K hK => ?_)
                      go_simp
                      refine hK _ _ ?_
                      clear hK K
                      (try simp only [Act.put, nA, nB, nC])
                      refine wpList_plain rfl (fun K hK => ?_)
                      go_simp
                      refine hK _ _ ?_
                      clear hK K
                      (try simp only [Act.put, nA, nB, nC])
                      refine wpList_plain rfl (fun K hK => ?_)
                      go_simp
                      refine hK _ _ ?_
                      clear hK K
                      (try simp only [Act.put, nA, nB, nC])
                      refine wpList_plain rfl (fun K hK => ?_)
                      go_simp
                      refine hK _ _ ?_
                      clear hK K
                      (try simp only [Act.put, nA, nB, nC])
                      refine wpList_plain rfl (fun K hK => ?_)
                      go_simp
                      refine (Since_yes wr N p b lvk wd L m size (Lib.hid F.out.log) hw hwd (by rw [HLl.out]; omega) hms).mono ?_; rintro e wx ⟨sv, rfl, o1, a1, l1, m1⟩
                      refine hK _ _ ?_
                      clear hK K
                      (try simp only [Act.put, nA, nB, nC])
                      rw [HSI.out] at o1 a1
                      obtain ⟨tad, tcap, htv, _⟩ := o1.shape
                      rw [HSLe.out] at htv
                      subst htv
                      have F1 := Lib.hid (F.out.log1 l1 m1)
                      have O1 := Lib.hid o1
                      have A1 := Lib.hid a1
                      clear o1 a1 l1 m1 F
                      refine wpList_plain rfl (fun K hK => ?_)
                      go_simp
                      refine hK _ _ ?_
                      clear hK K
                      (try simp only [Act.put, nA, nB, nC])
                      refine wpList_plain rfl (fun K hK => ?_)
                      go_simp
                      refine hK _ _ ?_
                      clear hK K
                      (try simp only [Act.put, nA, nB, nC])
                      refine wpList_plain rfl (fun K hK => ?_)
                      go_simp
                      refine hK _ _ ?_
                      clear hK K
                      (try simp only [Act.put, nA, nB, nC])
                      refine wpList_plain rfl (fun K hK => ?_)
                      go_simp
                      refine hK _ _ ?_
                      clear hK K
                      (try simp only [Act.put, nA, nB, nC])
                      refine wpList_plain rfl (fun K hK => ?_)
                      go_simp
                      refine hK _ _ ?_
                      clear hK K
                      (try simp only [Act.put, nA, nB, nC])
                      have isz : (size : Int) < ((k + 1 : Nat) : Int) := by omega
                      have isz2 : (size : Int) < (k : Int) + 1 := by omega
                      have imz : (m : Int) < ((k + 1 : Nat) : Int) := by omega
                      have imz2 : (m : Int) < (k : Int) + 1 := by omega
                      have hg1 : decide (j1 < SL) = false := decide_eq_false (by omega)
                      have hg2 : decide ((j1 : Int) < (SL : Int)) = false := decide_eq_false (by omega)
                      have H1 : Hid (wx.rangeAt g (m * 33) (hcs m MD) ∧ wx.rangeAt g (size * 33) (hcs size SD)) := ⟨by rw [← HMD.out]; exact F1.out.range m (by omega), by rw [← HSD.out]; exact F1.out.range size hlt⟩
                      have dr : Hid (DRow wx.drew wx.drew.heap.size (.slice tad SL tcap) SI) := Lib.hid (O1.out.drow A1.out (by rw [HSLe.out]; omega))
                      go_upto_region 40 with fail
                      refine wp_region_held_drew (S := fun W => W.rangeAt g (m * 33) (hcs m MD) ∧ W.rangeAt g (size * 33) (hcs size SD)) (by kernel_rfl) H1.out (fun hHeld => ?_)
                      refine' wpAnyH_take (i := 0) (oi := ⟨some 201, .move (.tmp 25), 24, "outright.go:75", #[], none⟩) rfl (by kernel_rfl) (by kernel_rfl) (by kernel_rfl) (fun _ _ _ h => h) (Or.inl ⟨by rfl, _⟩) (by assumption) _
                      rotate_left
                      · (intro wS hSw; (try dsimp only at hSw); go_simp; try with_reducible rfl)
                      try simp only [Act.put, nA, nB, nC]
                      refine' wpAnyH_take (i := 1) (oi := ⟨some 202, .binOp .neq 24 (.tmp 201) (.const (.int .i64 0)) 24, 4, "outright.go:75", #[⟨0, .data⟩], none⟩) rfl (by kernel_rfl) (by kernel_rfl) (by kernel_rfl) (fun _ _ _ h => h) (Or.inl ⟨by rfl, _⟩) (by assumption) _
                      rotate_left
                      · (intro wS hSw; (try dsimp only at hSw); go_simp; try with_reducible rfl)
                      try simp only [Act.put, nA, nB, nC]
                      refine' wpAnyH_take (i := 2) (oi := ⟨some 203, .move (.tmp 202), 4, "outright.go:75", #[⟨1, .data⟩], none⟩) rfl (by kernel_rfl) (by kernel_rfl) (by kernel_rfl) (fun _ _ _ h => h) (Or.inl ⟨by rfl, _⟩) (by assumption) _
                      rotate_left
                      · (intro wS hSw; (try dsimp only at hSw); go_simp; try with_reducible rfl)
                      try simp only [Act.put, nA, nB, nC]
                      refine' wpAnyH_take (i := 3) (oi := ⟨some 204, .move (.tmp 24), 32, "outright.go:75", #[⟨2, .guard⟩], some (2, false)⟩) rfl (by kernel_rfl) (by kernel_rfl) (by kernel_rfl) (fun _ _ _ h => h) (Or.inl ⟨by rfl, _⟩) (by assumption) _
                      rotate_left
                      · (intro wS hSw; (try dsimp only at hSw); go_simp; try with_reducible rfl)
                      try simp only [Act.put, nA, nB, nC]
                      refine' wpAnyH_take (i := 4) (oi := ⟨some 205, .call ⟨.builtin .len, #[.tmp 204], #[32]⟩, 3, "outright.go:75", #[⟨3, .data⟩, ⟨2, .guard⟩], some (2, false)⟩) rfl (by kernel_rfl) (by kernel_rfl) (by kernel_rfl) (fun _ _ _ h => h) (Or.inl ⟨by rfl, _⟩) (by assumption) _
                      rotate_left
                      · (intro wS hSw; (try dsimp only at hSw); go_simp; try with_reducible rfl)
                      try simp only [Act.put, nA, nB, nC]
                      refine' wpAnyH_take (i := 5) (oi := ⟨some 206, .move (.tmp 14), 3, "outright.go:75", #[⟨2, .guard⟩], some (2, false)⟩) rfl (by kernel_rfl) (by kernel_rfl) (by kernel_rfl) (fun _ _ _ h => h) (Or.inl ⟨by rfl, _⟩) (by assumption) _
                      rotate_left
                      · (intro wS hSw; (try dsimp only at hSw); go_simp; try with_reducible rfl)
                      try simp only [Act.put, nA, nB, nC]
                      refine' wpAnyH_take (i := 6) (oi := ⟨some 207, .binOp .add 3 (.tmp 206) (.const (.int .i64 1)) 3, 3, "outright.go:75", #[⟨5, .data⟩, ⟨2, .guard⟩], some (2, false)⟩) rfl (by kernel_rfl) (by kernel_rfl) (by kernel_rfl) (fun _ _ _ h => h) (Or.inl ⟨by rfl, _⟩) (by assumption) _
                      rotate_left
                      · (intro wS hSw; (try dsimp only at hSw); go_simp; try with_reducible rfl)
                      try simp only [Act.put, nA, nB, nC]
                      refine' wpAnyH_take (i := 7) (oi := ⟨some 208, .binOp .gtr 3 (.tmp 205) (.tmp 207) 3, 4, "outright.go:75", #[⟨4, .data⟩, ⟨6, .data⟩, ⟨2, .guard⟩], some (2, false)⟩) rfl (by kernel_rfl) (by kernel_rfl) (by kernel_rfl) (fun _ _ _ h => h) (Or.inl ⟨by rfl, _⟩) (by assumption) _
                      rotate_left
                      · (intro wS hSw; (try dsimp only at hSw); go_simp; try with_reducible rfl)
                      try simp only [Act.put, nA, nB, nC]
                      refine' wpAnyH_take (i := 8) (oi := ⟨some 209, .pick (.tmp 203) (.const (.bool true)) (.tmp 208), 4, "outright.go:75", #[⟨2, .data⟩, ⟨7, .data⟩], none⟩) rfl (by kernel_rfl) (by kernel_rfl) (by kernel_rfl) (fun _ _ _ h => h) (Or.inl ⟨by rfl, _⟩) (by assumption) _
                      rotate_left
                      · (intro wS hSw; (try dsimp only at hSw); go_simp; try with_reducible rfl)
                      try simp only [Act.put, nA, nB, nC]
                      refine' wpAnyH_take (i := 9) (oi := ⟨some 210, .move (.tmp 209), 4, "outright.go:75", #[⟨8, .data⟩, ⟨2, .chain⟩], none⟩) rfl (by kernel_rfl) (by kernel_rfl) (by kernel_rfl) (fun _ _ _ h => h) (Or.inl ⟨by rfl, _⟩) (by assumption) _
                      rotate_left
                      · (intro wS hSw; (try dsimp only at hSw); go_simp; try with_reducible rfl)
                      try simp only [Act.put, nA, nB, nC]
                      refine' wpAnyH_take (i := 10) (oi := ⟨some 211, .move (.tmp 0), 3, "outright.go:75", #[⟨9, .guard⟩], some (9, false)⟩) rfl (by kernel_rfl) (by kernel_rfl) (by kernel_rfl) (fun _ _ _ h => h) (Or.inl ⟨by rfl, _⟩) (by assumption) _
                      rotate_left
                      · (intro wS hSw; (try dsimp only at hSw); go_simp; try with_reducible rfl)
                      try simp only [Act.put, nA, nB, nC]
                      refine' wpAnyH_take (i := 11) (oi := ⟨some 212, .move (.tmp 8), 43, "outright.go:75", #[⟨9, .guard⟩], some (9, false)⟩) rfl (by kernel_rfl) (by kernel_rfl) (by kernel_rfl) (fun _ _ _ h => h) (Or.inl ⟨by rfl, _⟩) (by assumption) _
                      rotate_left
                      · (intro wS hSw; (try dsimp only at hSw); go_simp; try with_reducible rfl)
                      try simp only [Act.put, nA, nB, nC]
                      refine' wpAnyH_take (i := 12) (oi := ⟨some 213, .move (.tmp 23), 3, "outright.go:75", #[⟨9, .guard⟩], some (9, false)⟩) rfl (by kernel_rfl) (by kernel_rfl) (by kernel_rfl) (fun _ _ _ h => h) (Or.inl ⟨by rfl, _⟩) (by assumption) _
                      rotate_left
                      · (intro wS hSw; (try dsimp only at hSw); go_simp; try with_reducible rfl)
                      try simp only [Act.put, nA, nB, nC]
                      refine' wpAnyH_take (i := 13) (oi := ⟨some 214, .indexAddr 43 (.tmp 212) (.tmp 213), 0, "outright.go:75", #[⟨11, .data⟩, ⟨12, .data⟩, ⟨9, .guard⟩], some (9, false)⟩) rfl (by kernel_rfl) (by kernel_rfl) (by kernel_rfl) (fun _ _ _ h => h) (Or.inl ⟨by rfl, _⟩) (by assumption) _
                      rotate_left
                      · (intro wS hSw; (try dsimp only at hSw); go_simp; try with_reducible rfl)
                      try simp only [Act.put, nA, nB, nC]
                      refine' wpAnyH_take (i := 14) (oi := ⟨some 215, .load 31 (.tmp 214), 31, "outright.go:75", #[⟨13, .data⟩, ⟨9, .guard⟩], some (9, false)⟩) rfl (by kernel_rfl) (by kernel_rfl) (by kernel_rfl) (fun _ _ _ h => h) (yieldsIf_loadHs (by rfl) _ rfl g (m * 33) rfl m MD HMDl.out (fun W hW => hW.1)) (by assumption) _
                      (try simp only [Act.put, nA, nB, nC])
                      refine' wpAnyH_take (i := 15) (oi := ⟨some 216, .move (.tmp 8), 43, "outright.go:75", #[⟨9, .guard⟩], some (9, false)⟩) rfl (by kernel_rfl) (by kernel_rfl) (by kernel_rfl) (fun _ _ _ h => h) (Or.inl ⟨by rfl, _⟩) (by assumption) _
                      rotate_left
                      · (intro wS hSw; (try dsimp only at hSw); go_simp; try with_reducible rfl)
                      try simp only [Act.put, nA, nB, nC]
                      refine' wpAnyH_take (i := 16) (oi := ⟨some 217, .move (.tmp 11), 3, "outright.go:75", #[⟨9, .guard⟩], some (9, false)⟩) rfl (by kernel_rfl) (by kernel_rfl) (by kernel_rfl) (fun _ _ _ h => h) (Or.inl ⟨by rfl, _⟩) (by assumption) _
                      rotate_left
                      · (intro wS hSw; (try dsimp only at hSw); go_simp; try with_reducible rfl)
                      try simp only [Act.put, nA, nB, nC]
                      refine' wpAnyH_take (i := 17) (oi := ⟨some 218, .indexAddr 43 (.tmp 216) (.tmp 217), 0, "outright.go:75", #[⟨15, .data⟩, ⟨16, .data⟩, ⟨9, .guard⟩], some (9, false)⟩) rfl (by kernel_rfl) (by kernel_rfl) (by kernel_rfl) (fun _ _ _ h => h) (Or.inl ⟨by rfl, _⟩) (by assumption) _
                      rotate_left
                      · (intro wS hSw; (try dsimp only at hSw); go_simp; try with_reducible rfl)
                      try simp only [Act.put, nA, nB, nC]
                      refine' wpAnyH_take (i := 18) (oi := ⟨some 219, .load 31 (.tmp 218), 31, "outright.go:75", #[⟨17, .data⟩, ⟨9, .guard⟩], some (9, false)⟩) rfl (by kernel_rfl) (by kernel_rfl) (by kernel_rfl) (fun _ _ _ h => h) (yieldsIf_loadHs (by rfl) _ rfl g (size * 33) rfl size SD HSDl.out (fun W hW => hW.2)) (by assumption) _
                      (try simp only [Act.put, nA, nB, nC])
                      refine' wpAnyH_take (i := 19) (oi := ⟨some 220, .move (.tmp 24), 32, "outright.go:75", #[⟨9, .guard⟩], some (9, false)⟩) rfl (by kernel_rfl) (by kernel_rfl) (by kernel_rfl) (fun _ _ _ h => h) (Or.inl ⟨by rfl, _⟩) (by assumption) _
                      rotate_left
                      · (intro wS hSw; (try dsimp only at hSw); go_simp; try with_reducible rfl)
                      try simp only [Act.put, nA, nB, nC]
                      clear hg1 hg2
                      refine wpAnyH_ready (rs := [20]) (by kernel_rfl) (by simp) ?_
                      refine AllReadyH.cons (o := ⟨some 221, .call ⟨.value (.func 20), #[.tmp 211, .tmp 215, .tmp 219, .tmp 220], #[3, 31, 31, 32]⟩, 4, "outright.go:75", #[⟨10, .data⟩, ⟨14, .data⟩, ⟨18, .data⟩, ⟨19, .data⟩, ⟨9, .chain⟩, ⟨9, .guard⟩], some (9, false)⟩) rfl (fun K hK => ?_) AllReadyH.nil
                      (go_simp; (go_at_call 20; refine (Extends_any wd m size MD SD _ SI _ HMDl HSDl dr (by omega) (by omega)).mono ?_; rintro e w9 ⟨rfl, hb9'⟩; rw [HEx.out]; have hb9 : Below wx.heap.size wx w9 := Below.trans (Below.refl _ _).drew hb9'; have F9 := Lib.hid (F1.out.low hb9)))
                      refine hK.out _ _ ?_ (fun hHeld => ?_)
                      · exact ⟨by rw [← HMD.out]; exact F9.out.range m (by omega), by rw [← HSD.out]; exact F9.out.range size hlt⟩
                      clear hK K
                      try simp only [Act.put, nA, nB, nC]
                      refine' wpAnyH_take (i := 21) (oi := ⟨some 222, .unOp .not 4 (.tmp 221), 4, "outright.go:75", #[⟨20, .data⟩, ⟨9, .guard⟩], some (9, false)⟩) rfl (by kernel_rfl) (by kernel_rfl) (by kernel_rfl) (fun _ _ _ h => h) (Or.inl ⟨by rfl, _⟩) (by assumption) _
                      rotate_left
                      · (intro wS hSw; (try dsimp only at hSw); go_simp; try with_reducible rfl)
                      try simp only [Act.put, nA, nB, nC]
                      refine' wpAnyH_take (i := 22) (oi := ⟨some 223, .pick (.tmp 210) (.const (.bool true)) (.tmp 222), 4, "outright.go:75", #[⟨9, .data⟩, ⟨21, .data⟩], none⟩) rfl (by kernel_rfl) (by kernel_rfl) (by kernel_rfl) (fun _ _ _ h => h) (Or.inl ⟨by rfl, _⟩) (by assumption) _
                      rotate_left
                      · (intro wS hSw; (try dsimp only at hSw); go_simp; try with_reducible rfl)
                      try simp only [Act.put, nA, nB, nC]
                      refine wpAnyH_done (by kernel_rfl) ?_ _
                      clear hHeld H1 dr hb9 hb9' F1 O1
                      go_wp2_with fail
                      exact ⟨⟨m + 1, by omega, F9, by go_num⟩, by simp [intOf]; omega⟩
                    case neg =>
                      have dm : decide (m ≤ size) = false := decide_eq_false hms
                      have dm2 : decide ((m : Int) ≤ (size : Int)) = false := decide_eq_false (by omega)
                      go_wp2_with fail
                      exact ⟨⟨size + 1, by omega, F, by go_num⟩, by simp [intOf]; omega⟩
end Go.Proofs.Ytihbhpggpnmifaa

namespace Go.Proofs.Ytihbhpggpnmifaa
open Go.RowKit Go.Lib Hw
set_option linter.unusedVariables false

theorem wide_nat {n : Int} (h : wideB n = true) : ∃ wd : Nat, n = (wd : Int) ∧ 1 ≤ wd ∧ wd ≤ 32 := by
  simp only [wideB, Bool.and_eq_true, decide_eq_true_eq] at h
  exact ⟨n.toNat, by omega, by omega, by omega⟩
theorem RingsWhole_walk (v0 v1 : Value) (w : World) (h0 : IsI64 v0) (h1 : IsStrsZ w v1) :
    Calls Try.prog 6 #[v0, v1] w fun e w' => e = .returned (.bool true) ∧ Below w.heap.size w w' := by
  obtain ⟨n, rfl, _, _⟩ := h0
  obtain ⟨ss, m, c, ad, rfl, hmc, hr, hl, hs⟩ := h1
  cases hw : wideB n with
  | false => exact Whole_bad n _ w hw
  | true =>
    obtain ⟨wd, rfl, h1, h2⟩ := wide_nat hw
    have hm : m = ss.length := by
      obtain ⟨_, _, e, _⟩ := hr
      simp only [Value.slice.injEq] at e
      exact e.2.1
    exact Whole_ok wd h1 h2 ad m c ss w hr hmc hm (fun s h => by have := hs s h; omega)
end Go.Proofs.Ytihbhpggpnmifaa

