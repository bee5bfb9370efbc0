/-
  Rows of numbers of the call's own that may begin inside a block; what append, sort, delete and a cut make of them.
-/
import Derived.Test.YtkngmnfgdlnddaaTakA
import Derived.Test.YtkngmnfgdlnddaaSrtJ
import Derived.Test.YtkngmnfgdlnddaaSrtL
import Derived.Deep.AppendSrc
import Derived.Deep.Upon
import Derived.Laws.AppendOwn
namespace Go.Proofs.Ytkngmnfgdlnddaa
open Go.RowKit Go.Lib Hw Go.Maps
set_option linter.unusedVariables false

def OwnO (w : World) (B : Nat) (v : Value) (xs : List Nat) : Prop :=
  (v = .slice none 0 0 ∧ xs = []) ∨ ∃ g o cap cur, v = .slice (some ⟨g, o, none⟩) xs.length cap ∧ B ≤ g ∧ w.heap[g]? = some (.cells cur 27 (0, 0)) ∧ xs.length ≤ cap ∧ cap ≤ 9223372036854775807 ∧ o + cap ≤ cur.size ∧ ∀ i (h : i < xs.length), cur[o + i]? = some (uN xs[i])
theorem OwnO.nil (w : World) (B : Nat) : OwnO w B (.slice none 0 0) [] := .inl ⟨rfl, rfl⟩
theorem OwnO.lt {w : World} {B : Nat} {v : Value} {xs : List Nat} (h : OwnO w B v xs) : ∀ g, v.ownBlock = some g → B ≤ g ∧ g < w.heap.size := fun g hg => by
  rcases h with ⟨rfl, _⟩ | ⟨b, o, cap, cur, rfl, h1, h2, _⟩
  · cases hg
  · obtain rfl : b = g := Option.some.inj hg
    exact ⟨h1, heap_lt h2⟩
theorem OwnO.heap {w w' : World} {B : Nat} {v : Value} {xs : List Nat} (h : OwnO w B v xs) (hk : ∀ g, v.ownBlock = some g → w'.heap[g]? = w.heap[g]?) : OwnO w' B v xs := by
  rcases h with h | ⟨b, o, cap, cur, rfl, h1, h2, r⟩
  · exact .inl h
  · exact .inr ⟨b, o, cap, cur, rfl, h1, (hk b rfl).trans h2, r⟩
theorem OwnO.mod {w w' : World} {S : Nat → Prop} {B : Nat} {v : Value} {xs : List Nat} (h : OwnO w B v xs) (m : Mod S w w') (hd : ∀ k, v.ownBlock = some k → ¬ S k) : OwnO w' B v xs :=
  h.heap (fun g hg => m.block g (h.lt g hg).2 (hd g hg))
theorem OwnO.below {w w' : World} {B C : Nat} {v : Value} {xs : List Nat} (h : OwnO w B v xs) (hb : Below C w w') (hC : ∀ g, v.ownBlock = some g → g < C) : OwnO w' B v xs := h.heap (fun g hg => hb.block g (hC g hg))
theorem OwnO.mono {w : World} {B C : Nat} {v : Value} {xs : List Nat} (h : OwnO w B v xs) (hC : C ≤ B) : OwnO w C v xs := by
  rcases h with h | ⟨b, o, cap, cur, rfl, h1, r⟩
  · exact .inl h
  · exact .inr ⟨b, o, cap, cur, rfl, by omega, r⟩
theorem OwnO.shape {w : World} {B : Nat} {v : Value} {xs : List Nat} (h : OwnO w B v xs) : ∃ ad cap, v = .slice ad xs.length cap ∧ xs.length ≤ cap ∧ cap ≤ 9223372036854775807 ∧ (0 < xs.length → ∃ g o, ad = some ⟨g, o, none⟩) := by
  rcases h with ⟨rfl, rfl⟩ | ⟨b, o, cap, cur, rfl, _, _, h3, h4, _⟩
  · exact ⟨none, 0, rfl, Nat.le_refl _, by decide, fun h => by simp at h⟩
  · exact ⟨_, cap, rfl, h3, h4, fun _ => ⟨b, o, rfl⟩⟩
theorem OwnO.row {w : World} {B : Nat} {v : Value} {xs : List Nat} (h : OwnO w B v xs) (hA : All4 xs) : URow w v xs := by
  rcases h with ⟨rfl, rfl⟩ | ⟨b, o, cap, cur, rfl, h1, h2, h3, h4, h5, h6⟩
  · exact URow.nil w
  · exact ⟨hA, _, cap, rfl, h3, h4, fun hp => ⟨b, o, rfl, heap_lt h2, fun i hi => by rw [heap_cell h2]; exact h6 i hi⟩⟩
theorem OwnM.toO {w : World} {B : Nat} {v : Value} {xs : List Nat} (h : OwnM w B v xs) : OwnO w B v xs := by
  have hc := fun g n cap (e : v = .slice (some ⟨g, 0, none⟩) n cap) (i : Nat) (hi : i < xs.length) => OwnM.cell (e ▸ h : OwnM w B (.slice (some ⟨g, 0, none⟩) n cap) xs) i hi
  rcases h.2 with ⟨rfl, h0⟩ | ⟨g, cap, cur, rfl, h1, h2, h3, h4, h5, _⟩
  · exact .inl ⟨rfl, List.eq_nil_of_length_eq_zero h0⟩
  · refine .inr ⟨g, 0, cap, cur, rfl, h1, h2, h3, by rw [maxLen_eq] at h4; exact h4, by omega, fun i hi => ?_⟩
    have h6 := hc g xs.length cap rfl i hi
    rw [heap_cell h2] at h6
    rw [Nat.zero_add]
    exact h6
/-- what several stores leave in the block -/
theorem heap_setCells (g : Nat) (t : TypeId) (fr : Nat × Nat) : ∀ (vs : List Value) (o : Nat) (w : World) (cur : Array Value), w.heap[g]? = some (.cells cur t fr) → ∃ c2, (w.setCells g o vs).heap[g]? = some (.cells c2 t fr) ∧ c2.size = cur.size ∧ (∀ j (h : j < vs.length), o + j < cur.size → c2[o + j]? = some vs[j]) ∧ (∀ i, i < o ∨ o + vs.length ≤ i → c2[i]? = cur[i]?)
  | [], o, w, cur, h => ⟨cur, h, rfl, fun j h => by simp at h, fun i _ => rfl⟩
  | v :: r, o, w, cur, h => by
    have h1 := heap_set (o := o) h v
    obtain ⟨c2, h2, h3, h4, h5⟩ := heap_setCells g t fr r (o + 1) _ _ h1
    refine ⟨c2, h2, by rw [h3, Array.size_setIfInBounds], fun j hj hlt => ?_, fun i hi => ?_⟩
    · cases j with
      | zero =>
        rw [h5 _ (Or.inl (by omega)), Nat.add_zero, Array.getElem?_setIfInBounds, if_pos rfl, if_pos (by omega)]
        rfl
      | succ j =>
        have := h4 j (by simpa using hj) (by rw [Array.size_setIfInBounds]; omega)
        rw [show o + (j + 1) = o + 1 + j by omega, this]
        rfl
    · rw [List.length_cons] at hi
      rw [h5 i (by omega), Array.getElem?_setIfInBounds, if_neg (by omega)]
theorem mod_setCells (g : Nat) : ∀ (vs : List Value) (o : Nat) (w : World), Mod (fun k => k = g) w (w.setCells g o vs)
  | [], o, w => Mod.refl _ _
  | v :: r, o, w => (Mod.set (S := fun k => k = g) w rfl v).then (mod_setCells g r (o + 1) _)
/-- some numbers behind a row -/
theorem run_appO (W : World) (B : Nat) (v : Value) (xs : List Nat) (hO : OwnO W B v xs) (y : Value) (ns : List Nat) (ty : TypeId) (hs : Src Try.prog 1 28 y ns.length (ns.map uN) W) (hlen : (xs.length + ns.length) * 4 ≤ 140737488355328) (hB : B ≤ W.heap.size) :
    ∃ v' w', (Builtin.append_ #[28, 28] ty #[v, y]).run Try.prog W = .ok v' w' ∧ OwnO w' B v' (xs ++ ns) ∧ Mod (fun k => v.ownBlock = some k) W w' ∧ (∀ g, v'.ownBlock = some g → v.ownBlock = some g ∨ W.heap.size ≤ g) := by
  obtain ⟨i, hi, hz0, hz1, hz2⟩ := info_parts info_M
  have hs1 : Src Try.prog i.size 28 y ns.length (ns.map uN) W := by rw [hz1]; exact hs
  have grown : ∀ (olds : List Value) (old : Nat), olds = xs.map uN → ∀ cap, cap = grownCap W (xs.length + ns.length) old 27 →
      OwnO (W.drew.alloc (.cells ((olds ++ ns.map uN).toArray ++ Builtin.zeroCells (Value.int .u32 0).cells (cap - (xs.length + ns.length))) 27)) B (.slice (some ⟨W.heap.size, 0, none⟩) (xs.length + ns.length) cap) (xs ++ ns) := by
    rintro _ old rfl cap rfl
    have hge := grownCap_ge W (xs.length + ns.length) old 27
    have hle := grownCap_le_maxLen W (xs.length + ns.length) old 27 (by rw [maxLen_eq]; omega)
    rw [maxLen_eq] at hle
    refine .inr ⟨W.heap.size, 0, _, _, by rw [List.length_append], hB, heap_alloc_new W.drew _, by rw [List.length_append]; exact hge, hle, ?_, fun j hj => ?_⟩
    · rw [Array.size_append, size_zeroCells, List.size_toArray, List.length_append, List.length_map, List.length_map]
      show _ ≤ _ + _ * 1
      omega
    · rw [Nat.zero_add, Array.getElem?_append_left (by rw [List.size_toArray, ← List.map_append, List.length_map]; exact hj), List.getElem?_toArray, ← List.map_append, List.getElem?_map, List.getElem?_eq_getElem hj]
      rfl
  have modG : ∀ (o : Obj), Mod (fun k => v.ownBlock = some k) W (W.drew.alloc o) := fun o => Mod.of _ (by have := (Below.refl W.heap.size W).drew.alloc (o := o) (Nat.le_refl _); exact this)
  rcases hO with ⟨rfl, rfl⟩ | ⟨g, o, cap, cur, rfl, h1, h2, h3, h4, h5, h6⟩
  · rcases Nat.eq_zero_or_pos ns.length with h0 | h0
    · have e := List.eq_nil_of_length_eq_zero h0
      subst e
      exact ⟨_, _, run_append_nothing W _ _ ty _ i Try.underlying28 hi none 0 0 (Nat.le_refl _) y hs1, OwnO.nil _ _, Mod.refl _ _, fun g hg => by cases hg⟩
    · have hr := run_append_grow_src (P := Try.prog) W _ _ ty _ i (.int .u32 0) Try.underlying28 hi hz0 none 0 0 [] (run_firstCells_none W.drew i.size 0 0 0) y ns.length (ns.map uN) hs1 (by omega) (by omega) (growslice_fits (by omega) (by rw [hz2]; simpa using hlen))
      refine ⟨_, _, hr, ?_, modG _, fun g hg => .inr (Nat.le_of_eq (Option.some.inj hg))⟩
      have := grown [] 0 rfl _ rfl
      simpa using this
  · by_cases hroom : xs.length + ns.length ≤ cap
    · have hr := run_append_room_src (P := Try.prog) W _ _ ty _ i Try.underlying28 hi g o xs.length cap y ns.length (ns.map uN) hs1 hroom (fun j hj => by
        rw [List.length_map] at hj
        rw [hz1, heap_cell h2, Array.getElem?_eq_getElem (by omega)]; rfl) (fun j hj => heap_free h2 _)
      obtain ⟨c2, q1, q2, q3, q4⟩ := heap_setCells g _ _ (ns.map uN) (o + xs.length * i.size) W cur h2
      refine ⟨_, _, hr, .inr ⟨g, o, cap, c2, by rw [List.length_append], h1, q1, by rw [List.length_append]; exact hroom, h4, by rw [q2]; exact h5, fun j hj => ?_⟩, (mod_setCells g _ _ W).mono (fun k _ e => by rw [e]; rfl), fun g hg => .inl hg⟩
      rw [List.length_append] at hj
      rw [hz1, Nat.mul_one] at q3 q4
      by_cases hjx : j < xs.length
      · rw [q4 _ (Or.inl (by omega)), h6 j hjx, List.getElem_append_left hjx]
      · have h7 := q3 (j - xs.length) (by rw [List.length_map]; omega) (by omega)
        rw [show o + xs.length + (j - xs.length) = o + j by omega] at h7
        rw [h7, List.getElem_map, List.getElem_append_right (by omega)]
    · have hf := run_firstCells_some (P := Try.prog) W.drew i.size xs.length ⟨g, o, none⟩ xs.length cap (xs.map uN) (by rw [List.length_map, hz1, Nat.mul_one]) (fun j u hu => by
        rw [List.getElem?_map] at hu
        obtain ⟨x, hx, rfl⟩ := Option.map_eq_some_iff.1 hu
        obtain ⟨hj, rfl⟩ := List.getElem?_eq_some_iff.1 hx
        have hadd : (⟨g, o, none⟩ : Addr).add j = ⟨g, o + j, none⟩ := Addr.add_lit _ _ _
        rw [hadd]
        show W.cell? _ = _
        rw [heap_cell h2]
        exact h6 j hj)
      have hr := run_append_grow_src (P := Try.prog) W _ _ ty _ i (.int .u32 0) Try.underlying28 hi hz0 (some ⟨g, o, none⟩) xs.length cap (xs.map uN) hf y ns.length (ns.map uN) hs1 (by omega) (by omega) (growslice_fits (by omega) (by rw [hz2]; exact hlen))
      exact ⟨_, _, hr, grown _ cap rfl _ rfl, modG _, fun k hk => .inr (Nat.le_of_eq (Option.some.inj hk))⟩
theorem wpList_appO {ops : Array Oper} {rest : List Oper} {o : Oper} {a : Act} {Q : Exit → Act → World → Prop} (W : World) (hgd : o.guard = none) (s y : Operand)
    (ho : o.op = .call { callee := .builtin .append, args := #[s, y], argTypes := #[28, 28] })
    (B : Nat) (v : Value) (xs : List Nat) (hs : a.eval s = v) (hown : OwnO W B v xs) (yv : Value) (hy : a.eval y = yv) (ns : List Nat) (hsrc : Src Try.prog 1 28 yv ns.length (ns.map uN) W)
    (hlen : (xs.length + ns.length) * 4 ≤ 140737488355328) (hB : B ≤ W.heap.size)
    (h : ∀ v' w', OwnO w' B v' (xs ++ ns) → Mod (fun k => v.ownBlock = some k) W w' → (∀ g, v'.ownBlock = some g → v.ownBlock = some g ∨ W.heap.size ≤ g) → wpList Try.prog ops Q rest (a.put o.dst v') w') :
    wpList Try.prog ops Q (o :: rest) a W := by
  obtain ⟨v', w', hr, h1, h2, h3⟩ := run_appO W B v xs hown yv ns o.type hsrc hlen hB
  refine wpList_plain hgd fun _ hK => ?_
  unfold Oper.wp execOp
  simp only [ho, resolve, invoke, builtin, Sem.run_bind, Sem.run_pure, Result.andThen_ok, List.map_toArray, List.map_cons, List.map_nil, hs, hy, hr]
  exact hK _ _ (h v' w' h1 h2 h3)
/-- one number that was laid into a block of its own -/
theorem src_one (W : World) (x : Nat) (t : TypeId) : Src Try.prog 1 28 (.slice (some ⟨W.heap.size, 0, none⟩) 1 1) [x].length ([x].map uN) (W.alloc (.cells #[.int .u32 (x : Int)] t)) :=
  Src.ofSlice _ Try.underlying28 ⟨W.heap.size, 0, none⟩ 1 1 [uN x] rfl (World.news_of_block (heap_alloc_new W _)) (uN_one [x])
/-- a row as a source -/
theorem src_row {W : World} {v : Value} {xs : List Nat} (h : URow W v xs) : Src Try.prog 1 28 v xs.length (xs.map uN) W := by
  obtain ⟨hA, ad, c, rfl, h1, h2, h3⟩ := h
  rcases Nat.eq_zero_or_pos xs.length with h0 | h0
  · have e := List.eq_nil_of_length_eq_zero h0
    subst e
    cases ad with
    | none => exact Src.ofNil _ Try.underlying28 c
    | some A => exact Src.ofSlice _ Try.underlying28 A 0 c [] rfl (fun j u hu => by simp at hu) (fun u hu => by simp at hu)
  · obtain ⟨b, o, rfl, _, hc⟩ := h3 h0
    refine Src.ofSlice _ Try.underlying28 ⟨b, o, none⟩ xs.length c (xs.map uN) (by rw [List.length_map, Nat.mul_one]) (fun j u hu => ?_) (uN_one xs)
    rw [List.getElem?_map] at hu
    obtain ⟨x, hx, rfl⟩ := Option.map_eq_some_iff.1 hu
    obtain ⟨hj, rfl⟩ := List.getElem?_eq_some_iff.1 hx
    have hadd : (⟨b, o, none⟩ : Addr).add j = ⟨b, o + j, none⟩ := Addr.add_lit _ _ _
    rw [hadd]
    exact hc j hj
/-- what is left of a row behind its first k numbers -/
theorem OwnO.tail {w : World} {B g o n cap : Nat} {xs : List Nat} (h : OwnO w B (.slice (some ⟨g, o, none⟩) n cap) xs) (k : Nat) (hk : k ≤ xs.length) : OwnO w B (.slice (if cap = k then some ⟨g, o, none⟩ else some ⟨g, o + k, none⟩) (n - k) (cap - k)) (xs.drop k) := by
  rcases h with ⟨h, _⟩ | ⟨g2, o2, cap2, cur, hv, h1, h2, h3, h4, h5, h6⟩
  · cases h
  cases hv
  by_cases hc : cap = k
  · have e : xs.drop k = [] := List.eq_nil_of_length_eq_zero (by rw [List.length_drop]; omega)
    rw [if_pos hc, e]
    exact .inr ⟨g, o, cap - k, cur, by rw [show xs.length - k = 0 by omega]; rfl, h1, h2, Nat.zero_le _, by omega, by omega, fun i hi => by simp at hi⟩
  · rw [if_neg hc]
    refine .inr ⟨g, o + k, cap - k, cur, by rw [List.length_drop], h1, h2, by rw [List.length_drop]; omega, by omega, by omega, fun i hi => ?_⟩
    rw [List.length_drop] at hi
    rw [Nat.add_assoc, h6 (k + i) (by omega), List.getElem_drop]
/-- the first k numbers of a row, with no room behind -/
theorem OwnO.head {w : World} {B g o n cap : Nat} {xs : List Nat} (h : OwnO w B (.slice (some ⟨g, o, none⟩) n cap) xs) (k : Nat) (hk : k ≤ xs.length) : OwnO w B (.slice (some ⟨g, o, none⟩) k k) (xs.take k) := by
  rcases h with ⟨h, _⟩ | ⟨g2, o2, cap2, cur, hv, h1, h2, h3, h4, h5, h6⟩
  · cases h
  cases hv
  have hl : (xs.take k).length = k := by rw [List.length_take]; omega
  refine .inr ⟨g, o, k, cur, by rw [hl], h1, h2, by rw [hl]; exact Nat.le_refl _, by omega, by omega, fun i hi => ?_⟩
  rw [hl] at hi
  rw [h6 i (by omega), List.getElem_take]
/-- a row as the sort wants it -/
theorem OwnO.holds {w : World} {B g o n cap : Nat} {xs : List Nat} (h : OwnO w B (.slice (some ⟨g, o, none⟩) n cap) xs) : n = xs.length ∧ Go.Sort.Holds (Value.int .u32) w g o (xs.map (fun x : Nat => (x : Int))).toArray ∧ g < w.heap.size := by
  rcases h with ⟨h, _⟩ | ⟨g2, o2, cap2, cur, hv, h1, h2, h3, h4, h5, h6⟩
  · cases h
  cases hv
  refine ⟨rfl, fun j hj => ?_, heap_lt h2⟩
  have hj2 : j < xs.length := by simpa using hj
  refine ⟨?_, heap_free h2 _⟩
  rw [heap_cell h2, h6 j hj2]
  simp [hj2, uN]
theorem heap_sortedU {w : World} {g o n : Nat} {os : Array Obj} {cur : Array Value} {e : TypeId} {fr : Nat × Nat} (d : Array Int) (hb : w.heap[g]? = some (.cells cur e fr)) :
    (Go.Sort.grow (Go.Sort.putRow (Value.int .u32) (Go.Sort.ahead w n) g o d) os).heap[g]? = some (.cells (Go.Sort.putCells (Value.int .u32) o d cur) e fr) := by
  rw [Go.Sort.heap_grow_old _ _ (by simpa using heap_lt hb)]
  simp [Go.Sort.putRow, Go.Sort.mapBlock, Go.Sort.ahead, Array.getElem?_modify, hb, Go.Sort.onCells]
theorem mod_sortedU {w : World} {g o n : Nat} {os : Array Obj} (d : Array Int) : Mod (fun k => k = g) w (Go.Sort.grow (Go.Sort.putRow (Value.int .u32) (Go.Sort.ahead w n) g o d) os) := by
  refine ⟨rfl, rfl, rfl, by simp, fun k hk hne => ?_⟩
  rw [Go.Sort.heap_grow_old _ _ (by simpa using hk)]
  have : g ≠ k := fun e => hne e.symm
  simp [Go.Sort.putRow, Go.Sort.mapBlock, Go.Sort.ahead, Array.getElem?_modify, this]
/-- a row written over as far as it goes; the first of the new numbers -/
theorem OwnO.put {w : World} {B g o n cap q : Nat} {os : Array Obj} {xs : List Nat} (h : OwnO w B (.slice (some ⟨g, o, none⟩) n cap) xs) (d : Array Int) (hd : d.size = xs.length) (ys : List Nat) (hys : ys.length ≤ xs.length) (hy : ∀ i (g : i < ys.length), d[i]! = (ys[i] : Int)) :
    OwnO (Go.Sort.grow (Go.Sort.putRow (Value.int .u32) (Go.Sort.ahead w q) g o d) os) B (.slice (some ⟨g, o, none⟩) ys.length cap) ys := by
  rcases h with ⟨h, _⟩ | ⟨g2, o2, cap2, cur, hv, h1, h2, h3, h4, h5, h6⟩
  · cases h
  cases hv
  refine .inr ⟨g, o, cap, _, rfl, h1, heap_sortedU d h2, by omega, h4, by simpa [Go.Sort.putCells] using h5, fun i hi => ?_⟩
  have hc : o + i < cur.size := by omega
  simp only [Go.Sort.putCells, Array.getElem?_mapIdx, Array.getElem?_eq_getElem hc, Option.map_some]
  rw [if_pos ⟨by omega, by omega⟩, show o + i - o = i by omega, hy i hi]
  rfl
/-- the sorted list -/
def sortN (xs : List Nat) : List Nat := xs.mergeSort (fun a b => decide (a ≤ b))
theorem sortN_len (xs : List Nat) : (sortN xs).length = xs.length := List.length_mergeSort _
theorem sortN_cast (xs : List Nat) : ((xs.map (fun x : Nat => (x : Int))).mergeSort fun x y => decide (x ≤ y)) = (sortN xs).map (fun x : Nat => (x : Int)) := by
  unfold sortN
  rw [List.map_mergeSort]
  intro a _ b _
  exact decide_eq_decide.2 (by omega)
theorem Sort_own (w : World) (B : Nat) (v : Value) (xs : List Nat) (h : OwnO w B v xs) (hl : xs.length < 4611686018427387904) :
    Calls Try.prog 90 #[v] w fun e w' => e = .returned (.tuple #[]) ∧ OwnO w' B v (sortN xs) ∧ Mod (fun k => v.ownBlock = some k) w w' := by
  obtain ⟨ad, cap, rfl, h1, h2, h3⟩ := h.shape
  rcases Nat.eq_zero_or_pos xs.length with h0 | h0
  · have e := List.eq_nil_of_length_eq_zero h0
    subst e
    refine (su_Sort_nil ad cap w).mono ?_
    rintro e w' ⟨rfl, rfl⟩
    exact ⟨rfl, by have : sortN [] = [] := List.mergeSort_nil; rw [this]; exact h, Mod.refl _ _⟩
  · obtain ⟨g, o, rfl⟩ := h3 h0
    obtain ⟨_, hH, hg⟩ := h.holds
    have hs := Sort_u32 g o cap (xs.map (fun x : Nat => (x : Int))) w hH hg (by simpa using hl)
    rw [List.length_map, sortN_cast] at hs
    refine hs.mono ?_
    rintro e w' ⟨rfl, n, os, rfl⟩
    refine ⟨rfl, ?_, (mod_sortedU _).mono (fun k _ e => by rw [e]; rfl)⟩
    have := h.put (q := n) (os := os) ((sortN xs).map (fun x : Nat => (x : Int))).toArray (by simp [sortN_len]) (sortN xs) (by rw [sortN_len]; exact Nat.le_refl _) (fun i hi => by simp [hi])
    rw [sortN_len] at this
    exact this
/-- one number taken out -/
theorem Delete_own (w : World) (B g o n cap i : Nat) (xs : List Nat) (h : OwnO w B (.slice (some ⟨g, o, none⟩) n cap) xs) (hi : i < xs.length) :
    Calls Try.prog 92 #[.slice (some ⟨g, o, none⟩) n cap, .int .i64 (i : Int), .int .i64 ((i : Int) + 1)] w fun e w' => e = .returned (.slice (some ⟨g, o, none⟩) (n - 1) cap) ∧ OwnO w' B (.slice (some ⟨g, o, none⟩) (n - 1) cap) (xs.take i ++ xs.drop (i + 1)) ∧ Mod (fun k => k = g) w w' := by
  obtain ⟨hn, hH, hg⟩ := h.holds
  subst hn
  obtain ⟨_, cap', hv, h1, h2, _⟩ := h.shape
  cases hv
  have hd := su_Delete g o cap i (i + 1) (xs.map (fun x : Nat => (x : Int))) w hH (by simpa using h1) h2 (by omega) (by simp; omega)
  rw [List.length_map, show xs.length - (i + 1 - i) = xs.length - 1 by omega, show ((i + 1 : Nat) : Int) = (i : Int) + 1 by omega] at hd
  refine hd.mono ?_
  rintro e w' ⟨rfl, q, rfl⟩
  have hl : (xs.take i ++ xs.drop (i + 1)).length = xs.length - 1 := by simp; omega
  have hp := h.put (q := q) (os := #[]) ((xs.map (fun x : Nat => (x : Int))).take i ++ (xs.map (fun x : Nat => (x : Int))).drop (i + 1) ++ List.replicate (i + 1 - i) 0).toArray (by simp; omega) (xs.take i ++ xs.drop (i + 1)) (by omega) (fun j hj => by
    rw [← List.map_take, ← List.map_drop, ← List.map_append]
    rw [getElem!_pos _ j (by simp; rw [hl] at hj; omega)]
    simp only [List.getElem_toArray]
    rw [List.getElem_append_left (by rw [List.length_map]; exact hj), List.getElem_map])
  rw [hl, Go.Sort.grow_empty] at hp
  have hm := mod_sortedU (w := w) (g := g) (o := o) (n := q) (os := #[]) ((xs.map (fun x : Nat => (x : Int))).take i ++ (xs.map (fun x : Nat => (x : Int))).drop (i + 1) ++ List.replicate (i + 1 - i) 0).toArray
  rw [Go.Sort.grow_empty] at hm
  exact ⟨rfl, hp, hm⟩
theorem slice_eq_nil (c : Nat) (w : World) : Sem.run Try.prog (binOp .eql 28 (.slice none 0 c) (.slice none 0 0)) w = .ok (.bool true) w := by kernel_rfl
theorem slice_ne_nil (A : Addr) (n c : Nat) (w : World) : Sem.run Try.prog (binOp .eql 28 (.slice (some A) n c) (.slice none 0 0)) w = .ok (.bool false) w := by kernel_rfl
set_option maxRecDepth 5000 in
set_option maxHeartbeats 1000000 in
theorem Clone_own (v : Value) (xs : List Nat) (w : World) (h : Hid (URow w v xs)) (hl : xs.length * 4 ≤ 140737488355328) :
    Calls Try.prog 76 #[v] w fun e w' => ∃ v', e = .returned v' ∧ OwnO w' w.heap.size v' xs ∧ Below w.heap.size w w' := by
  obtain ⟨ad, c, hv, _⟩ := h.out.form
  subst hv
  cases ad with
  | none =>
    have hx : xs = [] := by
      obtain ⟨_, ad2, c2, hv, _, _, h3⟩ := h.out
      cases hv
      rcases Nat.eq_zero_or_pos xs.length with h0 | h0
      · exact List.eq_nil_of_length_eq_zero h0
      · obtain ⟨b, o, hb, _⟩ := h3 h0
        cases hb
    subst hx
    have he := slice_eq_nil c
    rw [List.length_nil]
    go_enter Try.func76, Try.ntmps76
    go_wp2_with fail
    go_ret
    exact ⟨_, rfl, OwnO.nil _ _, Below.refl _ _⟩
  | some A =>
    have he := slice_ne_nil A xs.length c
    go_enter Try.func76, Try.ntmps76
    go_upto_region 3 with fail
    with_reducible refine wp_region_list ?_
    with_reducible refine wpList_plain rfl ?_
    intro K hK
    go_simp
    first | with_reducible refine hK _ _ ?_ | refine hK _ _ ?_
    clear hK K
    (try simp only [Act.put, List.setIfInBounds_toArray, List.set_cons_zero, List.set_cons_succ])
    with_reducible refine wpList_plain rfl ?_
    intro K hK
    go_simp
    first | with_reducible refine hK _ _ ?_ | refine hK _ _ ?_
    clear hK K
    (try simp only [Act.put, List.setIfInBounds_toArray, List.set_cons_zero, List.set_cons_succ])
    obtain ⟨w1, hw1⟩ : ∃ W, w.alloc (.cells #[] 27) = W := ⟨_, rfl⟩
    have hb1 : Below w.heap.size w w1 := by rw [← hw1]; exact (Below.refl _ _).alloc (Nat.le_refl _) _
    have O1 : OwnO w1 w.heap.size (.slice (some ⟨w.heap.size, 0, none⟩) 0 0) [] := by
      rw [← hw1]
      exact .inr ⟨w.heap.size, 0, 0, #[], rfl, Nat.le_refl _, heap_alloc_new w _, Nat.le_refl _, by decide, Nat.le_refl _, fun i hi => by simp at hi⟩
    rw [hw1]
    refine wpList_appO w1 rfl _ _ rfl w.heap.size _ [] rfl O1 _ rfl xs (src_row (h.out.below hb1)) (by simpa using hl) hb1.size ?_
    intro v2 w2 O2 M2 N2
    have B2 : Below w.heap.size w w2 := hb1.trans (M2.below (n := w.heap.size) (fun k hk e => by have e2 : w.heap.size = k := Option.some.inj e; omega) hb1.size)
    (try simp only [Act.put, List.setIfInBounds_toArray, List.set_cons_zero, List.set_cons_succ])
    with_reducible refine wpList_plain rfl ?_
    intro K hK
    go_simp
    first | with_reducible refine hK _ _ ?_ | refine hK _ _ ?_
    clear hK K
    (try simp only [Act.put, List.setIfInBounds_toArray, List.set_cons_zero, List.set_cons_succ])
    go_wp2_with fail
    go_ret
    exact ⟨v2, rfl, O2, B2⟩
end Go.Proofs.Ytkngmnfgdlnddaa
