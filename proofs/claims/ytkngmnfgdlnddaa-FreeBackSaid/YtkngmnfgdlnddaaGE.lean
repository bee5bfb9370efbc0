/-
  Rows of numbers of the call's own that may begin inside a block; what append, sort, delete and a cut make of them. The walk of the closure of lists that opens a batch. The plain law of a plan's list pages: sets of numbers below a bound, told as rising lists. A region that draws its order and ends in one store: what the loads read need hold only until that store. Rows of batches of the call's own; what lists keeps while it runs. What lists keeps while it deals the loose numbers out.
-/
import Derived.Test.YtkngmnfgdlnddaaGC
import Derived.Test.YtkngmnfgdlnddaaSrtJ
import Derived.Test.YtkngmnfgdlnddaaSrtL
import Derived.Deep.AppendSrc
import Derived.Deep.Upon
import Derived.Laws.AppendOwn
import Derived.Test.YtkngmnfgdlnddaaGA
import Derived.Deep.RegionHeld
set_option linter.unusedSimpArgs false
set_option linter.unusedVariables false
namespace Go.Proofs.Ytkngmnfgdlnddaa
open Go.RowKit Go.Lib Hw Go.Maps
set_option linter.unusedVariables false

def OwnO (w : World) (B : Nat) (v : Value) (xs : List Nat) : Prop :=
  (v = .slice none 0 0 ∧ xs = []) ∨ ∃ g o cap cur, v = .slice (some ⟨g, o, none⟩) xs.length cap ∧ B ≤ g ∧ w.heap[g]? = some (.cells cur 27 (0, 0)) ∧ xs.length ≤ cap ∧ cap ≤ 9223372036854775807 ∧ o + cap ≤ cur.size ∧ ∀ i (h : i < xs.length), cur[o + i]? = some (uN xs[i])
theorem OwnO.nil (w : World) (B : Nat) : OwnO w B (.slice none 0 0) [] := .inl ⟨rfl, rfl⟩
theorem OwnO.lt {w : World} {B : Nat} {v : Value} {xs : List Nat} (h : OwnO w B v xs) : ∀ g, v.ownBlock = some g → B ≤ g ∧ g < w.heap.size := fun g hg => by
  rcases h with ⟨rfl, _⟩ | ⟨b, o, cap, cur, rfl, h1, h2, _⟩
  · cases hg
  · obtain rfl : b = g := Option.some.inj hg
    exact ⟨h1, heap_lt h2⟩
theorem OwnO.heap {w w' : World} {B : Nat} {v : Value} {xs : List Nat} (h : OwnO w B v xs) (hk : ∀ g, v.ownBlock = some g → w'.heap[g]? = w.heap[g]?) : OwnO w' B v xs := by
  rcases h with h | ⟨b, o, cap, cur, rfl, h1, h2, r⟩
  · exact .inl h
  · exact .inr ⟨b, o, cap, cur, rfl, h1, (hk b rfl).trans h2, r⟩
theorem OwnO.mod {w w' : World} {S : Nat → Prop} {B : Nat} {v : Value} {xs : List Nat} (h : OwnO w B v xs) (m : Mod S w w') (hd : ∀ k, v.ownBlock = some k → ¬ S k) : OwnO w' B v xs :=
  h.heap (fun g hg => m.block g (h.lt g hg).2 (hd g hg))
theorem OwnO.below {w w' : World} {B C : Nat} {v : Value} {xs : List Nat} (h : OwnO w B v xs) (hb : Below C w w') (hC : ∀ g, v.ownBlock = some g → g < C) : OwnO w' B v xs := h.heap (fun g hg => hb.block g (hC g hg))
theorem OwnO.mono {w : World} {B C : Nat} {v : Value} {xs : List Nat} (h : OwnO w B v xs) (hC : C ≤ B) : OwnO w C v xs := by
  rcases h with h | ⟨b, o, cap, cur, rfl, h1, r⟩
  · exact .inl h
  · exact .inr ⟨b, o, cap, cur, rfl, by omega, r⟩
theorem OwnO.shape {w : World} {B : Nat} {v : Value} {xs : List Nat} (h : OwnO w B v xs) : ∃ ad cap, v = .slice ad xs.length cap ∧ xs.length ≤ cap ∧ cap ≤ 9223372036854775807 ∧ (0 < xs.length → ∃ g o, ad = some ⟨g, o, none⟩) := by
  rcases h with ⟨rfl, rfl⟩ | ⟨b, o, cap, cur, rfl, _, _, h3, h4, _⟩
  · exact ⟨none, 0, rfl, Nat.le_refl _, by decide, fun h => by simp at h⟩
  · exact ⟨_, cap, rfl, h3, h4, fun _ => ⟨b, o, rfl⟩⟩
theorem OwnO.row {w : World} {B : Nat} {v : Value} {xs : List Nat} (h : OwnO w B v xs) (hA : All4 xs) : URow w v xs := by
  rcases h with ⟨rfl, rfl⟩ | ⟨b, o, cap, cur, rfl, h1, h2, h3, h4, h5, h6⟩
  · exact URow.nil w
  · exact ⟨hA, _, cap, rfl, h3, h4, fun hp => ⟨b, o, rfl, heap_lt h2, fun i hi => by rw [heap_cell h2]; exact h6 i hi⟩⟩
theorem OwnM.toO {w : World} {B : Nat} {v : Value} {xs : List Nat} (h : OwnM w B v xs) : OwnO w B v xs := by
  have hc := fun g n cap (e : v = .slice (some ⟨g, 0, none⟩) n cap) (i : Nat) (hi : i < xs.length) => OwnM.cell (e ▸ h : OwnM w B (.slice (some ⟨g, 0, none⟩) n cap) xs) i hi
  rcases h.2 with ⟨rfl, h0⟩ | ⟨g, cap, cur, rfl, h1, h2, h3, h4, h5, _⟩
  · exact .inl ⟨rfl, List.eq_nil_of_length_eq_zero h0⟩
  · refine .inr ⟨g, 0, cap, cur, rfl, h1, h2, h3, by rw [maxLen_eq] at h4; exact h4, by omega, fun i hi => ?_⟩
    have h6 := hc g xs.length cap rfl i hi
    rw [heap_cell h2] at h6
    rw [Nat.zero_add]
    exact h6
/-- what several stores leave in the block -/
theorem heap_setCells (g : Nat) (t : TypeId) (fr : Nat × Nat) : ∀ (vs : List Value) (o : Nat) (w : World) (cur : Array Value), w.heap[g]? = some (.cells cur t fr) → ∃ c2, (w.setCells g o vs).heap[g]? = some (.cells c2 t fr) ∧ c2.size = cur.size ∧ (∀ j (h : j < vs.length), o + j < cur.size → c2[o + j]? = some vs[j]) ∧ (∀ i, i < o ∨ o + vs.length ≤ i → c2[i]? = cur[i]?)
  | [], o, w, cur, h => ⟨cur, h, rfl, fun j h => by simp at h, fun i _ => rfl⟩
  | v :: r, o, w, cur, h => by
    have h1 := heap_set (o := o) h v
    obtain ⟨c2, h2, h3, h4, h5⟩ := heap_setCells g t fr r (o + 1) _ _ h1
    refine ⟨c2, h2, by rw [h3, Array.size_setIfInBounds], fun j hj hlt => ?_, fun i hi => ?_⟩
    · cases j with
      | zero =>
        rw [h5 _ (Or.inl (by omega)), Nat.add_zero, Array.getElem?_setIfInBounds, if_pos rfl, if_pos (by omega)]
        rfl
      | succ j =>
        have := h4 j (by simpa using hj) (by rw [Array.size_setIfInBounds]; omega)
        rw [show o + (j + 1) = o + 1 + j by omega, this]
        rfl
    · rw [List.length_cons] at hi
      rw [h5 i (by omega), Array.getElem?_setIfInBounds, if_neg (by omega)]
theorem mod_setCells (g : Nat) : ∀ (vs : List Value) (o : Nat) (w : World), Mod (fun k => k = g) w (w.setCells g o vs)
  | [], o, w => Mod.refl _ _
  | v :: r, o, w => (Mod.set (S := fun k => k = g) w rfl v).then (mod_setCells g r (o + 1) _)
/-- some numbers behind a row -/
theorem run_appO (W : World) (B : Nat) (v : Value) (xs : List Nat) (hO : OwnO W B v xs) (y : Value) (ns : List Nat) (ty : TypeId) (hs : Src Try.prog 1 28 y ns.length (ns.map uN) W) (hlen : (xs.length + ns.length) * 4 ≤ 140737488355328) (hB : B ≤ W.heap.size) :
    ∃ v' w', (Builtin.append_ #[28, 28] ty #[v, y]).run Try.prog W = .ok v' w' ∧ OwnO w' B v' (xs ++ ns) ∧ Mod (fun k => v.ownBlock = some k) W w' ∧ (∀ g, v'.ownBlock = some g → v.ownBlock = some g ∨ W.heap.size ≤ g) := by
  obtain ⟨i, hi, hz0, hz1, hz2⟩ := info_parts info_M
  have hs1 : Src Try.prog i.size 28 y ns.length (ns.map uN) W := by rw [hz1]; exact hs
  have grown : ∀ (olds : List Value) (old : Nat), olds = xs.map uN → ∀ cap, cap = grownCap W (xs.length + ns.length) old 27 →
      OwnO (W.drew.alloc (.cells ((olds ++ ns.map uN).toArray ++ Builtin.zeroCells (Value.int .u32 0).cells (cap - (xs.length + ns.length))) 27)) B (.slice (some ⟨W.heap.size, 0, none⟩) (xs.length + ns.length) cap) (xs ++ ns) := by
    rintro _ old rfl cap rfl
    have hge := grownCap_ge W (xs.length + ns.length) old 27
    have hle := grownCap_le_maxLen W (xs.length + ns.length) old 27 (by rw [maxLen_eq]; omega)
    rw [maxLen_eq] at hle
    refine .inr ⟨W.heap.size, 0, _, _, by rw [List.length_append], hB, heap_alloc_new W.drew _, by rw [List.length_append]; exact hge, hle, ?_, fun j hj => ?_⟩
    · rw [Array.size_append, size_zeroCells, List.size_toArray, List.length_append, List.length_map, List.length_map]
      show _ ≤ _ + _ * 1
      omega
    · rw [Nat.zero_add, Array.getElem?_append_left (by rw [List.size_toArray, ← List.map_append, List.length_map]; exact hj), List.getElem?_toArray, ← List.map_append, List.getElem?_map, List.getElem?_eq_getElem hj]
      rfl
  have modG : ∀ (o : Obj), Mod (fun k => v.ownBlock = some k) W (W.drew.alloc o) := fun o => Mod.of _ (by have := (Below.refl W.heap.size W).drew.alloc (o := o) (Nat.le_refl _); exact this)
  rcases hO with ⟨rfl, rfl⟩ | ⟨g, o, cap, cur, rfl, h1, h2, h3, h4, h5, h6⟩
  · rcases Nat.eq_zero_or_pos ns.length with h0 | h0
    · have e := List.eq_nil_of_length_eq_zero h0
      subst e
      exact ⟨_, _, run_append_nothing W _ _ ty _ i Try.underlying28 hi none 0 0 (Nat.le_refl _) y hs1, OwnO.nil _ _, Mod.refl _ _, fun g hg => by cases hg⟩
    · have hr := run_append_grow_src (P := Try.prog) W _ _ ty _ i (.int .u32 0) Try.underlying28 hi hz0 none 0 0 [] (run_firstCells_none W.drew i.size 0 0 0) y ns.length (ns.map uN) hs1 (by omega) (by omega) (growslice_fits (by omega) (by rw [hz2]; simpa using hlen))
      refine ⟨_, _, hr, ?_, modG _, fun g hg => .inr (Nat.le_of_eq (Option.some.inj hg))⟩
      have := grown [] 0 rfl _ rfl
      simpa using this
  · by_cases hroom : xs.length + ns.length ≤ cap
    · have hr := run_append_room_src (P := Try.prog) W _ _ ty _ i Try.underlying28 hi g o xs.length cap y ns.length (ns.map uN) hs1 hroom (fun j hj => by
        rw [List.length_map] at hj
        rw [hz1, heap_cell h2, Array.getElem?_eq_getElem (by omega)]; rfl) (fun j hj => heap_free h2 _)
      obtain ⟨c2, q1, q2, q3, q4⟩ := heap_setCells g _ _ (ns.map uN) (o + xs.length * i.size) W cur h2
      refine ⟨_, _, hr, .inr ⟨g, o, cap, c2, by rw [List.length_append], h1, q1, by rw [List.length_append]; exact hroom, h4, by rw [q2]; exact h5, fun j hj => ?_⟩, (mod_setCells g _ _ W).mono (fun k _ e => by rw [e]; rfl), fun g hg => .inl hg⟩
      rw [List.length_append] at hj
      rw [hz1, Nat.mul_one] at q3 q4
      by_cases hjx : j < xs.length
      · rw [q4 _ (Or.inl (by omega)), h6 j hjx, List.getElem_append_left hjx]
      · have h7 := q3 (j - xs.length) (by rw [List.length_map]; omega) (by omega)
        rw [show o + xs.length + (j - xs.length) = o + j by omega] at h7
        rw [h7, List.getElem_map, List.getElem_append_right (by omega)]
    · have hf := run_firstCells_some (P := Try.prog) W.drew i.size xs.length ⟨g, o, none⟩ xs.length cap (xs.map uN) (by rw [List.length_map, hz1, Nat.mul_one]) (fun j u hu => by
        rw [List.getElem?_map] at hu
        obtain ⟨x, hx, rfl⟩ := Option.map_eq_some_iff.1 hu
        obtain ⟨hj, rfl⟩ := List.getElem?_eq_some_iff.1 hx
        have hadd : (⟨g, o, none⟩ : Addr).add j = ⟨g, o + j, none⟩ := Addr.add_lit _ _ _
        rw [hadd]
        show W.cell? _ = _
        rw [heap_cell h2]
        exact h6 j hj)
      have hr := run_append_grow_src (P := Try.prog) W _ _ ty _ i (.int .u32 0) Try.underlying28 hi hz0 (some ⟨g, o, none⟩) xs.length cap (xs.map uN) hf y ns.length (ns.map uN) hs1 (by omega) (by omega) (growslice_fits (by omega) (by rw [hz2]; exact hlen))
      exact ⟨_, _, hr, grown _ cap rfl _ rfl, modG _, fun k hk => .inr (Nat.le_of_eq (Option.some.inj hk))⟩
theorem wpList_appO {ops : Array Oper} {rest : List Oper} {o : Oper} {a : Act} {Q : Exit → Act → World → Prop} (W : World) (hgd : o.guard = none) (s y : Operand)
    (ho : o.op = .call { callee := .builtin .append, args := #[s, y], argTypes := #[28, 28] })
    (B : Nat) (v : Value) (xs : List Nat) (hs : a.eval s = v) (hown : OwnO W B v xs) (yv : Value) (hy : a.eval y = yv) (ns : List Nat) (hsrc : Src Try.prog 1 28 yv ns.length (ns.map uN) W)
    (hlen : (xs.length + ns.length) * 4 ≤ 140737488355328) (hB : B ≤ W.heap.size)
    (h : ∀ v' w', OwnO w' B v' (xs ++ ns) → Mod (fun k => v.ownBlock = some k) W w' → (∀ g, v'.ownBlock = some g → v.ownBlock = some g ∨ W.heap.size ≤ g) → wpList Try.prog ops Q rest (a.put o.dst v') w') :
    wpList Try.prog ops Q (o :: rest) a W := by
  obtain ⟨v', w', hr, h1, h2, h3⟩ := run_appO W B v xs hown yv ns o.type hsrc hlen hB
  refine wpList_plain hgd fun _ hK => ?_
  unfold Oper.wp execOp
  simp only [ho, resolve, invoke, builtin, Sem.run_bind, Sem.run_pure, Result.andThen_ok, List.map_toArray, List.map_cons, List.map_nil, hs, hy, hr]
  exact hK _ _ (h v' w' h1 h2 h3)
/-- one number that was laid into a block of its own -/
theorem src_one (W : World) (x : Nat) (t : TypeId) : Src Try.prog 1 28 (.slice (some ⟨W.heap.size, 0, none⟩) 1 1) [x].length ([x].map uN) (W.alloc (.cells #[.int .u32 (x : Int)] t)) :=
  Src.ofSlice _ Try.underlying28 ⟨W.heap.size, 0, none⟩ 1 1 [uN x] rfl (World.news_of_block (heap_alloc_new W _)) (uN_one [x])
/-- a row as a source -/
theorem src_row {W : World} {v : Value} {xs : List Nat} (h : URow W v xs) : Src Try.prog 1 28 v xs.length (xs.map uN) W := by
  obtain ⟨hA, ad, c, rfl, h1, h2, h3⟩ := h
  rcases Nat.eq_zero_or_pos xs.length with h0 | h0
  · have e := List.eq_nil_of_length_eq_zero h0
    subst e
    cases ad with
    | none => exact Src.ofNil _ Try.underlying28 c
    | some A => exact Src.ofSlice _ Try.underlying28 A 0 c [] rfl (fun j u hu => by simp at hu) (fun u hu => by simp at hu)
  · obtain ⟨b, o, rfl, _, hc⟩ := h3 h0
    refine Src.ofSlice _ Try.underlying28 ⟨b, o, none⟩ xs.length c (xs.map uN) (by rw [List.length_map, Nat.mul_one]) (fun j u hu => ?_) (uN_one xs)
    rw [List.getElem?_map] at hu
    obtain ⟨x, hx, rfl⟩ := Option.map_eq_some_iff.1 hu
    obtain ⟨hj, rfl⟩ := List.getElem?_eq_some_iff.1 hx
    have hadd : (⟨b, o, none⟩ : Addr).add j = ⟨b, o + j, none⟩ := Addr.add_lit _ _ _
    rw [hadd]
    exact hc j hj
/-- what is left of a row behind its first k numbers -/
theorem OwnO.tail {w : World} {B g o n cap : Nat} {xs : List Nat} (h : OwnO w B (.slice (some ⟨g, o, none⟩) n cap) xs) (k : Nat) (hk : k ≤ xs.length) : OwnO w B (.slice (if cap = k then some ⟨g, o, none⟩ else some ⟨g, o + k, none⟩) (n - k) (cap - k)) (xs.drop k) := by
  rcases h with ⟨h, _⟩ | ⟨g2, o2, cap2, cur, hv, h1, h2, h3, h4, h5, h6⟩
  · cases h
  cases hv
  by_cases hc : cap = k
  · have e : xs.drop k = [] := List.eq_nil_of_length_eq_zero (by rw [List.length_drop]; omega)
    rw [if_pos hc, e]
    exact .inr ⟨g, o, cap - k, cur, by rw [show xs.length - k = 0 by omega]; rfl, h1, h2, Nat.zero_le _, by omega, by omega, fun i hi => by simp at hi⟩
  · rw [if_neg hc]
    refine .inr ⟨g, o + k, cap - k, cur, by rw [List.length_drop], h1, h2, by rw [List.length_drop]; omega, by omega, by omega, fun i hi => ?_⟩
    rw [List.length_drop] at hi
    rw [Nat.add_assoc, h6 (k + i) (by omega), List.getElem_drop]
/-- the first k numbers of a row, with no room behind -/
theorem OwnO.head {w : World} {B g o n cap : Nat} {xs : List Nat} (h : OwnO w B (.slice (some ⟨g, o, none⟩) n cap) xs) (k : Nat) (hk : k ≤ xs.length) : OwnO w B (.slice (some ⟨g, o, none⟩) k k) (xs.take k) := by
  rcases h with ⟨h, _⟩ | ⟨g2, o2, cap2, cur, hv, h1, h2, h3, h4, h5, h6⟩
  · cases h
  cases hv
  have hl : (xs.take k).length = k := by rw [List.length_take]; omega
  refine .inr ⟨g, o, k, cur, by rw [hl], h1, h2, by rw [hl]; exact Nat.le_refl _, by omega, by omega, fun i hi => ?_⟩
  rw [hl] at hi
  rw [h6 i (by omega), List.getElem_take]
/-- a row as the sort wants it -/
theorem OwnO.holds {w : World} {B g o n cap : Nat} {xs : List Nat} (h : OwnO w B (.slice (some ⟨g, o, none⟩) n cap) xs) : n = xs.length ∧ Go.Sort.Holds (Value.int .u32) w g o (xs.map (fun x : Nat => (x : Int))).toArray ∧ g < w.heap.size := by
  rcases h with ⟨h, _⟩ | ⟨g2, o2, cap2, cur, hv, h1, h2, h3, h4, h5, h6⟩
  · cases h
  cases hv
  refine ⟨rfl, fun j hj => ?_, heap_lt h2⟩
  have hj2 : j < xs.length := by simpa using hj
  refine ⟨?_, heap_free h2 _⟩
  rw [heap_cell h2, h6 j hj2]
  simp [hj2, uN]
theorem heap_sortedU {w : World} {g o n : Nat} {os : Array Obj} {cur : Array Value} {e : TypeId} {fr : Nat × Nat} (d : Array Int) (hb : w.heap[g]? = some (.cells cur e fr)) :
    (Go.Sort.grow (Go.Sort.putRow (Value.int .u32) (Go.Sort.ahead w n) g o d) os).heap[g]? = some (.cells (Go.Sort.putCells (Value.int .u32) o d cur) e fr) := by
  rw [Go.Sort.heap_grow_old _ _ (by simpa using heap_lt hb)]
  simp [Go.Sort.putRow, Go.Sort.mapBlock, Go.Sort.ahead, Array.getElem?_modify, hb, Go.Sort.onCells]
theorem mod_sortedU {w : World} {g o n : Nat} {os : Array Obj} (d : Array Int) : Mod (fun k => k = g) w (Go.Sort.grow (Go.Sort.putRow (Value.int .u32) (Go.Sort.ahead w n) g o d) os) := by
  refine ⟨rfl, rfl, rfl, by simp, fun k hk hne => ?_⟩
  rw [Go.Sort.heap_grow_old _ _ (by simpa using hk)]
  have : g ≠ k := fun e => hne e.symm
  simp [Go.Sort.putRow, Go.Sort.mapBlock, Go.Sort.ahead, Array.getElem?_modify, this]
/-- a row written over as far as it goes; the first of the new numbers -/
theorem OwnO.put {w : World} {B g o n cap q : Nat} {os : Array Obj} {xs : List Nat} (h : OwnO w B (.slice (some ⟨g, o, none⟩) n cap) xs) (d : Array Int) (hd : d.size = xs.length) (ys : List Nat) (hys : ys.length ≤ xs.length) (hy : ∀ i (g : i < ys.length), d[i]! = (ys[i] : Int)) :
    OwnO (Go.Sort.grow (Go.Sort.putRow (Value.int .u32) (Go.Sort.ahead w q) g o d) os) B (.slice (some ⟨g, o, none⟩) ys.length cap) ys := by
  rcases h with ⟨h, _⟩ | ⟨g2, o2, cap2, cur, hv, h1, h2, h3, h4, h5, h6⟩
  · cases h
  cases hv
  refine .inr ⟨g, o, cap, _, rfl, h1, heap_sortedU d h2, by omega, h4, by simpa [Go.Sort.putCells] using h5, fun i hi => ?_⟩
  have hc : o + i < cur.size := by omega
  simp only [Go.Sort.putCells, Array.getElem?_mapIdx, Array.getElem?_eq_getElem hc, Option.map_some]
  rw [if_pos ⟨by omega, by omega⟩, show o + i - o = i by omega, hy i hi]
  rfl
/-- the sorted list -/
def sortN (xs : List Nat) : List Nat := xs.mergeSort (fun a b => decide (a ≤ b))
theorem sortN_len (xs : List Nat) : (sortN xs).length = xs.length := List.length_mergeSort _
theorem sortN_cast (xs : List Nat) : ((xs.map (fun x : Nat => (x : Int))).mergeSort fun x y => decide (x ≤ y)) = (sortN xs).map (fun x : Nat => (x : Int)) := by
  unfold sortN
  rw [List.map_mergeSort]
  intro a _ b _
  exact decide_eq_decide.2 (by omega)
theorem Sort_own (w : World) (B : Nat) (v : Value) (xs : List Nat) (h : OwnO w B v xs) (hl : xs.length < 4611686018427387904) :
    Calls Try.prog 90 #[v] w fun e w' => e = .returned (.tuple #[]) ∧ OwnO w' B v (sortN xs) ∧ Mod (fun k => v.ownBlock = some k) w w' := by
  obtain ⟨ad, cap, rfl, h1, h2, h3⟩ := h.shape
  rcases Nat.eq_zero_or_pos xs.length with h0 | h0
  · have e := List.eq_nil_of_length_eq_zero h0
    subst e
    refine (su_Sort_nil ad cap w).mono ?_
    rintro e w' ⟨rfl, rfl⟩
    exact ⟨rfl, by have : sortN [] = [] := List.mergeSort_nil; rw [this]; exact h, Mod.refl _ _⟩
  · obtain ⟨g, o, rfl⟩ := h3 h0
    obtain ⟨_, hH, hg⟩ := h.holds
    have hs := Sort_u32 g o cap (xs.map (fun x : Nat => (x : Int))) w hH hg (by simpa using hl)
    rw [List.length_map, sortN_cast] at hs
    refine hs.mono ?_
    rintro e w' ⟨rfl, n, os, rfl⟩
    refine ⟨rfl, ?_, (mod_sortedU _).mono (fun k _ e => by rw [e]; rfl)⟩
    have := h.put (q := n) (os := os) ((sortN xs).map (fun x : Nat => (x : Int))).toArray (by simp [sortN_len]) (sortN xs) (by rw [sortN_len]; exact Nat.le_refl _) (fun i hi => by simp [hi])
    rw [sortN_len] at this
    exact this
/-- one number taken out -/
theorem Delete_own (w : World) (B g o n cap i : Nat) (xs : List Nat) (h : OwnO w B (.slice (some ⟨g, o, none⟩) n cap) xs) (hi : i < xs.length) :
    Calls Try.prog 92 #[.slice (some ⟨g, o, none⟩) n cap, .int .i64 (i : Int), .int .i64 ((i : Int) + 1)] w fun e w' => e = .returned (.slice (some ⟨g, o, none⟩) (n - 1) cap) ∧ OwnO w' B (.slice (some ⟨g, o, none⟩) (n - 1) cap) (xs.take i ++ xs.drop (i + 1)) ∧ Mod (fun k => k = g) w w' := by
  obtain ⟨hn, hH, hg⟩ := h.holds
  subst hn
  obtain ⟨_, cap', hv, h1, h2, _⟩ := h.shape
  cases hv
  have hd := su_Delete g o cap i (i + 1) (xs.map (fun x : Nat => (x : Int))) w hH (by simpa using h1) h2 (by omega) (by simp; omega)
  rw [List.length_map, show xs.length - (i + 1 - i) = xs.length - 1 by omega, show ((i + 1 : Nat) : Int) = (i : Int) + 1 by omega] at hd
  refine hd.mono ?_
  rintro e w' ⟨rfl, q, rfl⟩
  have hl : (xs.take i ++ xs.drop (i + 1)).length = xs.length - 1 := by simp; omega
  have hp := h.put (q := q) (os := #[]) ((xs.map (fun x : Nat => (x : Int))).take i ++ (xs.map (fun x : Nat => (x : Int))).drop (i + 1) ++ List.replicate (i + 1 - i) 0).toArray (by simp; omega) (xs.take i ++ xs.drop (i + 1)) (by omega) (fun j hj => by
    rw [← List.map_take, ← List.map_drop, ← List.map_append]
    rw [getElem!_pos _ j (by simp; rw [hl] at hj; omega)]
    simp only [List.getElem_toArray]
    rw [List.getElem_append_left (by rw [List.length_map]; exact hj), List.getElem_map])
  rw [hl, Go.Sort.grow_empty] at hp
  have hm := mod_sortedU (w := w) (g := g) (o := o) (n := q) (os := #[]) ((xs.map (fun x : Nat => (x : Int))).take i ++ (xs.map (fun x : Nat => (x : Int))).drop (i + 1) ++ List.replicate (i + 1 - i) 0).toArray
  rw [Go.Sort.grow_empty] at hm
  exact ⟨rfl, hp, hm⟩
theorem slice_eq_nil (c : Nat) (w : World) : Sem.run Try.prog (binOp .eql 28 (.slice none 0 c) (.slice none 0 0)) w = .ok (.bool true) w := by kernel_rfl
theorem slice_ne_nil (A : Addr) (n c : Nat) (w : World) : Sem.run Try.prog (binOp .eql 28 (.slice (some A) n c) (.slice none 0 0)) w = .ok (.bool false) w := by kernel_rfl
set_option maxRecDepth 5000 in
set_option maxHeartbeats 1000000 in
theorem Clone_own (v : Value) (xs : List Nat) (w : World) (h : Hid (URow w v xs)) (hl : xs.length * 4 ≤ 140737488355328) :
    Calls Try.prog 76 #[v] w fun e w' => ∃ v', e = .returned v' ∧ OwnO w' w.heap.size v' xs ∧ Below w.heap.size w w' := by
  obtain ⟨ad, c, hv, _⟩ := h.out.form
  subst hv
  cases ad with
  | none =>
    have hx : xs = [] := by
      obtain ⟨_, ad2, c2, hv, _, _, h3⟩ := h.out
      cases hv
      rcases Nat.eq_zero_or_pos xs.length with h0 | h0
      · exact List.eq_nil_of_length_eq_zero h0
      · obtain ⟨b, o, hb, _⟩ := h3 h0
        cases hb
    subst hx
    have he := slice_eq_nil c
    rw [List.length_nil]
    go_enter Try.func76, Try.ntmps76
    go_wp2_with fail
    go_ret
    exact ⟨_, rfl, OwnO.nil _ _, Below.refl _ _⟩
  | some A =>
    have he := slice_ne_nil A xs.length c
    go_enter Try.func76, Try.ntmps76
    go_upto_region 3 with fail
    with_reducible refine wp_region_list ?_
    (with_reducible refine wpList_plain rfl ?_); intro K hK; go_simp; (with_reducible refine hK _ _ ?_); clear hK K; try simp only [Act.put, nA, nB, nC]
    (with_reducible refine wpList_plain rfl ?_); intro K hK; go_simp; (with_reducible refine hK _ _ ?_); clear hK K; try simp only [Act.put, nA, nB, nC]
    obtain ⟨w1, hw1⟩ : ∃ W, w.alloc (.cells #[] 27) = W := ⟨_, rfl⟩
    have hb1 : Below w.heap.size w w1 := by rw [← hw1]; exact (Below.refl _ _).alloc (Nat.le_refl _) _
    have O1 : OwnO w1 w.heap.size (.slice (some ⟨w.heap.size, 0, none⟩) 0 0) [] := by
      rw [← hw1]
      exact .inr ⟨w.heap.size, 0, 0, #[], rfl, Nat.le_refl _, heap_alloc_new w _, Nat.le_refl _, by decide, Nat.le_refl _, fun i hi => by simp at hi⟩
    rw [hw1]
    refine wpList_appO w1 rfl _ _ rfl w.heap.size _ [] rfl O1 _ rfl xs (src_row (h.out.below hb1)) (by simpa using hl) hb1.size ?_
    intro v2 w2 O2 M2 N2
    have B2 : Below w.heap.size w w2 := hb1.trans (M2.below (n := w.heap.size) (fun k hk e => by have e2 : w.heap.size = k := Option.some.inj e; omega) hb1.size)
    (try simp only [Act.put, nA, nB, nC])
    (with_reducible refine wpList_plain rfl ?_); intro K hK; go_simp; (with_reducible refine hK _ _ ?_); clear hK K; try simp only [Act.put, nA, nB, nC]
    go_wp2_with fail
    go_ret
    exact ⟨v2, rfl, O2, B2⟩
end Go.Proofs.Ytkngmnfgdlnddaa

namespace Go.Proofs.Ytkngmnfgdlnddaa
open Go.RowKit Go.Lib Hw Go.Maps
set_option linter.unusedVariables false

/-- the variables of lists: loose and left, each with a row of its own; where the plan is -/
structure LV (w : World) (LC FC TC T B : Nat) (v1 v2 : Value) (ls fs : List Nat) : Prop where
  c1 : w.heap[LC]? = some (.cells #[v1] 28 (0, 0))
  c2 : w.heap[FC]? = some (.cells #[v2] 28 (0, 0))
  ct : w.heap[TC]? = some (.cells #[.pointer (some ⟨T, 0, none⟩)] 126 (0, 0))
  o1 : OwnO w B v1 ls
  o2 : OwnO w B v2 fs
  a1 : ∀ g, v1.ownBlock = some g → g ≠ LC ∧ g ≠ FC ∧ g ≠ TC ∧ v2.ownBlock ≠ some g
  a2 : ∀ g, v2.ownBlock = some g → g ≠ LC ∧ g ≠ FC ∧ g ≠ TC
  lf : LC ≠ FC
  lt : LC ≠ TC
  ft : FC ≠ TC
theorem LV.mod {w w' : World} {S : Nat → Prop} {LC FC TC T B : Nat} {v1 v2 : Value} {ls fs : List Nat} (h : LV w LC FC TC T B v1 v2 ls fs) (m : Mod S w w') (s1 : ¬ S LC) (s2 : ¬ S FC) (s3 : ¬ S TC) (s4 : ∀ g, v1.ownBlock = some g → ¬ S g) (s5 : ∀ g, v2.ownBlock = some g → ¬ S g) : LV w' LC FC TC T B v1 v2 ls fs :=
  ⟨m.heap h.c1 s1, m.heap h.c2 s2, m.heap h.ct s3, h.o1.mod m s4, h.o2.mod m s5, h.a1, h.a2, h.lf, h.lt, h.ft⟩
/-- what may have turned: the two variables and their rows -/
def LS (LC FC : Nat) (v1 v2 : Value) (k : Nat) : Prop := k = LC ∨ k = FC ∨ v1.ownBlock = some k ∨ v2.ownBlock = some k
/-- a row that came out of another one -/
def From (w : World) (v v' : Value) : Prop := ∀ g, v'.ownBlock = some g → v.ownBlock = some g ∨ w.heap.size ≤ g
theorem From.refl (w : World) (v : Value) : From w v v := fun g h => .inl h
theorem From.trans {w w2 : World} {a b c : Value} (h : From w a b) (k : From w2 b c) (hz : w.heap.size ≤ w2.heap.size) : From w a c := fun g hg => (k g hg).elim (h g) (fun h => .inr (Nat.le_trans hz h))
/-- another row in the variable loose -/
theorem LV.put1 {w w' : World} {LC FC TC T B : Nat} {v1 v2 v3 : Value} {ls fs xs : List Nat} (h : LV w LC FC TC T B v1 v2 ls fs) (ho : OwnO w' B v3 xs) (m : Mod (fun k => v1.ownBlock = some k) w w') (hf : From w v1 v3) : LV (w'.setCell ⟨LC, 0, none⟩ v3) LC FC TC T B v3 v2 xs fs ∧ Mod (fun k => k = LC ∨ v1.ownBlock = some k) w (w'.setCell ⟨LC, 0, none⟩ v3) := by
  have n1 : ∀ g, v3.ownBlock = some g → g ≠ LC ∧ g ≠ FC ∧ g ≠ TC ∧ v2.ownBlock ≠ some g := fun g hg => by
    rcases hf g hg with h1 | h1
    · exact h.a1 g h1
    · refine ⟨fun e => ?_, fun e => ?_, fun e => ?_, fun e => ?_⟩
      · have := heap_lt h.c1; omega
      · have := heap_lt h.c2; omega
      · have := heap_lt h.ct; omega
      · have := (h.o2.lt g e).2; omega
  have m2 := Mod.set (S := fun k => k = LC) (o := 0) w' rfl v3
  have d1 : w'.heap[LC]? = some (.cells #[v1] 28 (0, 0)) := m.heap h.c1 (fun e => (h.a1 LC e).1 rfl)
  have d2 := m.heap h.c2 (fun e => (h.a1 FC e).2.1 rfl)
  have d3 := m.heap h.ct (fun e => (h.a1 TC e).2.2.1 rfl)
  refine ⟨⟨by rw [heap_set d1]; rfl, m2.heap d2 (fun e => h.lf e.symm), m2.heap d3 (fun e => h.lt e.symm), ho.mod m2 (fun g hg e => (n1 g hg).1 e), (h.o2.mod m (fun g hg e => (h.a1 g e).2.2.2 hg)).mod m2 (fun g hg e => (h.a2 g hg).1 e), n1, h.a2, h.lf, h.lt, h.ft⟩, ?_⟩
  exact (m.mono (fun k _ e => .inr e)).then (m2.mono (fun k _ e => .inl e))
/-- another row in the variable left -/
theorem LV.put2 {w w' : World} {LC FC TC T B : Nat} {v1 v2 v3 : Value} {ls fs xs : List Nat} (h : LV w LC FC TC T B v1 v2 ls fs) (ho : OwnO w' B v3 xs) (m : Mod (fun k => v2.ownBlock = some k) w w') (hf : From w v2 v3) : LV (w'.setCell ⟨FC, 0, none⟩ v3) LC FC TC T B v1 v3 ls xs ∧ Mod (fun k => k = FC ∨ v2.ownBlock = some k) w (w'.setCell ⟨FC, 0, none⟩ v3) := by
  have n2 : ∀ g, v3.ownBlock = some g → g ≠ LC ∧ g ≠ FC ∧ g ≠ TC := fun g hg => by
    rcases hf g hg with h1 | h1
    · exact h.a2 g h1
    · refine ⟨fun e => ?_, fun e => ?_, fun e => ?_⟩
      · have := heap_lt h.c1; omega
      · have := heap_lt h.c2; omega
      · have := heap_lt h.ct; omega
  have n1 : ∀ g, v1.ownBlock = some g → g ≠ LC ∧ g ≠ FC ∧ g ≠ TC ∧ v3.ownBlock ≠ some g := fun g hg => by
    have h1 := h.a1 g hg
    refine ⟨h1.1, h1.2.1, h1.2.2.1, fun e => ?_⟩
    rcases hf g e with h2 | h2
    · exact h1.2.2.2 h2
    · have := (h.o1.lt g hg).2; omega
  have m2 := Mod.set (S := fun k => k = FC) (o := 0) w' rfl v3
  have d1 := m.heap h.c1 (fun e => (h.a2 LC e).1 rfl)
  have d2 : w'.heap[FC]? = some (.cells #[v2] 28 (0, 0)) := m.heap h.c2 (fun e => (h.a2 FC e).2.1 rfl)
  have d3 := m.heap h.ct (fun e => (h.a2 TC e).2.2 rfl)
  refine ⟨⟨m2.heap d1 (fun e => h.lf e), by rw [heap_set d2]; rfl, m2.heap d3 (fun e => h.ft e.symm), (h.o1.mod m (fun g hg e => (h.a1 g hg).2.2.2 e)).mod m2 (fun g hg e => (h.a1 g hg).2.1 e), ho.mod m2 (fun g hg e => (n2 g hg).2.1 e), n1, n2, h.lf, h.lt, h.ft⟩, ?_⟩
  exact (m.mono (fun k _ e => .inr e)).then (m2.mono (fun k _ e => .inl e))
theorem ls1 {w wr : World} {LC FC : Nat} {v1 v2 u1 : Value} (hf : From w v1 u1) : ∀ k, k < w.heap.size → (k = LC ∨ u1.ownBlock = some k) → LS LC FC v1 v2 k := fun k hk h => by
  rcases h with h | h
  · exact .inl h
  · rcases hf k h with h1 | h1
    · exact .inr (.inr (.inl h1))
    · omega
theorem ls2 {w wr : World} {LC FC : Nat} {v1 v2 u2 : Value} (hf : From w v2 u2) : ∀ k, k < w.heap.size → (k = FC ∨ u2.ownBlock = some k) → LS LC FC v1 v2 k := fun k hk h => by
  rcases h with h | h
  · exact .inr (.inl h)
  · rcases hf k h with h1 | h1
    · exact .inr (.inr (.inr h1))
    · omega
/-- what the opening of a batch leaves -/
def OpenPost (LC FC TC T B : Nat) (v1 v2 : Value) (ls fs : List Nat) (w : World) (e : Ending) (w' : World) : Prop :=
  e = .returned (.tuple #[]) ∧ Mod (LS LC FC v1 v2) w w' ∧ ∃ u1 u2, LV w' LC FC TC T B u1 u2 ls fs ∧ From w v1 u1 ∧ From w v2 u2
theorem take_filter {p : Nat → Bool} {xs : List Nat} {k : Nat} (h : k < xs.length) : (xs.take (k + 1)).filter p = (xs.take k).filter p ++ (if p xs[k] = true then [xs[k]] else []) := by
  rw [List.take_succ_eq_append_getElem h, List.filter_append]
  congr 1
  by_cases hp : p xs[k] = true
  · rw [if_pos hp, List.filter_cons_of_pos hp]; rfl
  · rw [if_neg hp, List.filter_cons_of_neg hp]; rfl
set_option maxRecDepth 5000 in
set_option maxHeartbeats 4000000 in
theorem open_any (LC FC TC T B hb lb op pages most nh nl pg : Nat) (tv lv chv nv v1 v2 : Value) (held left : Nat → Bool) (xs ls fs : List Nat) (w : World)
    (hv : Hid (LV w LC FC TC T B v1 v2 ls fs)) (ht : Hid (TB w T tv lv op pages hb lb most chv)) (hh : Hid (SetM w hb nh held)) (hl : Hid (SetM w lb nl left)) (hx : Hid (URow w nv xs)) (hpg : pg < 4294967296) (hB : B ≤ w.heap.size)
    (hTl : ¬ LS LC FC v1 v2 T) (hhl : ¬ LS LC FC v1 v2 hb) (hll : ¬ LS LC FC v1 v2 lb) (hxl : 0 < xs.length → ∀ k, nv.ownBlock = some k → ¬ LS LC FC v1 v2 k)
    (hls : ls.length ≤ 1000000) (hfs : fs.length ≤ 1000000) (hxs : xs.length ≤ 1000000) :
    Calls Try.prog 89 #[.agg #[.int .u32 (pg : Int), nv], .pointer (some ⟨LC, 0, none⟩), .pointer (some ⟨TC, 0, none⟩), .pointer (some ⟨FC, 0, none⟩)] w (OpenPost LC FC TC T B v1 v2 (sortN (ls ++ (pg :: xs.filter left))) (sortN (fs ++ xs.filter (mayF left held))) w) := by
  obtain ⟨N, hN⟩ : ∃ N, w.heap.size = N := ⟨_, rfl⟩
  have HN := Lib.hid hN
  obtain ⟨nad, nc, hnv, hnl, _⟩ := hx.out.form
  subst hnv
  obtain ⟨l9, hl9⟩ : ∃ l, sortN (ls ++ (pg :: xs.filter left)) = l := ⟨_, rfl⟩
  obtain ⟨f9, hf9⟩ : ∃ l, sortN (fs ++ xs.filter (mayF left held)) = l := ⟨_, rfl⟩
  have HL9 := Lib.hid hl9
  have HF9 := Lib.hid hf9
  rw [hl9, hf9]
  obtain ⟨R, hR⟩ : ∃ R, OpenPost LC FC TC T B v1 v2 l9 f9 w = R := ⟨_, rfl⟩
  have HR : Hid (∀ w' u1 u2, Mod (LS LC FC v1 v2) w w' → LV w' LC FC TC T B u1 u2 l9 f9 → From w v1 u1 → From w v2 u2 → R (.returned (.tuple #[])) w') := fun w' u1 u2 h1 h2 h3 h4 => by
    rw [← hR]
    exact ⟨rfl, h1, u1, u2, h2, h3, h4⟩
  rw [hR]
  clear hN hR hl9 hf9
  go_enter Try.func89, Try.ntmps89
  go_upto_region 0 with fail
  with_reducible refine wp_region_list ?_
  refine wpList_boxB rfl _ _ rfl N HN.out #[.int .u32 (pg : Int), .slice nad xs.length nc] rfl ?_
  intro w0 e0 b0 z0
  (try simp only [Act.put, nA, nB, nC])
  have E0 := Lib.hid e0
  have Z0 := Lib.hid z0
  have b0' : Below w.heap.size w w0 := by rw [HN.out]; exact b0
  have M0 : Hid (Mod (LS LC FC v1 v2) w w0) := Mod.of _ b0'
  have V0 : Hid (LV w0 LC FC TC T B v1 v2 ls fs) := hv.out.mod (Mod.of (fun _ => False) b0') id id id (fun _ _ h => h) (fun _ _ h => h)
  have hlcN : LC < N := by have := heap_lt hv.out.c1; have := HN.out; omega
  have hfcN : FC < N := by have := heap_lt hv.out.c2; have := HN.out; omega
  have htcN : TC < N := by have := heap_lt hv.out.ct; have := HN.out; omega
  have hBN : B ≤ N := by have := HN.out; omega
  have hN2 : w.heap.size = N := HN.out
  clear e0 b0 z0 b0'
  have k0 := heap_cell E0.out (o := 0)
  have cc := heap_cell V0.out.c1 (o := 0)
  go_upto_region 1 with fail
  with_reducible refine wp_region_list ?_
  (with_reducible refine wpList_plain rfl ?_); intro K hK; go_simp; (with_reducible refine hK _ _ ?_); clear hK K; try simp only [Act.put, nA, nB, nC]
  (with_reducible refine wpList_plain rfl ?_); intro K hK; go_simp; (with_reducible refine hK _ _ ?_); clear hK K; try simp only [Act.put, nA, nB, nC]
  (with_reducible refine wpList_plain rfl ?_); intro K hK; go_simp; (with_reducible refine hK _ _ ?_); clear hK K; try simp only [Act.put, nA, nB, nC]
  (with_reducible refine wpList_plain rfl ?_); intro K hK; go_simp; (with_reducible refine hK _ _ ?_); clear hK K; try simp only [Act.put, nA, nB, nC]
  refine wpList_appO _ rfl _ _ rfl B v1 ls rfl (by have h1 := V0.out.o1; exact h1.below ((Below.refl _ _).alloc (Nat.le_refl _) _) (fun g hg => (h1.lt g hg).2)) _ rfl [pg] (src_one w0 pg 27) (by have := hls; rw [List.length_singleton]; omega) (by rw [World.size_alloc]; have := Z0.out; omega) ?_
  intro v1 w1' O1 M1' N1
  obtain ⟨ad1, cp1, hv1, hy1, hy2, hy3⟩ := O1.shape
  clear hy1 hy2 hy3
  obtain ⟨n1, hn1⟩ : ∃ n, (ls ++ [pg]).length = n := ⟨_, rfl⟩
  rw [hn1] at hv1
  subst hv1
  clear hn1
  (try simp only [Act.put, nA, nB, nC])
  have F1 : From w0 v1 (.slice ad1 n1 cp1) := fun g hg => (N1 g hg).imp id (fun h => by rw [World.size_alloc] at h; omega)
  have M1'' : Mod (fun k => (v1).ownBlock = some k) w0 w1' := (Mod.of (fun k => (v1).ownBlock = some k) ((Below.refl _ _).alloc (Nat.le_refl _) _)).then M1'
  obtain ⟨V1', M1x⟩ := V0.out.put1 O1 M1'' F1
  have ff : w1'.frozen? ⟨LC, 0, none⟩ = false := by
    have h1 := M1''.heap V0.out.c1 (fun e => (V0.out.a1 LC e).1 rfl)
    exact heap_free h1 0
  have cc2 : w1'.cell? ⟨LC, 0, none⟩ = some (v1) := by
    have h1 := M1''.heap V0.out.c1 (fun e => (V0.out.a1 LC e).1 rfl)
    exact heap_cell h1 0
  (with_reducible refine wpList_plain rfl ?_); intro K hK; go_simp; (with_reducible refine hK _ _ ?_); clear hK K; try simp only [Act.put, nA, nB, nC]
  obtain ⟨w1, hw1⟩ : ∃ W, w1'.setCell ⟨LC, 0, none⟩ (.slice ad1 n1 cp1) = W := ⟨_, rfl⟩
  rw [hw1] at V1' M1x
  rw [hw1]
  have V1 := Lib.hid V1'
  have M1y := Lib.hid M1x
  clear hw1 ff cc cc2 M1' M1'' N1 O1 V1' M1x
  have S1 : Hid (Mod (LS LC FC v1 v2) w w1) := M0.out.trans M1y.out (fun k hk h => ls1 (w := w) (wr := w) (From.refl _ _) k hk h)
  have G1 : Hid (From w v1 (.slice ad1 n1 cp1)) := (From.refl w v1).trans F1 (by have := Z0.out; omega)
  have E1 : Hid (w1.heap[N]? = some (.cells #[.int .u32 (pg : Int), .slice nad xs.length nc] 64 (0, 0))) := by
    refine M1y.out.heap E0.out (fun e => ?_)
    rcases e with e | e
    · omega
    · have := (hv.out.o1.lt N e).2; omega
  clear E0 V0 M0 M1y F1 k0
  have k1 := heap_cell E1.out (o := 1)
  go_upto_region 3 with fail
  clear k1
  go_loopw [17] (fun iv wr => ∃ (k : Nat) (u1 u2 : Value), k ≤ xs.length ∧ Hid (Mod (LS LC FC v1 v2) w wr) ∧ Hid (LV wr LC FC TC T B u1 u2 (ls ++ (pg :: (xs.take k).filter left)) (fs ++ (xs.take k).filter (mayF left held))) ∧ Hid (From w v1 u1) ∧ Hid (From w v2 u2) ∧ iv = .int .i64 (k : Int)) (fun iv _ => xs.length - (intOf iv).toNat)
  case atStart => exact ⟨0, _, v2, Nat.zero_le _, S1, by rw [List.take_zero, List.filter_nil, List.filter_nil, List.append_nil]; exact V1, G1, From.refl _ _, rfl⟩
  case round =>
    obtain ⟨k, u1, u2, hk, SM, SV, G3, G4, rfl⟩ := hrel
    have hzw : N ≤ wr.heap.size := by have := SM.out.size; omega
    by_cases hlt : k < xs.length
    case neg =>
      have ik : ¬ (k : Int) < (xs.length : Int) := by omega
      obtain rfl : k = xs.length := by omega
      have sv := SV.out
      rw [List.take_length] at sv
      obtain ⟨la, hla⟩ : ∃ l, ls ++ (pg :: xs.filter left) = l := ⟨_, rfl⟩
      obtain ⟨fa, hfa⟩ : ∃ l, fs ++ xs.filter (mayF left held) = l := ⟨_, rfl⟩
      have hl5 : la.length ≤ 3000000 := by rw [← hla, List.length_append, List.length_cons]; have := List.length_filter_le left xs; omega
      have hf5 : fa.length ≤ 3000000 := by rw [← hfa, List.length_append]; have := List.length_filter_le (mayF left held) xs; omega
      have HLA : Hid (sortN la = l9) := by show _ = _; rw [← hla]; exact HL9.out
      have HFA : Hid (sortN fa = f9) := by show _ = _; rw [← hfa]; exact HF9.out
      rw [hla, hfa] at sv
      have SV2 := Lib.hid sv
      clear sv SV hla hfa
      have cc := heap_cell SV2.out.c1 (o := 0)
      go_upto_region 11 with fail
      with_reducible refine wp_region_list ?_
      (with_reducible refine wpList_plain rfl ?_); intro K hK; go_simp; (with_reducible refine hK _ _ ?_); clear hK K; try simp only [Act.put, nA, nB, nC]
      with_reducible refine wpList_plain rfl ?_
      intro K hK
      go_simp
      refine (Sort_own wr B u1 la SV2.out.o1 (by omega)).mono ?_; rintro e w5 ⟨rfl, O5, M5⟩; rw [HLA.out] at O5
      first | with_reducible refine hK _ _ ?_ | refine hK _ _ ?_
      clear hK K
      (try simp only [Act.put, nA, nB, nC])
      have SV5 : Hid (LV w5 LC FC TC T B u1 u2 l9 fa) := ⟨M5.heap SV2.out.c1 (fun e => (SV2.out.a1 LC e).1 rfl), M5.heap SV2.out.c2 (fun e => (SV2.out.a1 FC e).2.1 rfl), M5.heap SV2.out.ct (fun e => (SV2.out.a1 TC e).2.2.1 rfl), O5, SV2.out.o2.mod M5 (fun g hg e => (SV2.out.a1 g e).2.2.2 hg), SV2.out.a1, SV2.out.a2, SV2.out.lf, SV2.out.lt, SV2.out.ft⟩
      have SM5 : Hid (Mod (LS LC FC v1 v2) w w5) := SM.out.trans M5 (fun k hk h => ls1 (w := w) (wr := w) G3.out k hk (.inr h))
      clear M5 O5 cc
      have cc := heap_cell SV5.out.c2 (o := 0)
      go_upto_region 12 with fail
      with_reducible refine wp_region_list ?_
      (with_reducible refine wpList_plain rfl ?_); intro K hK; go_simp; (with_reducible refine hK _ _ ?_); clear hK K; try simp only [Act.put, nA, nB, nC]
      with_reducible refine wpList_plain rfl ?_
      intro K hK
      go_simp
      refine (Sort_own w5 B u2 fa SV5.out.o2 (by omega)).mono ?_; rintro e w6 ⟨rfl, O6, M6⟩; rw [HFA.out] at O6
      first | with_reducible refine hK _ _ ?_ | refine hK _ _ ?_
      clear hK K
      (try simp only [Act.put, nA, nB, nC])
      have SV6 : LV w6 LC FC TC T B u1 u2 l9 f9 := ⟨M6.heap SV5.out.c1 (fun e => (SV5.out.a2 LC e).1 rfl), M6.heap SV5.out.c2 (fun e => (SV5.out.a2 FC e).2.1 rfl), M6.heap SV5.out.ct (fun e => (SV5.out.a2 TC e).2.2 rfl), SV5.out.o1.mod M6 (fun g hg e => (SV5.out.a1 g hg).2.2.2 e), O6, SV5.out.a1, SV5.out.a2, SV5.out.lf, SV5.out.lt, SV5.out.ft⟩
      have SM6 : Mod (LS LC FC v1 v2) w w6 := SM5.out.trans M6 (fun k hk h => ls2 (w := w) (wr := w) G4.out k hk (.inr h))
      have hR := HR.out w6 u1 u2 SM6 SV6 G3.out G4.out
      have HRR := Lib.hid hR
      clear M6 O6 cc SV6 SM6 hR
      go_wp2_with fail
      go_end0
      exact HRR.out
    case pos =>
      have ik : (k : Int) < (xs.length : Int) := by omega
      have hu2 := hx.out.mod SM.out hxl
      have hxA := hx.out.1 _ (List.getElem_mem hlt)
      obtain ⟨ad9, c9, e9, _, hx9⟩ := hu2.form
      obtain ⟨nb, no, e8, hcs⟩ := hx9 (by omega)
      have e7 := (Value.slice.inj e9).1
      rw [e8] at e7
      subst e7
      have hc := hcs k hlt
      have hf1 := take_filter (p := left) hlt
      have hf2 := take_filter (p := mayF left held) hlt
      obtain ⟨y, hy⟩ : ∃ y, xs[k] = y := ⟨_, rfl⟩
      rw [hy] at hc hxA hf1 hf2
      unfold uN at hc
      have HF1 := Lib.hid hf1
      have HF2 := Lib.hid hf2
      have hlw : ((xs.take k).filter left).length ≤ xs.length := Nat.le_trans (List.length_filter_le _ _) (by rw [List.length_take]; omega)
      have hfw : ((xs.take k).filter (mayF left held)).length ≤ xs.length := Nat.le_trans (List.length_filter_le _ _) (by rw [List.length_take]; omega)
      obtain ⟨la, hla⟩ : ∃ l, (xs.take k).filter left = l := ⟨_, rfl⟩
      obtain ⟨fa, hfa⟩ : ∃ l, (xs.take k).filter (mayF left held) = l := ⟨_, rfl⟩
      have sv := SV.out
      have hf1 := HF1.out
      have hf2 := HF2.out
      rw [hla] at sv hlw hf1
      rw [hfa] at sv hfw hf2
      have SV2 := Lib.hid sv
      have HF3 := Lib.hid hf1
      have HF4 := Lib.hid hf2
      have TB2 := Lib.hid (ht.out.mod SM.out hTl)
      have L2 := Lib.hid (hl.out.mod SM.out hll)
      have H2 := Lib.hid (hh.out.mod SM.out hhl)
      clear hf1 hf2 HF1 HF2 sv SV hla hfa e9 e8 hu2 hx9 hcs hy
      have c5 := heap_cell TB2.out (o := 5)
      have ct := heap_cell SV2.out.ct (o := 0)
      obtain ⟨q1, hq1⟩ : ∃ q, left y = q := ⟨_, rfl⟩
      have Q1 := Lib.hid hq1
      clear hq1
      go_upto_region 5 with fail
      with_reducible refine wp_region_list ?_
      (with_reducible refine wpList_plain rfl ?_); intro K hK; go_simp; (with_reducible refine hK _ _ ?_); clear hK K; try simp only [Act.put, nA, nB, nC]
      (with_reducible refine wpList_plain rfl ?_); intro K hK; go_simp; (with_reducible refine hK _ _ ?_); clear hK K; try simp only [Act.put, nA, nB, nC]
      (with_reducible refine wpList_plain rfl ?_); intro K hK; go_simp; (with_reducible refine hK _ _ ?_); clear hK K; try simp only [Act.put, nA, nB, nC]
      (with_reducible refine wpList_plain rfl ?_); intro K hK; go_simp; (with_reducible refine hK _ _ ?_); clear hK K; try simp only [Act.put, nA, nB, nC]
      (with_reducible refine wpList_plain rfl ?_); intro K hK; go_simp; (with_reducible refine hK _ _ ?_); clear hK K; try simp only [Act.put, nA, nB, nC]
      refine wpList_lookM rfl _ _ rfl L2.out rfl y hxA rfl (fun c => ?_)
      rw [Q1.out]
      (try simp only [Act.put, nA, nB, nC])
      (with_reducible refine wpList_plain rfl ?_); intro K hK; go_simp; (with_reducible refine hK _ _ ?_); clear hK K; try simp only [Act.put, nA, nB, nC]
      (with_reducible refine wpList_plain rfl ?_); intro K hK; go_simp; (with_reducible refine hK _ _ ?_); clear hK K; try simp only [Act.put, nA, nB, nC]
      (with_reducible refine wpList_plain rfl ?_); intro K hK; go_simp; (with_reducible refine hK _ _ ?_); clear hK K; try simp only [Act.put, nA, nB, nC]
      (with_reducible refine wpList_plain rfl ?_); intro K hK; go_simp; (with_reducible refine hK _ _ ?_); clear hK K; try simp only [Act.put, nA, nB, nC]
      (with_reducible refine wpList_plain rfl ?_); intro K hK; go_simp; (with_reducible refine hK _ _ ?_); clear hK K; try simp only [Act.put, nA, nB, nC]
      clear hc c5 ct
      cases q1
      case false =>
        have sv := SV2.out
        have HG3 := HF3.out
        have HG4 := HF4.out
        rw [if_neg (by rw [Q1.out]; simp), List.append_nil] at HG3
        rw [if_neg (by unfold mayF; rw [Q1.out]; simp), List.append_nil] at HG4
        rw [← HG3, ← HG4] at sv
        have SV3 := Lib.hid sv
        clear sv HG3 HG4 HF3 HF4 SV2
        go_wp2_with fail
        exact ⟨⟨k + 1, u1, u2, by omega, SM, SV3, G3, G4, by go_num⟩, by simp [intOf]; omega⟩
      case true =>
        obtain ⟨lb2, hlb2⟩ : ∃ l, ls ++ (pg :: la) = l := ⟨_, rfl⟩
        have hlen2 : lb2.length ≤ 3000000 := by rw [← hlb2, List.length_append, List.length_cons]; omega
        have hlenf : (fs ++ fa).length ≤ 3000000 := by rw [List.length_append]; omega
        have HG3 : Hid (ls ++ (pg :: (xs.take (k + 1)).filter left) = lb2 ++ [y]) := by
          show _ = _
          rw [HF3.out, if_pos Q1.out, ← hlb2]
          simp
        have sv := SV2.out
        rw [hlb2] at sv
        have SV3 := Lib.hid sv
        clear sv SV2 HF3 hlb2
        have cc := heap_cell SV3.out.c1 (o := 0)
        go_upto_region 7 with fail
        with_reducible refine wp_region_list ?_
        (with_reducible refine wpList_plain rfl ?_); intro K hK; go_simp; (with_reducible refine hK _ _ ?_); clear hK K; try simp only [Act.put, nA, nB, nC]
        (with_reducible refine wpList_plain rfl ?_); intro K hK; go_simp; (with_reducible refine hK _ _ ?_); clear hK K; try simp only [Act.put, nA, nB, nC]
        (with_reducible refine wpList_plain rfl ?_); intro K hK; go_simp; (with_reducible refine hK _ _ ?_); clear hK K; try simp only [Act.put, nA, nB, nC]
        refine wpList_appO _ rfl _ _ rfl B u1 lb2 rfl (by have h1 := SV3.out.o1; exact h1.below ((Below.refl _ _).alloc (Nat.le_refl _) _) (fun g hg => (h1.lt g hg).2)) _ rfl [y] (src_one wr y 27) (by have := hlen2; rw [List.length_singleton]; omega) (by rw [World.size_alloc]; have := hzw; omega) ?_
        intro v7 w7' O7 M7' N7
        obtain ⟨ad7, cp7, hv7, hy1, hy2, hy3⟩ := O7.shape
        clear hy1 hy2 hy3
        obtain ⟨n7, hn7⟩ : ∃ n, (lb2 ++ [y]).length = n := ⟨_, rfl⟩
        rw [hn7] at hv7
        subst hv7
        clear hn7
        (try simp only [Act.put, nA, nB, nC])
        have F7 : From wr u1 (.slice ad7 n7 cp7) := fun g hg => (N7 g hg).imp id (fun h => by rw [World.size_alloc] at h; omega)
        have M7'' : Mod (fun k => (u1).ownBlock = some k) wr w7' := (Mod.of (fun k => (u1).ownBlock = some k) ((Below.refl _ _).alloc (Nat.le_refl _) _)).then M7'
        obtain ⟨V7', M7x⟩ := SV3.out.put1 O7 M7'' F7
        have ff : w7'.frozen? ⟨LC, 0, none⟩ = false := by
          have h1 := M7''.heap SV3.out.c1 (fun e => (SV3.out.a1 LC e).1 rfl)
          exact heap_free h1 0
        have cc2 : w7'.cell? ⟨LC, 0, none⟩ = some (u1) := by
          have h1 := M7''.heap SV3.out.c1 (fun e => (SV3.out.a1 LC e).1 rfl)
          exact heap_cell h1 0
        (with_reducible refine wpList_plain rfl ?_); intro K hK; go_simp; (with_reducible refine hK _ _ ?_); clear hK K; try simp only [Act.put, nA, nB, nC]
        obtain ⟨w7, hw7⟩ : ∃ W, w7'.setCell ⟨LC, 0, none⟩ (.slice ad7 n7 cp7) = W := ⟨_, rfl⟩
        rw [hw7] at V7' M7x
        rw [hw7]
        have V7 := Lib.hid V7'
        have M7y := Lib.hid M7x
        clear hw7 ff cc cc2 M7' M7'' N7 O7 V7' M7x
        have SM7 : Hid (Mod (LS LC FC v1 v2) w w7) := SM.out.trans M7y.out (fun k hk h => ls1 (w := w) (wr := w) G3.out k hk h)
        have G7 : Hid (From w v1 (.slice ad7 n7 cp7)) := G3.out.trans F7 (by omega)
        have hz7 : N ≤ w7.heap.size := by have := M7y.out.size; omega
        have TB7 := Lib.hid (ht.out.mod SM7.out hTl)
        have L7 := Lib.hid (hl.out.mod SM7.out hll)
        have H7 := Lib.hid (hh.out.mod SM7.out hhl)
        have ct := heap_cell V7.out.ct (o := 0)
        obtain ⟨q2, hq2⟩ : ∃ q, mayF left held y = q := ⟨_, rfl⟩
        have Q2 := Lib.hid hq2
        clear hq2 M7y F7 SM G3 TB2 L2 H2 SV3
        go_upto_region 8 with fail
        with_reducible refine wp_region_list ?_
        (with_reducible refine wpList_plain rfl ?_); intro K hK; go_simp; (with_reducible refine hK _ _ ?_); clear hK K; try simp only [Act.put, nA, nB, nC]
        (with_reducible refine wpList_plain rfl ?_); intro K hK; go_simp; (with_reducible refine hK _ _ ?_); clear hK K; try simp only [Act.put, nA, nB, nC]
        with_reducible refine wpList_plain rfl ?_
        intro K hK
        go_simp
        (go_at_call 87; refine (may_any T tv lv op pages hb lb most chv nh nl held left y _ hxA TB7 H7 L7).mono ?_; rintro e w8 ⟨rfl, rfl⟩; rw [Q2.out])
        first | with_reducible refine hK _ _ ?_ | refine hK _ _ ?_
        clear hK K
        (try simp only [Act.put, nA, nB, nC])
        clear ct
        cases q2
        case false =>
          have HG4 := HF4.out
          rw [if_neg (by rw [Q2.out]; simp), List.append_nil] at HG4
          have sv := V7.out
          rw [← HG3.out, ← HG4] at sv
          have SV8 := Lib.hid sv
          clear sv HG4 HF4 HG3 V7
          go_wp2_with fail
          exact ⟨⟨k + 1, _, u2, by omega, SM7, SV8, G7, G4, by go_num⟩, by simp [intOf]; omega⟩
        case true =>
          have HG4 : Hid (fs ++ (xs.take (k + 1)).filter (mayF left held) = fs ++ fa ++ [y]) := by
            show _ = _
            rw [HF4.out, if_pos Q2.out, List.append_assoc]
          obtain ⟨fb2, hfb2⟩ : ∃ l, fs ++ fa = l := ⟨_, rfl⟩
          rw [hfb2] at hlenf
          have sv := V7.out
          rw [hfb2] at sv
          have HG5 := HG4.out
          rw [hfb2] at HG5
          have HG6 := Lib.hid HG5
          have V8 := Lib.hid sv
          clear sv HG5 HG4 HF4 V7 hfb2
          have cc := heap_cell V8.out.c2 (o := 0)
          go_upto_region 9 with fail
          with_reducible refine wp_region_list ?_
          (with_reducible refine wpList_plain rfl ?_); intro K hK; go_simp; (with_reducible refine hK _ _ ?_); clear hK K; try simp only [Act.put, nA, nB, nC]
          (with_reducible refine wpList_plain rfl ?_); intro K hK; go_simp; (with_reducible refine hK _ _ ?_); clear hK K; try simp only [Act.put, nA, nB, nC]
          (with_reducible refine wpList_plain rfl ?_); intro K hK; go_simp; (with_reducible refine hK _ _ ?_); clear hK K; try simp only [Act.put, nA, nB, nC]
          refine wpList_appO _ rfl _ _ rfl B u2 fb2 rfl (by have h1 := V8.out.o2; exact h1.below ((Below.refl _ _).alloc (Nat.le_refl _) _) (fun g hg => (h1.lt g hg).2)) _ rfl [y] (src_one w8 y 27) (by have := hlenf; rw [List.length_singleton]; omega) (by rw [World.size_alloc]; have := hz7; omega) ?_
          intro v9 w9' O9 M9' N9
          obtain ⟨ad9, cp9, hv9, hy1, hy2, hy3⟩ := O9.shape
          clear hy1 hy2 hy3
          obtain ⟨n9, hn9⟩ : ∃ n, (fb2 ++ [y]).length = n := ⟨_, rfl⟩
          rw [hn9] at hv9
          subst hv9
          clear hn9
          (try simp only [Act.put, nA, nB, nC])
          have F9 : From w8 u2 (.slice ad9 n9 cp9) := fun g hg => (N9 g hg).imp id (fun h => by rw [World.size_alloc] at h; omega)
          have M9'' : Mod (fun k => (u2).ownBlock = some k) w8 w9' := (Mod.of (fun k => (u2).ownBlock = some k) ((Below.refl _ _).alloc (Nat.le_refl _) _)).then M9'
          obtain ⟨V9', M9x⟩ := V8.out.put2 O9 M9'' F9
          have ff : w9'.frozen? ⟨FC, 0, none⟩ = false := by
            have h1 := M9''.heap V8.out.c2 (fun e => (V8.out.a2 FC e).2.1 rfl)
            exact heap_free h1 0
          have cc2 : w9'.cell? ⟨FC, 0, none⟩ = some (u2) := by
            have h1 := M9''.heap V8.out.c2 (fun e => (V8.out.a2 FC e).2.1 rfl)
            exact heap_cell h1 0
          (with_reducible refine wpList_plain rfl ?_); intro K hK; go_simp; (with_reducible refine hK _ _ ?_); clear hK K; try simp only [Act.put, nA, nB, nC]
          obtain ⟨w9, hw9⟩ : ∃ W, w9'.setCell ⟨FC, 0, none⟩ (.slice ad9 n9 cp9) = W := ⟨_, rfl⟩
          rw [hw9] at V9' M9x
          rw [hw9]
          have V9 := Lib.hid V9'
          have M9y := Lib.hid M9x
          clear hw9 ff cc cc2 M9' M9'' N9 O9 V9' M9x
          have SM9 : Hid (Mod (LS LC FC v1 v2) w w9) := SM7.out.trans M9y.out (fun k hk h => ls2 (w := w) (wr := w) G4.out k hk h)
          have G9 : Hid (From w v2 (.slice ad9 n9 cp9)) := G4.out.trans F9 (by omega)
          have sv := V9.out
          rw [← HG3.out, ← HG6.out] at sv
          have SV9 := Lib.hid sv
          clear sv HG6 HG3 V9 V8 M9y F9
          go_wp2_with fail
          exact ⟨⟨k + 1, _, _, by omega, SM9, SV9, G7, G9, by go_num⟩, by simp [intOf]; omega⟩
end Go.Proofs.Ytkngmnfgdlnddaa

namespace Go.Proofs.Ytkngmnfgdlnddaa
open Go.RowKit Go.Lib Hw Go.Maps
set_option linter.unusedVariables false

/-- the numbers of a set below a bound, rising -/
def setL (P : Nat) (L : Nat → Bool) : List Nat := (List.range P).filter L
theorem setL_mem {P : Nat} {L : Nat → Bool} {x : Nat} : x ∈ setL P L ↔ x < P ∧ L x = true := by
  unfold setL
  rw [List.mem_filter, List.mem_range]
theorem setL_lt (P : Nat) (L : Nat → Bool) : (setL P L).Pairwise (· < ·) := List.Pairwise.filter _ List.pairwise_lt_range
theorem setL_nodup (P : Nat) (L : Nat → Bool) : (setL P L).Nodup := (setL_lt P L).imp (fun h => Nat.ne_of_lt h)
theorem setL_le (P : Nat) (L : Nat → Bool) : (setL P L).length ≤ P := by
  have := List.length_filter_le L (List.range P)
  rwa [List.length_range] at this
theorem setL_all (P : Nat) (L : Nat → Bool) (hP : P ≤ 4294967296) : All4 (setL P L) := fun x hx => by
  have := (setL_mem.1 hx).1
  omega
theorem setL_congr {P : Nat} {L M : Nat → Bool} (h : ∀ x, x < P → L x = M x) : setL P L = setL P M := List.filter_congr (fun x hx => h x (List.mem_range.1 hx))
theorem sortN_perm (xs : List Nat) : (sortN xs).Perm xs := List.mergeSort_perm _ _
theorem sortN_le (xs : List Nat) : (sortN xs).Pairwise (· ≤ ·) := by
  have h := List.pairwise_mergeSort (le := fun a b : Nat => decide (a ≤ b)) (fun a b c h1 h2 => by simp at *; omega) (fun a b => by simp; omega) xs
  exact h.imp (fun h => of_decide_eq_true h)
theorem sortN_eq {xs : List Nat} {P : Nat} {L : Nat → Bool} (hn : xs.Nodup) (hm : ∀ x, x ∈ xs ↔ x < P ∧ L x = true) : sortN xs = setL P L := by
  refine List.Perm.eq_of_pairwise (le := (· ≤ ·)) (fun a b _ _ h1 h2 => Nat.le_antisymm h1 h2) (sortN_le xs) ((setL_lt P L).imp Nat.le_of_lt) ?_
  refine (sortN_perm xs).trans ((List.perm_ext_iff_of_nodup hn (setL_nodup P L)).2 (fun x => ?_))
  rw [hm x, setL_mem]
/-- a rising list without its first -/
theorem setL_cons {P x : Nat} {L : Nat → Bool} {r : List Nat} (h : setL P L = x :: r) : r = setL P (fun z => L z && !decide (z = x)) := by
  have h1 : (setL P L).filter (fun z => !decide (z = x)) = setL P (fun z => L z && !decide (z = x)) := by
    unfold setL
    rw [List.filter_filter]
    exact List.filter_congr (fun z _ => by rw [Bool.and_comm])
  have h2 := setL_nodup P L
  rw [h] at h1 h2
  rw [← h1, List.filter_cons_of_neg (by simp)]
  refine (List.filter_eq_self.2 (fun z hz => ?_)).symm
  have : z ≠ x := fun e => (List.nodup_cons.1 h2).1 (e ▸ hz)
  simp [this]
/-- where a number stands, and the list without it -/
theorem setL_at {P x : Nat} {L : Nat → Bool} (hx : x ∈ setL P L) : ∃ i, ∃ h : i < (setL P L).length, (setL P L)[i] = x ∧ (setL P L).countP (fun z => decide (z < x)) = i ∧ (setL P L).take i ++ (setL P L).drop (i + 1) = setL P (fun z => L z && !decide (z = x)) := by
  obtain ⟨i, hi, he⟩ := List.mem_iff_getElem.1 hx
  have hp := setL_lt P L
  refine ⟨i, hi, he, ?_, ?_⟩
  · have h1 : (setL P L).countP (fun z => decide (z < x)) = ((setL P L).take i).countP (fun z => decide (z < x)) + ((setL P L).drop i).countP (fun z => decide (z < x)) := by
      rw [← List.countP_append, List.take_append_drop]
    have h2 : ((setL P L).take i).countP (fun z => decide (z < x)) = i := by
      have : ((setL P L).take i).countP (fun z => decide (z < x)) = ((setL P L).take i).length := List.countP_eq_length.2 (fun a ha => by
        obtain ⟨j, hj, rfl⟩ := List.mem_iff_getElem.1 ha
        rw [List.getElem_take]
        rw [List.length_take] at hj
        have := List.pairwise_iff_getElem.1 hp j i (by omega) hi (by omega)
        rw [he] at this
        exact decide_eq_true this)
      rw [this, List.length_take]
      omega
    have h3 : ((setL P L).drop i).countP (fun z => decide (z < x)) = 0 := List.countP_eq_zero.2 (fun a ha => by
        obtain ⟨j, hj, rfl⟩ := List.mem_iff_getElem.1 ha
        rw [List.getElem_drop]
        rw [List.length_drop] at hj
        rcases Nat.eq_zero_or_pos j with h0 | h0
        · subst h0; simp only [Nat.add_zero, he]; simp
        · have := List.pairwise_iff_getElem.1 hp i (i + j) hi (by omega) (by omega)
          rw [he] at this
          simp; omega)
    omega
  · have h1 : (setL P L).filter (fun z => !decide (z = x)) = setL P (fun z => L z && !decide (z = x)) := by
      unfold setL
      rw [List.filter_filter]
      exact List.filter_congr (fun z _ => by rw [Bool.and_comm])
    rw [← h1]
    have h2 : setL P L = (setL P L).take i ++ x :: (setL P L).drop (i + 1) := by
      rw [← he, ← List.drop_eq_getElem_cons hi, List.take_append_drop]
    have h3 := setL_nodup P L
    rw [h2] at h3
    have h4 := List.nodup_append.1 h3
    conv => rhs; rw [h2, List.filter_append, List.filter_cons_of_neg (by simp)]
    congr 1
    · refine (List.filter_eq_self.2 (fun z hz => ?_)).symm
      have : z ≠ x := h4.2.2 z hz x (List.mem_cons_self ..)
      simp [this]
    · refine (List.filter_eq_self.2 (fun z hz => ?_)).symm
      have : z ≠ x := fun e => (List.nodup_cons.1 h4.2.1).1 (e ▸ hz)
      simp [this]
/-- all numbers of a chain -/
def flat (cs : List (Nat × List Nat)) : List Nat := cs.flatMap (fun c => c.1 :: c.2)
/-- the loose numbers, and those that a list page can be taken of -/
structure Sets where
  L : Nat → Bool
  C : Nat → Bool
def openB (left held : Nat → Bool) (s : Sets) (c : Nat × List Nat) : Sets := ⟨fun z => s.L z || (decide (z = c.1) || (c.2.contains z && left z)), fun z => s.C z || (c.2.contains z && mayF left held z)⟩
def dropS (s : Sets) (x : Nat) : Sets := ⟨fun z => s.L z && !decide (z = x), fun z => s.C z && !decide (z = x)⟩
/-- all numbers of the chain and the released ones stand once, below the bound -/
def Good (P : Nat) (chain : List (Nat × List Nat)) (rel : List Nat) : Prop := (flat chain ++ rel).Nodup ∧ ∀ x ∈ flat chain ++ rel, x < P
def SInv (chain : List (Nat × List Nat)) (rel : List Nat) (j : Nat) (s : Sets) : Prop := (∀ z, s.L z = true → z ∈ rel ∨ z ∈ flat (chain.take j)) ∧ (∀ z, s.C z = true → s.L z = true ∧ z ∈ flat (chain.take j))
theorem flat_take_succ {cs : List (Nat × List Nat)} {j : Nat} (h : j < cs.length) : flat (cs.take (j + 1)) = flat (cs.take j) ++ (cs[j].1 :: cs[j].2) := by
  unfold flat
  rw [List.take_succ_eq_append_getElem h, List.flatMap_append]
  simp
theorem flat_split (cs : List (Nat × List Nat)) (j : Nat) : flat cs = flat (cs.take j) ++ flat (cs.drop j) := by
  unfold flat
  rw [← List.flatMap_append, List.take_append_drop]
theorem flat_drop {cs : List (Nat × List Nat)} {j : Nat} (h : j < cs.length) : flat (cs.drop j) = (cs[j].1 :: cs[j].2) ++ flat (cs.drop (j + 1)) := by
  unfold flat
  rw [List.drop_eq_getElem_cons h, List.flatMap_cons]
theorem Good.batch {P : Nat} {chain : List (Nat × List Nat)} {rel : List Nat} (h : Good P chain rel) {j : Nat} (hj : j < chain.length) : (chain[j].1 :: chain[j].2).Nodup ∧ (∀ x ∈ chain[j].1 :: chain[j].2, x < P ∧ x ∉ rel ∧ x ∉ flat (chain.take j)) := by
  have h1 := h.1
  rw [flat_split chain j, flat_drop hj] at h1
  have h2 := List.nodup_append.1 h1
  have h3 := List.nodup_append.1 h2.1
  have h4 := List.nodup_append.1 h3.2.1
  refine ⟨h4.1, fun x hx => ⟨h.2 x ?_, fun hr => ?_, fun ht => ?_⟩⟩
  · rw [flat_split chain j, flat_drop hj]
    exact List.mem_append_left _ (List.mem_append_right _ (List.mem_append_left _ hx))
  · exact h2.2.2 x (List.mem_append_right _ (List.mem_append_left _ hx)) x hr rfl
  · exact h3.2.2 x ht x (List.mem_append_left _ hx) rfl
theorem SInv.open {P : Nat} {chain : List (Nat × List Nat)} {rel : List Nat} {j : Nat} {s : Sets} (hs : SInv chain rel j s) (left held : Nat → Bool) (hj : j < chain.length) : SInv chain rel (j + 1) (openB left held s chain[j]) := by
  refine ⟨fun z hz => ?_, fun z hz => ?_⟩
  · rw [flat_take_succ hj]
    simp only [openB, Bool.or_eq_true, Bool.and_eq_true, decide_eq_true_eq] at hz
    rcases hz with h1 | h1 | h1
    · rcases hs.1 z h1 with h2 | h2
      · exact .inl h2
      · exact .inr (List.mem_append_left _ h2)
    · exact .inr (List.mem_append_right _ (by rw [h1]; exact List.mem_cons_self ..))
    · exact .inr (List.mem_append_right _ (List.mem_cons_of_mem _ (List.contains_iff_mem.1 h1.1)))
  · rw [flat_take_succ hj]
    simp only [openB, Bool.or_eq_true, Bool.and_eq_true, decide_eq_true_eq] at hz ⊢
    rcases hz with h1 | h1
    · exact ⟨.inl (hs.2 z h1).1, List.mem_append_left _ (hs.2 z h1).2⟩
    · refine ⟨.inr (.inr ⟨h1.1, ?_⟩), List.mem_append_right _ (List.mem_cons_of_mem _ (List.contains_iff_mem.1 h1.1))⟩
      have := h1.2
      unfold mayF at this
      exact (Bool.and_eq_true_iff.1 this).1
theorem open_L {P : Nat} {chain : List (Nat × List Nat)} {rel : List Nat} {j : Nat} {s : Sets} (hg : Good P chain rel) (hs : SInv chain rel j s) (left held : Nat → Bool) (hj : j < chain.length) : sortN (setL P s.L ++ (chain[j].1 :: chain[j].2.filter left)) = setL P (openB left held s chain[j]).L := by
  obtain ⟨h1, h2⟩ := hg.batch hj
  have hsub : ∀ x, x ∈ (chain[j].1 :: chain[j].2.filter left) → x ∈ chain[j].1 :: chain[j].2 := fun x hx => by
    rcases List.mem_cons.1 hx with e | e
    · rw [e]; exact List.mem_cons_self ..
    · exact List.mem_cons_of_mem _ (List.mem_filter.1 e).1
  refine sortN_eq (List.nodup_append.2 ⟨setL_nodup _ _, ?_, fun a ha b hb e => ?_⟩) (fun x => ?_)
  · exact List.nodup_cons.2 ⟨fun hm => (List.nodup_cons.1 h1).1 (List.mem_filter.1 hm).1, (List.nodup_cons.1 h1).2.filter _⟩
  · subst e
    have h3 := h2 a (hsub a hb)
    rcases hs.1 a (setL_mem.1 ha).2 with h4 | h4
    · exact h3.2.1 h4
    · exact h3.2.2 h4
  · rw [List.mem_append, setL_mem, List.mem_cons, List.mem_filter]
    simp only [openB, Bool.or_eq_true, Bool.and_eq_true, decide_eq_true_eq, List.contains_iff_mem]
    constructor
    · rintro (h3 | h3 | h3)
      · exact ⟨h3.1, .inl h3.2⟩
      · exact ⟨(h2 x (by rw [h3]; exact List.mem_cons_self ..)).1, .inr (.inl h3)⟩
      · exact ⟨(h2 x (List.mem_cons_of_mem _ h3.1)).1, .inr (.inr h3)⟩
    · rintro ⟨h0, h3 | h3 | h3⟩
      · exact .inl ⟨h0, h3⟩
      · exact .inr (.inl h3)
      · exact .inr (.inr h3)
theorem open_C {P : Nat} {chain : List (Nat × List Nat)} {rel : List Nat} {j : Nat} {s : Sets} (hg : Good P chain rel) (hs : SInv chain rel j s) (left held : Nat → Bool) (hj : j < chain.length) : sortN (setL P s.C ++ chain[j].2.filter (mayF left held)) = setL P (openB left held s chain[j]).C := by
  obtain ⟨h1, h2⟩ := hg.batch hj
  refine sortN_eq (List.nodup_append.2 ⟨setL_nodup _ _, (List.nodup_cons.1 h1).2.filter _, fun a ha b hb e => ?_⟩) (fun x => ?_)
  · subst e
    exact (h2 a (List.mem_cons_of_mem _ (List.mem_filter.1 hb).1)).2.2 (hs.2 a (setL_mem.1 ha).2).2
  · rw [List.mem_append, setL_mem, List.mem_filter]
    simp only [openB, Bool.or_eq_true, Bool.and_eq_true, List.contains_iff_mem]
    constructor
    · rintro (h3 | h3)
      · exact ⟨h3.1, .inl h3.2⟩
      · exact ⟨(h2 x (List.mem_cons_of_mem _ h3.1)).1, .inr h3⟩
    · rintro ⟨h0, h3 | h3⟩
      · exact .inl ⟨h0, h3⟩
      · exact .inr h3
theorem SInv.drop {chain : List (Nat × List Nat)} {rel : List Nat} {j : Nat} {s : Sets} (hs : SInv chain rel j s) (x : Nat) : SInv chain rel j (dropS s x) := by
  refine ⟨fun z hz => hs.1 z (Bool.and_eq_true_iff.1 hz).1, fun z hz => ?_⟩
  have h1 := Bool.and_eq_true_iff.1 hz
  exact ⟨Bool.and_eq_true_iff.2 ⟨(hs.2 z h1.1).1, h1.2⟩, (hs.2 z h1.1).2⟩
/-- the loop that takes list pages -/
structure LSt where
  s : Sets
  opened : Nat
  pages : Nat
  lists : List Nat
def moreL (n P : Nat) (t : LSt) : Bool := decide (t.lists.length * n < (setL P t.s.L).length)
def stepL (left held : Nat → Bool) (most P : Nat) (chain : List (Nat × List Nat)) (t : LSt) : Option LSt :=
  match setL P t.s.C with
  | x :: _ => some ⟨dropS t.s x, t.opened, t.pages, t.lists ++ [x]⟩
  | [] => match chain[t.opened]? with
    | some c => some ⟨openB left held t.s c, t.opened + 1, t.pages, t.lists⟩
    | none => if t.pages < most then some ⟨t.s, t.opened, t.pages + 1, t.lists ++ [t.pages]⟩ else none
def listG (left held : Nat → Bool) (most n P : Nat) (chain : List (Nat × List Nat)) : Nat → LSt → Option LSt
  | 0, t => some t
  | k + 1, t => if moreL n P t = true then (match stepL left held most P chain t with | some t2 => listG left held most n P chain k t2 | none => none) else some t
def muL (P : Nat) (chain : List (Nat × List Nat)) (t : LSt) : Nat := (chain.length - t.opened) + (P - t.lists.length) + 1
def listF (left held : Nat → Bool) (most n P : Nat) (chain : List (Nat × List Nat)) (t : LSt) : Option LSt := listG left held most n P chain (muL P chain t) t
theorem listF_stop {left held : Nat → Bool} {most n P : Nat} {chain : List (Nat × List Nat)} {t : LSt} (h : moreL n P t = false) : listF left held most n P chain t = some t := by
  unfold listF muL listG
  rw [h]
  rfl
theorem more_lt {n P : Nat} {t : LSt} (h : moreL n P t = true) (hn : 1 ≤ n) : t.lists.length < P := by
  have h1 := of_decide_eq_true h
  have h2 := setL_le P t.s.L
  have h3 := Nat.mul_le_mul_left t.lists.length hn
  omega
theorem listF_none {left held : Nat → Bool} {most n P : Nat} {chain : List (Nat × List Nat)} {t : LSt} (h : moreL n P t = true) (hs : stepL left held most P chain t = none) : listF left held most n P chain t = none := by
  unfold listF muL listG
  rw [h, hs]
  rfl
theorem listF_step {left held : Nat → Bool} {most n P : Nat} {chain : List (Nat × List Nat)} {t t2 : LSt} (h : moreL n P t = true) (hs : stepL left held most P chain t = some t2) (hmu : muL P chain t2 + 1 = muL P chain t) : listF left held most n P chain t = listF left held most n P chain t2 := by
  unfold listF
  rw [← hmu, listG, h, hs]
  rfl
/-- the loose numbers dealt out -/
def dealL (n : Nat) (xs : List Nat) : List Nat → List (Nat × List Nat)
  | [] => []
  | p :: r => (p, xs.take n) :: dealL n (xs.drop n) r
end Go.Proofs.Ytkngmnfgdlnddaa

namespace Go.Proofs.Ytkngmnfgdlnddaa
open Go.RowKit
set_option linter.unusedVariables false
section
variable {P : Program} {ops : Array Oper} {Q : Exit → Act → World → Prop} {md : Region.Mode} {S : World → Prop} {z : Nat}

/-- whatever order is drawn: S holds behind each operation till the one numbered z has come up -/
def wpAnyT (P : Program) (md : Region.Mode) (ops : Array Oper) (Q : Exit → Act → World → Prop) (S : World → Prop) (z : Nat) : Nat → Array Bool → Act → World → Prop
  | 0, listed, a, w => Region.ready md ops listed = [] ∧ Q .normal a w
  | fuel + 1, listed, a, w => (Region.ready md ops listed = [] → Q .normal a w) ∧
    ∀ i ∈ Region.ready md ops listed, wpOp P ops Q i (fun a' w' => ((listed.setIfInBounds i true).getD z false = true ∨ S w') ∧ wpAnyT P md ops Q S z fuel (listed.setIfInBounds i true) a' w') a w
theorem wpAny_of_T : ∀ (fuel : Nat) (listed : Array Bool) (a : Act) (w : World), wpAnyT P md ops Q S z fuel listed a w → wpAny P md ops Q fuel listed a w
  | 0, _, _, _, h => h
  | fuel + 1, _, _, _, h => ⟨h.1, fun i hi => wpOp_mono (fun a' w' h' => wpAny_of_T fuel _ a' w' h'.2) (h.2 i hi)⟩
/-- does z wait for i? -/
def waitsT (md : Region.Mode) (ops : Array Oper) (z i : Nat) : Bool :=
  match ops[z]? with
  | some oz => oz.after.any fun e => Region.binds md e && e.on == i
  | none => false
theorem waitsT_not {i : Nat} {listed : Array Bool} (h : waitsT md ops z i = true) (hi : i ∈ Region.ready md ops listed) : z ∉ Region.ready md ops listed := fun hz => by
  obtain ⟨_, oz, hoz, hall⟩ := mem_ready.1 hz
  unfold waitsT at h
  rw [hoz] at h
  obtain ⟨e, he, hb⟩ := Array.any_eq_true'.1 h
  rw [Bool.and_eq_true] at hb
  have h1 := hall e he hb.1
  have h0 := (mem_ready.1 hi).1
  rw [beq_iff_eq.1 hb.2] at h1
  rcases Nat.lt_or_ge i listed.size with h' | h'
  · simp [h'] at h0 h1; rw [h0] at h1; cases h1
  · simp [Array.getElem?_eq_none h'] at h1
theorem getD_set_of {listed : Array Bool} {i j : Nat} (h : (listed.setIfInBounds j true).getD i false = true) (hne : j ≠ i) : listed.getD i false = true := by
  rw [getD_set_ne false hne] at h
  exact h
theorem wpAnyT_first {i : Nat} {oi : Oper} {v : Value} (hi : ops[i]? = some oi) (hsel : ∀ (j : Nat) (o : Oper) cs b, ops[j]? = some o → o.op ≠ .select cs b) (hwz : waitsT md ops z i = true)
    (hQ : ∀ c a w, Q (.panic c) (a.put oi.dst v) w → Q (.panic c) a w) :
    ∀ (fuel : Nat) (listed : Array Bool) (a : Act) (w : World),
      (∀ j oj, ops[j]? = some oj → j ≠ i → listed.getD j true = false → (∀ e ∈ oj.after, Region.binds md e = true → e.on ≠ i) → oi.apart ops oj = true) →
      i ∈ Region.ready md ops listed → listed.getD z false = false → YieldsIf P ops S oi v a → S w →
      wpAnyT P md ops Q S z fuel (listed.setIfInBounds i true) (a.put oi.dst v) w → wpAnyT P md ops Q S z (fuel + 1) listed a w := by
  intro fuel
  induction fuel with
  | zero =>
    intro listed a w _ hr hzl hy hS H
    refine ⟨fun h => (by rw [h] at hr; cases hr), fun j hj => ?_⟩
    by_cases hji : j = i
    · subst hji; exact hy.wpOp hi hS ⟨.inr hS, H⟩
    · have h1 := ready_mono hj hji
      rw [H.1] at h1
      cases h1
  | succ fuel ih =>
    intro listed a w hfree hr hzl hy hS H
    refine ⟨fun h => (by rw [h] at hr; cases hr), fun j hj => ?_⟩
    by_cases hji : j = i
    · subst hji; exact hy.wpOp hi hS ⟨.inr hS, H⟩
    · have hjz : j ≠ z := fun e => waitsT_not hwz hr (e ▸ hj)
      have h1 := H.2 j (ready_mono hj hji)
      obtain ⟨hjun, oj, hoj, hall⟩ := mem_ready.1 hj
      have hnot : ∀ e ∈ oj.after, Region.binds md e = true → e.on ≠ i := fun e he hb heq => by
        have h1 := hall e he hb
        have h0 := (mem_ready.1 hr).1
        rw [heq] at h1
        rcases Nat.lt_or_ge i listed.size with h' | h'
        · simp [h'] at h0 h1; rw [h0] at h1; cases h1
        · simp [Array.getElem?_eq_none h'] at h1
      have h2 := wpOp_putIf hoj (hfree j oj hoj hji hjun hnot) (fun cs b => hsel i oi cs b hi) (fun cs b => hsel j oj cs b hoj) hQ hy h1
      have hfree' : ∀ k ok, ops[k]? = some ok → k ≠ i → (listed.setIfInBounds j true).getD k true = false →
          (∀ e ∈ ok.after, Region.binds md e = true → e.on ≠ i) → oi.apart ops ok = true := fun k ok hk hki hun hno => by
        refine hfree k ok hk hki ?_ hno
        by_cases hjk : j = k
        · subst hjk; exact hjun
        · rw [getD_set_ne true hjk] at hun; exact hun
      refine wpOp_mono (fun a' w' h3 => ?_) h2
      have hzj : (listed.setIfInBounds j true).getD z false = false := by rw [getD_set_ne false hjz]; exact hzl
      have hS' : S w' := h3.2.1.resolve_left (fun e => by
        by_cases hiz : i = z
        · subst hiz
          obtain ⟨_, oz, hoz, hall⟩ := mem_ready.1 hr
          unfold waitsT at hwz
          rw [hoz] at hwz
          obtain ⟨e2, he2, hb2⟩ := Array.any_eq_true'.1 hwz
          rw [Bool.and_eq_true] at hb2
          have h5 := hall e2 he2 hb2.1
          rw [beq_iff_eq.1 hb2.2, hzl] at h5
          cases h5
        · have h5 := getD_set_of e hjz
          have h6 := getD_set_of h5 hiz
          rw [hzl] at h6
          cases h6)
      refine ⟨.inr hS', ih (listed.setIfInBounds j true) a' w' hfree' (ready_mono hr (Ne.symm hji)) hzj h3.1 hS' ?_⟩
      rw [Array.setIfInBounds_comm _ _ hji]
      exact h3.2.2
theorem wpAnyT_take {i : Nat} {oi : Oper} {v : Value} {fuel : Nat} {listed : Array Bool} {a : Act} {w : World} (hi : ops[i]? = some oi) (hwz : waitsT md ops z i = true)
    (hs : Region.noSelect ops = true) (hf : Region.free md ops listed i = true) (hr : (Region.ready md ops listed).contains i = true) (hzl : listed.getD z false = false)
    (hQ : ∀ c a w, Q (.panic c) (a.put oi.dst v) w → Q (.panic c) a w) (hy : YieldsIf P ops S oi v a) (hS : S w)
    (h : wpAnyT P md ops Q S z fuel (listed.setIfInBounds i true) (a.put oi.dst v) w) : wpAnyT P md ops Q S z (fuel + 1) listed a w :=
  wpAnyT_first hi (Region.noSelect_spec hs) hwz hQ fuel listed a w (Region.free_spec hi hf) (by simpa using hr) hzl hy hS h
theorem Yields.if {o : Oper} {v : Value} {a : Act} (h : YieldsIf P ops (fun _ => True) o v a) : YieldsIf P ops S o v a := h.imp (fun h => ⟨h.1, fun w _ => h.2 w trivial⟩) id
/-- what yields in whatever world -/
theorem wpAnyT_firstP {i : Nat} {oi : Oper} {v : Value} (hi : ops[i]? = some oi) (hsel : ∀ (j : Nat) (o : Oper) cs b, ops[j]? = some o → o.op ≠ .select cs b) (hiz : i ≠ z)
    (hQ : ∀ c a w, Q (.panic c) (a.put oi.dst v) w → Q (.panic c) a w) :
    ∀ (fuel : Nat) (listed : Array Bool) (a : Act) (w : World),
      (∀ j oj, ops[j]? = some oj → j ≠ i → listed.getD j true = false → (∀ e ∈ oj.after, Region.binds md e = true → e.on ≠ i) → oi.apart ops oj = true) →
      i ∈ Region.ready md ops listed → YieldsIf P ops (fun _ => True) oi v a → (listed.getD z false = true ∨ S w) →
      wpAnyT P md ops Q S z fuel (listed.setIfInBounds i true) (a.put oi.dst v) w → wpAnyT P md ops Q S z (fuel + 1) listed a w := by
  intro fuel
  have keep : ∀ (listed : Array Bool) (w : World), (listed.getD z false = true ∨ S w) → ((listed.setIfInBounds i true).getD z false = true ∨ S w) := fun listed w h => by rw [getD_set_ne false hiz]; exact h
  induction fuel with
  | zero =>
    intro listed a w _ hr hy hS H
    refine ⟨fun h => (by rw [h] at hr; cases hr), fun j hj => ?_⟩
    by_cases hji : j = i
    · subst hji; exact hy.wpOp hi trivial ⟨keep _ _ hS, H⟩
    · have h1 := ready_mono hj hji
      rw [H.1] at h1
      cases h1
  | succ fuel ih =>
    intro listed a w hfree hr hy hS H
    refine ⟨fun h => (by rw [h] at hr; cases hr), fun j hj => ?_⟩
    by_cases hji : j = i
    · subst hji; exact hy.wpOp hi trivial ⟨keep _ _ hS, H⟩
    · have h1 := H.2 j (ready_mono hj hji)
      obtain ⟨hjun, oj, hoj, hall⟩ := mem_ready.1 hj
      have hnot : ∀ e ∈ oj.after, Region.binds md e = true → e.on ≠ i := fun e he hb heq => by
        have h1 := hall e he hb
        have h0 := (mem_ready.1 hr).1
        rw [heq] at h1
        rcases Nat.lt_or_ge i listed.size with h' | h'
        · simp [h'] at h0 h1; rw [h0] at h1; cases h1
        · simp [Array.getElem?_eq_none h'] at h1
      have h2 := wpOp_putIf hoj (hfree j oj hoj hji hjun hnot) (fun cs b => hsel i oi cs b hi) (fun cs b => hsel j oj cs b hoj) hQ hy h1
      have hfree' : ∀ k ok, ops[k]? = some ok → k ≠ i → (listed.setIfInBounds j true).getD k true = false →
          (∀ e ∈ ok.after, Region.binds md e = true → e.on ≠ i) → oi.apart ops ok = true := fun k ok hk hki hun hno => by
        refine hfree k ok hk hki ?_ hno
        by_cases hjk : j = k
        · subst hjk; exact hjun
        · rw [getD_set_ne true hjk] at hun; exact hun
      refine wpOp_mono (fun a' w' h3 => ?_) h2
      have hS' : (listed.setIfInBounds j true).getD z false = true ∨ S w' := h3.2.1.imp (fun e => by
        rw [Array.setIfInBounds_comm _ _ (Ne.symm hji), getD_set_ne false hiz] at e
        exact e) id
      refine ⟨hS', ih (listed.setIfInBounds j true) a' w' hfree' (ready_mono hr (Ne.symm hji)) h3.1 hS' ?_⟩
      rw [Array.setIfInBounds_comm _ _ hji]
      exact h3.2.2
theorem wpAnyT_pure {i : Nat} {oi : Oper} {v : Value} {fuel : Nat} {listed : Array Bool} {a : Act} {w : World} (hi : ops[i]? = some oi) (hiz : i ≠ z)
    (hs : Region.noSelect ops = true) (hf : Region.free md ops listed i = true) (hr : (Region.ready md ops listed).contains i = true)
    (hQ : ∀ c a w, Q (.panic c) (a.put oi.dst v) w → Q (.panic c) a w) (hy : YieldsIf P ops (fun _ => True) oi v a) (hS : S w)
    (h : wpAnyT P md ops Q S z fuel (listed.setIfInBounds i true) (a.put oi.dst v) w) : wpAnyT P md ops Q S z (fuel + 1) listed a w :=
  wpAnyT_firstP hi (Region.noSelect_spec hs) hiz hQ fuel listed a w (Region.free_spec hi hf) (by simpa using hr) hy (.inr hS) h
/-- the one operation that may come up, ahead of the last one -/
theorem wpAnyT_one {i : Nat} {oi : Oper} {fuel : Nat} {listed : Array Bool} {a : Act} {w : World} (hi : ops[i]? = some oi) (hr : Region.ready md ops listed = [i])
    (h : ∀ K' : Act → World → Prop, Shut (∀ a w, S w → (S w → wpAnyT P md ops Q S z fuel (listed.setIfInBounds i true) a w) → K' a w) → if Region.wanted oi (yielded ops a.tmps) = true then Oper.wp P oi a w K' Q else K' (a.put oi.dst undef) w) :
    wpAnyT P md ops Q S z (fuel + 1) listed a w := by
  refine ⟨fun h0 => (by rw [h0] at hr; cases hr), fun j hj => ?_⟩
  rw [hr] at hj
  obtain rfl := List.mem_singleton.1 hj
  exact wpOp_step hi (fun K' hK => h K' (fun a w hS hW => hK a w ⟨.inr hS, hW hS⟩))
/-- the last one -/
theorem wpAnyT_last {oi : Oper} {fuel : Nat} {listed : Array Bool} {a : Act} {w : World} (hi : ops[z]? = some oi) (hr : Region.ready md ops listed = [z])
    (hzl : (listed.setIfInBounds z true).getD z false = true)
    (h : ∀ K' : Act → World → Prop, Shut (∀ a w, wpAnyT P md ops Q S z fuel (listed.setIfInBounds z true) a w → K' a w) → if Region.wanted oi (yielded ops a.tmps) = true then Oper.wp P oi a w K' Q else K' (a.put oi.dst undef) w) :
    wpAnyT P md ops Q S z (fuel + 1) listed a w := by
  refine ⟨fun h0 => (by rw [h0] at hr; cases hr), fun j hj => ?_⟩
  rw [hr] at hj
  obtain rfl := List.mem_singleton.1 hj
  exact wpOp_step hi (fun K' hK => h K' (fun a w hW => hK a w ⟨.inl hzl, hW⟩))
theorem wpAnyT_done {listed : Array Bool} {a : Act} {w : World} (hr : Region.ready md ops listed = []) (h : Q .normal a w) : ∀ fuel, wpAnyT P md ops Q S z fuel listed a w
  | 0 => ⟨hr, h⟩
  | _ + 1 => ⟨fun _ => h, by rw [hr]; simp⟩
/-- the beginning of a region that draws -/
theorem wp_region_T {id : Nat} {a : Act} {w : World} (z : Nat) (hm : P.follows .mixedOrders = true) (hS : S w.drew)
    (h : S w.drew → wpAnyT P .any ops Q S z ops.size (Array.replicate ops.size false) a w.drew) : (Code.region id ops true).wp P Q a w :=
  wp_region_any hm (wpAny_of_T _ _ _ _ (h hS))
end
theorem step_of {P : Program} {ops : Array Oper} {o : Oper} {a : Act} {w : World} {K : Act → World → Prop} {Q : Exit → Act → World → Prop} {E : Prop} (hgd : o.guard = none) (h : o.wp P a w K Q) : if Region.wanted o (yielded ops a.tmps) = true then o.wp P a w K Q else E := by
  have hw : Region.wanted o (yielded ops a.tmps) = true := by simp [Region.wanted, hgd]
  rw [if_pos hw]; exact h
end Go.Proofs.Ytkngmnfgdlnddaa

namespace Go.Proofs.Ytkngmnfgdlnddaa
open Go.RowKit Go.Lib Hw Go.Maps
set_option linter.unusedVariables false

/-- a batch's cells -/
def bpair (b : Nat × Value) : List Value := [uN b.1, b.2]
def brow (bs : List (Nat × Value)) : List Value := bs.flatMap bpair
theorem brow_len : ∀ bs : List (Nat × Value), (brow bs).length = bs.length * 2
  | [] => rfl
  | b :: r => by
    show (bpair b ++ brow r).length = _
    rw [List.length_append, brow_len r, List.length_cons]
    show 2 + _ = _
    omega
theorem brow_at : ∀ (bs : List (Nat × Value)) (i : Nat) (h : i < bs.length), (brow bs)[i * 2]? = some (uN bs[i].1) ∧ (brow bs)[i * 2 + 1]? = some bs[i].2
  | b :: r, 0, h => ⟨rfl, rfl⟩
  | b :: r, i + 1, h => by
    have h1 := brow_at r i (by simpa using h)
    show (bpair b ++ brow r)[(i + 1) * 2]? = _ ∧ (bpair b ++ brow r)[(i + 1) * 2 + 1]? = _
    have e : (i + 1) * 2 = (bpair b).length + i * 2 := by show _ = 2 + _; omega
    rw [e, List.getElem?_append_right (by omega), Nat.add_assoc, List.getElem?_append_right (by omega), Nat.add_sub_cancel_left, Nat.add_sub_cancel_left]
    exact h1
/-- a row of batches of the call's own -/
def OwnC (w : World) (B : Nat) (v : Value) (bs : List (Nat × Value)) : Prop := w.ownsRow B 64 2 v bs.length (brow bs)
theorem info_C : (Try.prog.info? 64).map (fun i => (i.zero, i.size, i.bytes)) = some (some (.agg #[.int .u32 0, .slice none 0 0]), 2, 32) := by kernel_rfl
theorem OwnC.nil (w : World) (B : Nat) : OwnC w B (.slice none 0 0) [] := World.ownsRow_nil w B _ 2
theorem OwnC.lt {w : World} {B : Nat} {v : Value} {bs : List (Nat × Value)} (h : OwnC w B v bs) : ∀ g, v.ownBlock = some g → B ≤ g ∧ g < w.heap.size := World.ownsRow.lt h
theorem OwnC.heap {w w' : World} {B : Nat} {v : Value} {bs : List (Nat × Value)} (h : OwnC w B v bs) (hk : ∀ g, v.ownBlock = some g → w'.heap[g]? = w.heap[g]?) : OwnC w' B v bs := by
  refine ⟨h.1, ?_⟩
  rcases h.2 with hn | ⟨g, cap, cur, rfl, hB, hg, r⟩
  · exact .inl hn
  · exact .inr ⟨g, cap, cur, rfl, hB, (hk g rfl).trans hg, r⟩
theorem OwnC.mod {w w' : World} {S : Nat → Prop} {B : Nat} {v : Value} {bs : List (Nat × Value)} (h : OwnC w B v bs) (m : Mod S w w') (hd : ∀ k, v.ownBlock = some k → ¬ S k) : OwnC w' B v bs :=
  h.heap (fun g hg => m.block g (h.lt g hg).2 (hd g hg))
theorem OwnC.below {w w' : World} {B C : Nat} {v : Value} {bs : List (Nat × Value)} (h : OwnC w B v bs) (hb : Below C w w') (hC : ∀ g, v.ownBlock = some g → g < C) : OwnC w' B v bs := h.heap (fun g hg => hb.block g (hC g hg))
theorem OwnC.shape {w : World} {B : Nat} {v : Value} {bs : List (Nat × Value)} (h : OwnC w B v bs) : ∃ ad cap, v = .slice ad bs.length cap ∧ bs.length ≤ cap ∧ cap ≤ 9223372036854775807 ∧ (0 < bs.length → ∃ g, ad = some ⟨g, 0, none⟩) := by
  rcases h.2 with ⟨rfl, h0⟩ | ⟨g, cap, cur, rfl, _, _, hc, hm, _⟩
  · exact ⟨none, 0, by rw [h0], by omega, by decide, fun h => by omega⟩
  · exact ⟨_, cap, rfl, hc, by rw [maxLen_eq] at hm; exact hm, fun _ => ⟨g, rfl⟩⟩
theorem OwnC.cell {w : World} {B g n cap : Nat} {bs : List (Nat × Value)} (h : OwnC w B (.slice (some ⟨g, 0, none⟩) n cap) bs) (i : Nat) (hi : i < bs.length) : w.cell? ⟨g, i * 2, none⟩ = some (uN bs[i].1) ∧ w.cell? ⟨g, i * 2 + 1, none⟩ = some bs[i].2 := by
  have h1 := World.ownsRow.cells (w := w) h (g := g) rfl (i * 2) _ (brow_at bs i hi).1
  have h2 := World.ownsRow.cells (w := w) h (g := g) rfl (i * 2 + 1) _ (brow_at bs i hi).2
  have hadd : ∀ j, (⟨g, 0, none⟩ : Addr).add j = ⟨g, j, none⟩ := fun j => by unfold Addr.add; split <;> simp_all
  rw [hadd] at h1 h2
  exact ⟨h1, h2⟩
theorem OwnC.free {w : World} {B g n cap : Nat} {bs : List (Nat × Value)} (h : OwnC w B (.slice (some ⟨g, 0, none⟩) n cap) bs) (o : Nat) : w.frozen? ⟨g, o, none⟩ = false := by
  rcases h.2 with ⟨h1, _⟩ | ⟨g2, cap, cur, h1, _, hg, _⟩
  · cases h1
  · cases h1; exact heap_free hg o
theorem brow_set : ∀ (bs : List (Nat × Value)) (i : Nat) (u : Value), i < bs.length → (brow bs).set (i * 2 + 1) u = brow (bs.set i ((bs.getD i (0, undef)).1, u))
  | b :: r, 0, u, h => rfl
  | b :: r, i + 1, u, h => by
    have h1 := brow_set r i u (by simpa using h)
    show (uN b.1 :: b.2 :: brow r).set ((i + 1) * 2 + 1) u = uN b.1 :: b.2 :: brow (r.set i _)
    rw [show (i + 1) * 2 + 1 = (i * 2 + 1) + 1 + 1 by omega, List.set_cons_succ, List.set_cons_succ, h1]
    rfl
/-- another list of numbers in a batch -/
theorem OwnC.set {w : World} {B g n cap : Nat} {bs : List (Nat × Value)} (h : OwnC w B (.slice (some ⟨g, 0, none⟩) n cap) bs) (i : Nat) (hi : i < bs.length) (u : Value) : OwnC (w.setCell ⟨g, i * 2 + 1, none⟩ u) B (.slice (some ⟨g, 0, none⟩) n cap) (bs.set i (bs[i].1, u)) := by
  refine ⟨by rw [brow_len, List.length_set], ?_⟩
  rcases h.2 with ⟨h1, _⟩ | ⟨g2, cap2, cur, h1, hB, hg, hc, hm, hs, ht⟩
  · cases h1
  cases h1
  rw [List.length_set]
  refine .inr ⟨g, cap, _, rfl, hB, heap_set hg u, hc, hm, by rw [Array.size_setIfInBounds]; exact hs, ?_⟩
  have e : bs.set i (bs[i].1, u) = bs.set i ((bs.getD i (0, undef)).1, u) := by simp [List.getD, hi]
  rw [e, ← brow_set bs i u hi, ← ht, Array.toList_setIfInBounds, List.take_set]
/-- append(bs, b): one batch that lies at a block's head -/
theorem wp_appC {o : Oper} {a : Act} {K : Act → World → Prop} {Q : Exit → Act → World → Prop} (W : World) (b : Nat × Value) (hb1 : b.2.oneCell' = true) (s y : Operand) (ho : o.op = .call { callee := .builtin .append, args := #[s, y], argTypes := #[44, 44] })
    (B : Nat) (v : Value) (bs : List (Nat × Value)) (hs : a.eval s = v) (hown : OwnC W B v bs) (g c : Nat) (hy : a.eval y = .slice (some ⟨g, 0, none⟩) 1 c) (hn : W.heap[g]? = some (.cells (bpair b).toArray 64 (0, 0)))
    (hlen : bs.length ≤ 1000000000000) (hB : B ≤ W.heap.size)
    (h : ∀ v' w', OwnC w' B v' (bs ++ [b]) → Mod (fun k => v.ownBlock = some k) W w' → From W v v' → K (a.put o.dst v') w') : o.wp Try.prog a W K Q := by
  obtain ⟨i, hi, hz0, hz1, hz2⟩ := info_parts info_C
  refine wp_append_lies W s y 44 ho B 64 i (.agg #[.int .u32 0, .slice none 0 0]) 2 32 Try.underlying44 hi hz0 hz1 hz2 rfl (by decide) v bs.length (brow bs) hs hown ⟨g, 0, none⟩ 1 c (bpair b) hy rfl ?_ (fun u hu => ?_) (by decide) (by rw [maxLen_eq]; omega) (by omega) hB W.heap.size rfl ?_
  · intro j u hu
    have hadd : (⟨g, 0, none⟩ : Addr).add j = ⟨g, j, none⟩ := by unfold Addr.add; split <;> simp_all
    rw [hadd, heap_cell hn, List.getElem?_toArray]
    exact hu
  · rcases List.mem_cons.1 hu with rfl | hu
    · rfl
    · rw [List.mem_singleton.1 hu]; exact hb1
  · intro g' cap w' h1 h2 h3 _
    refine h _ w' ?_ (Mod.grown h2 (fun k e => e)) (fun k hk => ?_)
    · unfold OwnC
      have e : brow (bs ++ [b]) = brow bs ++ bpair b := by simp [brow]
      rw [List.length_append, e]
      exact h1
    · have hk' : g' = k := by simpa [Value.ownBlock] using hk
      subst hk'
      exact h3.imp id (fun e => Nat.le_of_eq e.symm)
/-- what lists keeps -/
structure LI (w : World) (N LC FC TC T hb lb most : Nat) (tv chv : Value) (P : Nat) (u1 u2 lv : Value) (s : Sets) (op pg : Nat) (bs : List (Nat × Value)) (wr : World) : Prop where
  v : LV wr LC FC TC T N u1 u2 (setL P s.L) (setL P s.C)
  t : TB wr T tv lv op pg hb lb most chv
  c : OwnC wr N lv bs
  m : Mod (fun k => k = T) w wr
  a : ∀ g, lv.ownBlock = some g → g ≠ LC ∧ g ≠ FC ∧ g ≠ TC ∧ u1.ownBlock ≠ some g ∧ u2.ownBlock ≠ some g
  lc : N ≤ LC
  fc : N ≤ FC
  tc : N ≤ TC
  tn : T < N
  hn : hb < N
  ln : lb < N
  nw : w.heap.size = N
section
variable {w wr wr2 : World} {N LC FC TC T hb lb most P op pg : Nat} {tv chv u1 u2 u3 lv : Value} {s s2 : Sets} {bs : List (Nat × Value)}
theorem LI.size (h : LI w N LC FC TC T hb lb most tv chv P u1 u2 lv s op pg bs wr) : N ≤ wr.heap.size := by
  have := h.m.size
  have := h.nw
  omega
theorem LI.drew (h : LI w N LC FC TC T hb lb most tv chv P u1 u2 lv s op pg bs wr) : LI w N LC FC TC T hb lb most tv chv P u1 u2 lv s op pg bs wr.drew :=
  ⟨h.v.mod ((Mod.refl (fun _ => False) wr).drew) id id id (fun _ _ h => h) (fun _ _ h => h), h.t, h.c, h.m.drew, h.a, h.lc, h.fc, h.tc, h.tn, h.hn, h.ln, h.nw⟩
theorem LI.drewN (h : LI w N LC FC TC T hb lb most tv chv P u1 u2 lv s op pg bs wr) (q : Nat) : LI w N LC FC TC T hb lb most tv chv P u1 u2 lv s op pg bs (wr.drewN q) :=
  ⟨h.v.mod (mod_drewN (fun _ => False) wr q) id id id (fun _ _ h => h) (fun _ _ h => h), h.t, h.c, h.m.then (mod_drewN _ wr q), h.a, h.lc, h.fc, h.tc, h.tn, h.hn, h.ln, h.nw⟩
/-- new blocks alone -/
theorem LI.low (h : LI w N LC FC TC T hb lb most tv chv P u1 u2 lv s op pg bs wr) (b : Below wr.heap.size wr wr2) : LI w N LC FC TC T hb lb most tv chv P u1 u2 lv s op pg bs wr2 :=
  ⟨h.v.mod (Mod.of (fun _ => False) b) id id id (fun _ _ h => h) (fun _ _ h => h), h.t.mod (Mod.of (fun _ => False) b) id, h.c.mod (Mod.of (fun _ => False) b) (fun _ _ h => h), h.m.then (Mod.of _ b), h.a, h.lc, h.fc, h.tc, h.tn, h.hn, h.ln, h.nw⟩
theorem LI.ls (h : LI w N LC FC TC T hb lb most tv chv P u1 u2 lv s op pg bs wr) (k : Nat) (hk : k < N) : ¬ LS LC FC u1 u2 k := by
  rintro (e | e | e | e)
  · have := h.lc; omega
  · have := h.fc; omega
  · have := (h.v.o1.lt k e).1; omega
  · have := (h.v.o2.lt k e).1; omega
/-- loose and left have turned -/
theorem LI.turn (h : LI w N LC FC TC T hb lb most tv chv P u1 u2 lv s op pg bs wr) {u1' u2' : Value} (m : Mod (LS LC FC u1 u2) wr wr2) (v : LV wr2 LC FC TC T N u1' u2' (setL P s2.L) (setL P s2.C)) (f1 : From wr u1 u1') (f2 : From wr u2 u2') : LI w N LC FC TC T hb lb most tv chv P u1' u2' lv s2 op pg bs wr2 := by
  have hl : ∀ g, lv.ownBlock = some g → ¬ LS LC FC u1 u2 g := fun g hg => by
    have ha := h.a g hg
    rintro (e | e | e | e)
    · exact ha.1 e
    · exact ha.2.1 e
    · exact ha.2.2.2.1 e
    · exact ha.2.2.2.2 e
  refine ⟨v, h.t.mod m (h.ls T h.tn), h.c.mod m hl, h.m.trans m (fun i hi e => absurd e (h.ls i (by have := h.nw; omega))), fun g hg => ?_, h.lc, h.fc, h.tc, h.tn, h.hn, h.ln, h.nw⟩
  have ha := h.a g hg
  have hz := (h.c.lt g hg).2
  refine ⟨ha.1, ha.2.1, ha.2.2.1, fun e => ?_, fun e => ?_⟩
  · rcases f1 g e with e2 | e2
    · exact ha.2.2.2.1 e2
    · omega
  · rcases f2 g e with e2 | e2
    · exact ha.2.2.2.2 e2
    · omega
/-- the plan's own block has turned: how many are opened -/
theorem LI.opened (h : LI w N LC FC TC T hb lb most tv chv P u1 u2 lv s op pg bs wr) (op2 : Nat) (u : Value) (hu : u = .int .i64 (op2 : Int)) : LI w N LC FC TC T hb lb most tv chv P u1 u2 lv s op2 pg bs (wr.setCell ⟨T, 2, none⟩ u) := by
  have m2 := Mod.set (S := fun k => k = T) (o := 2) wr rfl u
  have hn := h.tn
  exact ⟨h.v.mod m2 (by have := h.lc; omega) (by have := h.fc; omega) (by have := h.tc; omega) (fun g hg => by have := (h.v.o1.lt g hg).1; omega) (fun g hg => by have := (h.v.o2.lt g hg).1; omega), h.t.set2 u op2 hu, h.c.mod m2 (fun g hg => by have := (h.c.lt g hg).1; omega), h.m.then m2, h.a, h.lc, h.fc, h.tc, h.tn, h.hn, h.ln, h.nw⟩
/-- the end was taken -/
theorem LI.ended (h : LI w N LC FC TC T hb lb most tv chv P u1 u2 lv s op pg bs wr) {pg2 : Nat} (m2 : Mod (fun k => k = T) wr wr2) (ht : TB wr2 T tv lv op pg2 hb lb most chv) : LI w N LC FC TC T hb lb most tv chv P u1 u2 lv s op pg2 bs wr2 := by
  have hn := h.tn
  exact ⟨h.v.mod m2 (by have := h.lc; omega) (by have := h.fc; omega) (by have := h.tc; omega) (fun g hg => by have := (h.v.o1.lt g hg).1; omega) (fun g hg => by have := (h.v.o2.lt g hg).1; omega), ht, h.c.mod m2 (fun g hg => by have := (h.c.lt g hg).1; omega), h.m.then m2, h.a, h.lc, h.fc, h.tc, h.tn, h.hn, h.ln, h.nw⟩
/-- one list page more -/
theorem LI.put (h : LI w N LC FC TC T hb lb most tv chv P u1 u2 lv s op pg bs wr) {lv2 : Value} {bs2 : List (Nat × Value)} (hc : OwnC wr2 N lv2 bs2) (m : Mod (fun k => lv.ownBlock = some k) wr wr2) (hf : From wr lv lv2) : LI w N LC FC TC T hb lb most tv chv P u1 u2 lv2 s op pg bs2 (wr2.setCell ⟨T, 1, none⟩ lv2) := by
  have hn := h.tn
  have m2 := Mod.set (S := fun k => k = T) (o := 1) wr2 rfl lv2
  have v2 : LV wr2 LC FC TC T N u1 u2 (setL P s.L) (setL P s.C) := h.v.mod m (fun e => (h.a LC e).1 rfl) (fun e => (h.a FC e).2.1 rfl) (fun e => (h.a TC e).2.2.1 rfl) (fun g hg e => (h.a g e).2.2.2.1 hg) (fun g hg e => (h.a g e).2.2.2.2 hg)
  have t2 : TB wr2 T tv lv op pg hb lb most chv := h.t.mod m (fun e => by have := (h.c.lt T e).1; omega)
  refine ⟨v2.mod m2 (by have := h.lc; omega) (by have := h.fc; omega) (by have := h.tc; omega) (fun g hg => by have := (v2.o1.lt g hg).1; omega) (fun g hg => by have := (v2.o2.lt g hg).1; omega), t2.set1 lv2, hc.mod m2 (fun g hg => by have := (hc.lt g hg).1; omega), ?_, fun g hg => ?_, h.lc, h.fc, h.tc, h.tn, h.hn, h.ln, h.nw⟩
  · exact (h.m.trans m (fun i hi e => by have := (h.c.lt i e).1; have := h.nw; omega)).then m2
  · rcases hf g hg with e | e
    · exact h.a g e
    · refine ⟨fun e2 => ?_, fun e2 => ?_, fun e2 => ?_, fun e2 => ?_, fun e2 => ?_⟩
      · have := heap_lt h.v.c1; omega
      · have := heap_lt h.v.c2; omega
      · have := heap_lt h.v.ct; omega
      · have := (h.v.o1.lt g e2).2; omega
      · have := (h.v.o2.lt g e2).2; omega
end
end Go.Proofs.Ytkngmnfgdlnddaa

namespace Go.Proofs.Ytkngmnfgdlnddaa
open Go.RowKit Go.Lib Hw Go.Maps
set_option linter.unusedVariables false

def sec (bs : List (Nat × Value)) (i : Nat) : Option Value := (bs[i]?).map (·.2)
structure DL (w : World) (N LC TC T hb lb most : Nat) (tv chv : Value) (n : Nat) (xs0 ps : List Nat) (u1 lv : Value) (op pg j jd : Nat) (bs : List (Nat × Value)) (wr : World) : Prop where
  c1 : wr.heap[LC]? = some (.cells #[u1] 28 (0, 0))
  ct : wr.heap[TC]? = some (.cells #[.pointer (some ⟨T, 0, none⟩)] 126 (0, 0))
  o1 : OwnO wr N u1 (xs0.drop (j * n))
  t : TB wr T tv lv op pg hb lb most chv
  c : OwnC wr N lv bs
  m : Mod (fun k => k = T) w wr
  a : ∀ g, lv.ownBlock = some g → g ≠ LC ∧ g ≠ TC ∧ u1.ownBlock ≠ some g
  u : ∀ g, u1.ownBlock = some g → g ≠ LC ∧ g ≠ TC
  lc : N ≤ LC
  tc : N ≤ TC
  tn : T < N
  nw : w.heap.size = N
  lt : LC ≠ TC
  fst : bs.map (·.1) = ps
  d : ∀ i v, i < jd → sec bs i = some v → OwnO wr N v ((xs0.drop (i * n)).take n) ∧ ∀ g, v.ownBlock = some g → lv.ownBlock ≠ some g ∧ u1.ownBlock ≠ some g ∧ g ≠ LC ∧ g ≠ TC
  e : ∀ i k v v', i < k → k < jd → sec bs i = some v → sec bs k = some v' → ∀ g, v.ownBlock = some g → v'.ownBlock ≠ some g
theorem LI.deal {w wr : World} {N LC FC TC T hb lb most P op pg : Nat} {tv chv u1 u2 lv : Value} {s : Sets} {bs : List (Nat × Value)} (h : LI w N LC FC TC T hb lb most tv chv P u1 u2 lv s op pg bs wr) (n : Nat) : DL w N LC TC T hb lb most tv chv n (setL P s.L) (bs.map (·.1)) u1 lv op pg 0 0 bs wr :=
  ⟨h.v.c1, h.v.ct, by rw [Nat.zero_mul, List.drop_zero]; exact h.v.o1, h.t, h.c, h.m, fun g hg => ⟨(h.a g hg).1, (h.a g hg).2.2.1, (h.a g hg).2.2.2.1⟩, fun g hg => ⟨(h.v.a1 g hg).1, (h.v.a1 g hg).2.2.1⟩, h.lc, h.tc, h.tn, h.nw, h.v.lt, rfl, fun i v hi => absurd hi (Nat.not_lt_zero _), fun i k v v' h1 h2 => absurd h2 (Nat.not_lt_zero _)⟩
section
variable {w wr wr2 : World} {N LC TC T hb lb most op pg j jd n : Nat} {tv chv u1 lv : Value} {xs0 ps : List Nat} {bs : List (Nat × Value)}
theorem DL.low (h : DL w N LC TC T hb lb most tv chv n xs0 ps u1 lv op pg j jd bs wr) (b : Below wr.heap.size wr wr2) : DL w N LC TC T hb lb most tv chv n xs0 ps u1 lv op pg j jd bs wr2 := by
  have m := Mod.of (fun _ => False) b
  exact ⟨m.heap h.c1 id, m.heap h.ct id, h.o1.mod m (fun _ _ h => h), h.t.mod m id, h.c.mod m (fun _ _ h => h), h.m.then (Mod.of _ b), h.a, h.u, h.lc, h.tc, h.tn, h.nw, h.lt, h.fst, fun i v hi hv => ⟨(h.d i v hi hv).1.mod m (fun _ _ h => h), (h.d i v hi hv).2⟩, h.e⟩
theorem DL.drew (h : DL w N LC TC T hb lb most tv chv n xs0 ps u1 lv op pg j jd bs wr) : DL w N LC TC T hb lb most tv chv n xs0 ps u1 lv op pg j jd bs wr.drew := h.low ⟨rfl, rfl, rfl, Nat.le_refl _, fun _ _ => rfl⟩
theorem DL.size (h : DL w N LC TC T hb lb most tv chv n xs0 ps u1 lv op pg j jd bs wr) : N ≤ wr.heap.size := by
  have := h.m.size
  have := h.nw
  omega
theorem sec_set_same {i : Nat} {b : Nat × Value} (h : i < bs.length) : sec (bs.set i b) i = some b.2 := by
  unfold sec
  rw [List.getElem?_set_self h]
  rfl
theorem sec_set_other {i k : Nat} {b : Nat × Value} (h : i ≠ k) : sec (bs.set i b) k = sec bs k := by
  unfold sec
  rw [List.getElem?_set_ne h]
/-- a list of numbers more was dealt out -/
theorem DL.dealt {gv lcap : Nat} {v' : Value} (h : DL w N LC TC T hb lb most tv chv n xs0 ps u1 (.slice (some ⟨gv, 0, none⟩) bs.length lcap) op pg j j bs wr) (hj : j < bs.length) (hlow : ∀ g, v'.ownBlock = some g → N ≤ g)
    (ho : OwnO wr N v' ((xs0.drop (j * n)).take n)) (hnew : ∀ g, v'.ownBlock = some g → gv ≠ g ∧ u1.ownBlock ≠ some g ∧ g ≠ LC ∧ g ≠ TC ∧ ∀ i v, i < j → sec bs i = some v → v.ownBlock ≠ some g) :
    DL w N LC TC T hb lb most tv chv n xs0 ps u1 (.slice (some ⟨gv, 0, none⟩) bs.length lcap) op pg j (j + 1) (bs.set j (bs[j].1, v')) (wr.setCell ⟨gv, j * 2 + 1, none⟩ v') := by
  have m := Mod.set (S := fun k => k = gv) (o := j * 2 + 1) wr rfl v'
  have ha := h.a gv rfl
  have hgv := (h.c.lt gv rfl).1
  have htn := h.tn
  have hnw := h.nw
  have keep : ∀ (v : Value) (xs : List Nat), OwnO wr N v xs → (∀ g, v.ownBlock = some g → gv ≠ g) → OwnO (wr.setCell ⟨gv, j * 2 + 1, none⟩ v') N v xs := fun v xs o hv => o.mod m (fun g hg e => hv g hg e.symm)
  refine ⟨m.heap h.c1 (fun e => ha.1 e.symm), m.heap h.ct (fun e => ha.2.1 e.symm), keep _ _ h.o1 (fun g hg e => ha.2.2 (e ▸ hg)), h.t.mod m (by omega), h.c.set j hj v', ?_, h.a, h.u, h.lc, h.tc, h.tn, h.nw, h.lt, ?_, fun i v hi hv => ?_, fun i k v v2 hik hk hv hv2 => ?_⟩
  · exact h.m.trans m (fun i hi e => by omega)
  · rw [← h.fst]
    apply List.ext_getElem (by simp)
    intro i h1 h2
    by_cases hij : j = i
    · subst hij; simp
    · simp [List.getElem_set_ne hij]
  · by_cases hij : i = j
    · subst hij
      rw [sec_set_same hj] at hv
      have hv3 : v' = v := Option.some.inj hv
      subst hv3
      exact ⟨keep _ _ ho (fun g hg => (hnew g hg).1), fun g hg => ⟨fun e => (hnew g hg).1 (Option.some.inj e), (hnew g hg).2.1, (hnew g hg).2.2.1, (hnew g hg).2.2.2.1⟩⟩
    · rw [sec_set_other (fun e => hij e.symm)] at hv
      have hd := h.d i v (by omega) hv
      exact ⟨keep _ _ hd.1 (fun g hg e => (hd.2 g hg).1 (congrArg some e)), hd.2⟩
  · have hi : i ≠ j := by omega
    rw [sec_set_other (fun e => hi e.symm)] at hv
    by_cases hkj : k = j
    · subst hkj
      rw [sec_set_same hj] at hv2
      have hv3 : v' = v2 := Option.some.inj hv2
      subst hv3
      exact fun g hg e => (hnew g e).2.2.2.2 i v (by omega) hv hg
    · rw [sec_set_other (fun e => hkj e.symm)] at hv2
      exact h.e i k v v2 hik (by omega) hv hv2
/-- the loose numbers that are left -/
theorem DL.cut {u2 : Value} (h : DL w N LC TC T hb lb most tv chv n xs0 ps u1 lv op pg j jd bs wr) (ho : OwnO wr N u2 (xs0.drop ((j + 1) * n))) (hu : ∀ g, u2.ownBlock = some g → u1.ownBlock = some g) :
    DL w N LC TC T hb lb most tv chv n xs0 ps u2 lv op pg (j + 1) jd bs (wr.setCell ⟨LC, 0, none⟩ u2) := by
  have m := Mod.set (S := fun k => k = LC) (o := 0) wr rfl u2
  have hlc := h.lc
  have htn := h.tn
  have hnw := h.nw
  refine ⟨by rw [heap_set h.c1]; rfl, m.heap h.ct (fun e => h.lt e.symm), ho.mod m (fun g hg e => (h.u g (hu g hg)).1 e), h.t.mod m (by omega), h.c.mod m (fun g hg e => (h.a g hg).1 e), h.m.trans m (fun i hi e => by omega), fun g hg => ⟨(h.a g hg).1, (h.a g hg).2.1, fun e => (h.a g hg).2.2 (hu g e)⟩, fun g hg => h.u g (hu g hg), h.lc, h.tc, h.tn, h.nw, h.lt, h.fst, fun i v hi hv => ?_, h.e⟩
  have hd := h.d i v hi hv
  exact ⟨hd.1.mod m (fun g hg e => (hd.2 g hg).2.2.1 e), fun g hg => ⟨(hd.2 g hg).1, fun e => (hd.2 g hg).2.1 (hu g e), (hd.2 g hg).2.2⟩⟩
end
theorem dealL_len (n : Nat) : ∀ (xs ps : List Nat), (dealL n xs ps).length = ps.length
  | xs, [] => rfl
  | xs, p :: r => by rw [dealL, List.length_cons, dealL_len n _ r, List.length_cons]
theorem dealL_at (n : Nat) : ∀ (ps xs : List Nat) (i : Nat) (h : i < ps.length), (dealL n xs ps)[i]'(by rw [dealL_len]; exact h) = (ps[i], (xs.drop (i * n)).take n)
  | p :: r, xs, 0, h => by simp [dealL]
  | p :: r, xs, i + 1, h => by
    have h1 := dealL_at n r (xs.drop n) i (by simpa using h)
    simp only [dealL, List.getElem_cons_succ, h1, List.drop_drop]
    rw [show n + i * n = (i + 1) * n by rw [Nat.add_mul]; omega]
/-- a row cut at both ends -/
theorem OwnO.headR {w : World} {B n cap : Nat} {ad : Option Addr} {xs : List Nat} (h : OwnO w B (.slice ad n cap) xs) (k : Nat) (hk : k ≤ xs.length) (hA : All4 xs) : URow w (.slice ad k k) (xs.take k) := by
  rcases h with ⟨h1, h2⟩ | ⟨g, o, c2, cur, hv, h1, h2, h3, h4, h5, h6⟩
  · cases h1
    subst h2
    have hk0 : k = 0 := by simpa using hk
    subst hk0
    exact URow.nil w
  · cases hv
    have hl : (xs.take k).length = k := by rw [List.length_take]; omega
    refine ⟨hA.take k, _, k, by rw [hl], by omega, by omega, fun hp => ⟨g, o, rfl, heap_lt h2, fun i hi => ?_⟩⟩
    rw [heap_cell h2, h6 i (by omega), List.getElem_take]
end Go.Proofs.Ytkngmnfgdlnddaa

