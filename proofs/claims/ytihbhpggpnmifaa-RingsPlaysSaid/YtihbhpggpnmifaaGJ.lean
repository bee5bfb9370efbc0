/-
 Values of several digests; rows of digests that came in; the walks of next and fit.
-/
import Derived.Test.YtihbhpggpnmifaaGI
import Derived.Test.YtihbhpggpnmifaaGG
import Derived.Great.BuildSlice
set_option linter.unusedSimpArgs false
set_option linter.unusedVariables false
namespace Go.Proofs.Ytihbhpggpnmifaa
open Go.RowKit Go.Lib Hw
/-! ### what build lays -/
def splice (cells : Array Value) (off : Nat) (vs : List Value) : Array Value := (cells.toList.take off ++ vs ++ cells.toList.drop (off + vs.length)).toArray
theorem fill_cons (place : Nat → Option (Nat × Nat)) (cells : Array Value) (i off : Nat) (v : Value) (vs : List Value) (rest : List (Nat × Value)) (hv : v.cells = vs.toArray) (hp : place i = some (off, vs.length)) (hsz : off + vs.length ≤ cells.size) :
  Instr.fill place cells ((i, v) :: rest) = Instr.fill place (splice cells off vs) rest := by
 rw [Instr.fill, hp]
 simp only [hv, List.size_toArray]
 rw [if_neg (by simp; omega)]
 congr 1
 apply Array.ext_getElem?
 intro k
 obtain ⟨g1, g2⟩ := Great.foldl_set off vs 0 cells
 have e : Array.foldl (fun cs (x : Value × Nat) => cs.setIfInBounds (off + x.2) x.1) cells vs.toArray.zipIdx = ((vs.zipIdx 0).foldl (fun cs (x : Value × Nat) => cs.setIfInBounds (off + x.2) x.1) cells) := by
  rw [← Array.foldl_toList, Array.toList_zipIdx]
 refine (congrArg (·[k]?) e).trans ?_
 show _ = (splice cells off vs)[k]?
 rw [g2 k]
 have e3 : (splice cells off vs)[k]? = (cells.toList.take off ++ vs ++ cells.toList.drop (off + vs.length))[k]? := by unfold splice; simp only [List.getElem?_toArray]
 rw [e3]
 clear e e3 g1 g2
 by_cases h1 : k < off
 ·rw [if_neg (by omega), List.append_assoc, List.getElem?_append_left (by rw [List.length_take, Array.length_toList]; omega), List.getElem?_take_of_lt h1, Array.getElem?_toList]
 ·by_cases h2 : k < off + vs.length
  ·rw [if_pos ⟨by omega, by omega, by omega⟩, List.append_assoc, List.getElem?_append_right (by rw [List.length_take, Array.length_toList]; omega), List.getElem?_append_left (by rw [List.length_take, Array.length_toList]; omega), List.length_take, Array.length_toList]
   congr 1
   omega
  ·rw [if_neg (by omega), List.getElem?_append_right (by simp; omega), List.getElem?_drop, Array.getElem?_toList]
   congr 1
   simp only [List.length_append, List.length_take, Array.length_toList]
   omega
theorem splice_head (x y : Value) (r : List Value) : splice (x :: r).toArray 0 [y] = (y :: r).toArray := by simp [splice]
theorem splice_tail (x : Value) (r vs : List Value) (h : r.length = vs.length) : splice (x :: r).toArray 1 vs = (x :: vs).toArray := by
 have : List.drop (1 + vs.length) (x :: r) = [] := List.drop_eq_nil_of_le (by simp [h]; omega)
 simp only [splice, this, List.append_nil]
 rfl
def hv (s : Nat) (d : Dg) : Value := .agg (.int .u64 (s : Int) :: d.map bv).toArray
def zeroHv : Value := hv 0 zeros32
theorem built_hv (s : Nat) (d : Dg) (hd : d.length = 32) : Try.prog.built 31 [(0, .int .u64 (s : Int)), (1, dv d)] = some (.int .u64 (s : Int) :: d.map bv).toArray := by
 have h0 : Try.prog.built 31 = fun parts => Instr.fill ((#[(0, 1), (1, 32)] : Array (Nat × Nat))[·]?) (zeroHv.cells) parts := by
  funext parts
  kernel_rfl
 rw [h0]
 show Instr.fill _ _ _ = _
 have hz : zeroHv.cells = (.int .u64 ((0 : Nat) : Int) :: zeros32.map bv).toArray := rfl
 have hl : (d.map bv).length = 32 := by rw [List.length_map, hd]
 rw [hz, fill_cons _ _ 0 0 _ [.int .u64 (s : Int)] _ rfl rfl (by simp), splice_head, fill_cons _ _ 1 1 _ (d.map bv) _ rfl (by rw [hl]; rfl) (by simp [hl, zeros32]), splice_tail _ _ _ (by rw [hl]; rfl)]
 rfl
section
variable {ops : Array Oper} {rest : List Oper} {o : Oper} {a : Act} {w : World} {K : Act → World → Prop} {Q : Exit → Act → World → Prop}
theorem wp_built (t : TypeId) (parts : Array (Nat × Operand)) (ho : o.op = .build t parts) (vals : List (Nat × Value)) (hv : (parts.map fun (i, x) => (i, a.eval x)).toList = vals) (cells : Array Value) (hb : Try.prog.built t vals = some cells) (h : K (a.put o.dst (.agg cells)) w) : o.wp Try.prog a w K Q := by
 subst hv
 unfold Oper.wp execOp
 simp only [ho, Sem.run_bind, run_build w t _ cells hb, Result.andThen_ok]
 exact h
theorem wpList_built (hg : o.guard = none) (t : TypeId) (parts : Array (Nat × Operand)) (ho : o.op = .build t parts) (vals : List (Nat × Value)) (hv : (parts.map fun (i, x) => (i, a.eval x)).toList = vals) (cells : Array Value) (hb : Try.prog.built t vals = some cells) (h : wpList Try.prog ops Q rest (a.put o.dst (.agg cells)) w) : wpList Try.prog ops Q (o :: rest) a w :=
 wpList_plain hg fun _ hK => wp_built t parts ho vals hv cells hb (hK _ _ h)
theorem wp_sliceD (len : Nat) (parts : Array (Nat × Operand)) (ho : o.op = .buildSlice 32 len parts) (xs : List Dg) (hxs : All32 xs) (hlen : xs.length = len) (h1 : 1 ≤ len) (h2 : len ≤ 1000) (hv : (parts.map fun (i, x) => (i, a.eval x)).toList = ((xs.map dv).zipIdx 0).map fun x => (x.2, x.1))
  (N : Nat) (hN : w.heap.size = N) (h : ∀ W, W.heap[N]? = some (.cells (rowV xs).toArray 23 (0, 0)) → Below N w W → W.heap.size = N + 1 → K (a.put o.dst (.slice (some ⟨N, 0, none⟩) len len)) W) : o.wp Try.prog a w K Q := by
 subst hN
 obtain ⟨i, hi, hz0, hz1, hz2⟩ := info_parts infoR
 have hf := Great.fill_whole (s := 32) (by decide) (xs.map dv) ((Array.range (len * i.size)).map ((dv zeros32).cells[· % (dv zeros32).cells.size]!)) (fun v hv => by
  obtain ⟨d, hd, rfl⟩ := List.mem_map.1 hv
  show (d.map bv).toArray.size = 32
  simp [hxs d hd]) (by simp [hz1, hlen])
 have e : ((xs.map dv).flatMap fun v => v.cells.toList) = rowV xs := by rw [List.flatMap_map]; rfl
 rw [e] at hf
 refine wp_buildSlice 32 23 len parts ho (rowV xs).toArray i (dv zeros32) Try.underlying32 hi hz0 (by rw [hz1]; omega) (by rw [hz1]; omega) ?_ ?_
 ·rw [hv, hz1]
  rw [hz1] at hf
  exact hf
 ·exact h _ (heap_new w _) ((Below.refl _ _).alloc (Nat.le_refl _) _) (by simp)
theorem wpList_sliceD (hg : o.guard = none) (len : Nat) (parts : Array (Nat × Operand)) (ho : o.op = .buildSlice 32 len parts) (xs : List Dg) (hxs : All32 xs) (hlen : xs.length = len) (h1 : 1 ≤ len) (h2 : len ≤ 1000) (hv : (parts.map fun (i, x) => (i, a.eval x)).toList = ((xs.map dv).zipIdx 0).map fun x => (x.2, x.1))
  (N : Nat) (hN : w.heap.size = N) (h : ∀ W, W.heap[N]? = some (.cells (rowV xs).toArray 23 (0, 0)) → Below N w W → W.heap.size = N + 1 → wpList Try.prog ops Q rest (a.put o.dst (.slice (some ⟨N, 0, none⟩) len len)) W) : wpList Try.prog ops Q (o :: rest) a w :=
 wpList_plain hg fun _ hK => wp_sliceD len parts ho xs hxs hlen h1 h2 hv N hN (fun W e1 e2 e3 => hK _ _ (h W e1 e2 e3))
end
def DRow (w : World) (lim : Nat) (v : Value) (xs : List Dg) : Prop :=
 All32 xs ∧ ∃ ad c, v = .slice ad xs.length c ∧ xs.length ≤ c ∧ c ≤ 9223372036854775807 ∧ (0 < xs.length → ∃ b o, ad = some ⟨b, o, none⟩ ∧ b < lim ∧ b < w.heap.size ∧ ∀ i (h : i < xs.length), w.rangeAt b (o + i * 32) (xs[i].map bv))
theorem range_block {w w' : World} {b o : Nat} {cs : List Value} (h : w.rangeAt b o cs) (e : w'.heap[b]? = w.heap[b]?) : w'.rangeAt b o cs := fun j v hv => (World.cell?_of_block (a := ⟨b, o + j, none⟩) e).trans (h j v hv)
theorem DRow.mod {w w' : World} {S : Nat → Prop} {lim : Nat} {v : Value} {xs : List Dg} (h : DRow w lim v xs) (m : Mod S w w') (hS : ∀ k, k < lim → ¬ S k) : DRow w' lim v xs := by
 obtain ⟨h0, ad, c, rfl, h1, h2, h3⟩ := h
 refine ⟨h0, ad, c, rfl, h1, h2, fun hp => ?_⟩
 obtain ⟨b, o, rfl, h4, h5, h6⟩ := h3 hp
 exact ⟨b, o, rfl, h4, Nat.lt_of_lt_of_le h5 m.size, fun i hi => range_block (h6 i hi) (m.block b h5 (hS b h4))⟩
theorem DRow.below {w w' : World} {lim : Nat} {v : Value} {xs : List Dg} (h : DRow w lim v xs) (hb : Below w.heap.size w w') : DRow w' lim v xs := h.mod (Mod.of (fun _ => False) hb) (fun _ _ h => h)
theorem DRow.drew {w : World} {lim : Nat} {v : Value} {xs : List Dg} (h : DRow w lim v xs) : DRow w.drew lim v xs := h
theorem DRow.mono {w : World} {lim lim' : Nat} {v : Value} {xs : List Dg} (h : DRow w lim v xs) (hl : lim ≤ lim') : DRow w lim' v xs := by
 obtain ⟨h0, ad, c, rfl, h1, h2, h3⟩ := h
 refine ⟨h0, ad, c, rfl, h1, h2, fun hp => ?_⟩
 obtain ⟨b, o, rfl, h4, h5, h6⟩ := h3 hp
 exact ⟨b, o, rfl, by omega, h5, h6⟩
theorem DRow.low {w w' : World} {lim : Nat} {v : Value} {xs : List Dg} (h : DRow w lim v xs) (hb : Below lim w w') (hl : lim ≤ w.heap.size) : DRow w' lim v xs := by
 obtain ⟨h0, ad, c, rfl, h1, h2, h3⟩ := h
 refine ⟨h0, ad, c, rfl, h1, h2, fun hp => ?_⟩
 obtain ⟨b, o, rfl, h4, h5, h6⟩ := h3 hp
 exact ⟨b, o, rfl, h4, Nat.lt_of_lt_of_le h5 hb.size, fun i hi => range_block (h6 i hi) (hb.block b h4)⟩
theorem OwnR.drow {w : World} {B : Nat} {v : Value} {xs : List Dg} (h : OwnR w B v xs) (hA : All32 xs) (hl : xs.length ≤ 9223372036854775807) : DRow w w.heap.size v xs := by
 refine ⟨hA, ?_⟩
 rcases h.2 with ⟨rfl, h0⟩ | ⟨g, cap, cur, rfl, hB, hg, h1, h2, h3, h4⟩
 ·have : xs = [] := List.eq_nil_of_length_eq_zero h0
  subst this
  exact ⟨none, 0, rfl, Nat.le_refl _, by decide, fun h => absurd h (by decide)⟩
 ·refine ⟨some ⟨g, 0, none⟩, cap, rfl, h1, h2, fun hp => ⟨g, 0, rfl, heap_lt hg, heap_lt hg, fun i hi => ?_⟩⟩
  rw [Nat.zero_add]
  exact OwnR.range (cap := cap) (n := xs.length) h hA i hi
end Go.Proofs.Ytihbhpggpnmifaa
namespace Go.Proofs.Ytihbhpggpnmifaa
open Go.RowKit Go.Lib Hw
theorem heap_one {w : World} {b : Nat} {v : Value} {t : TypeId} (h : w.heap[b]? = some (.cells #[v] t (0, 0))) : w.cell? ⟨b, 0, none⟩ = some v := by rw [heap_cell h]; rfl
theorem heap_put {w : World} {b : Nat} {v : Value} {t : TypeId} (h : w.heap[b]? = some (.cells #[v] t (0, 0))) (u : Value) : (w.setCell ⟨b, 0, none⟩ u).heap[b]? = some (.cells #[u] t (0, 0)) := heap_set (o := 0) h u
def NextPost (w : World) (lim pt po : Nat) (tt tq : TypeId) (okb : Bool) (xs : List Dg) (e : Ending) (w' : World) : Prop :=
 e = .returned (dv (xs.headD zeros32)) ∧ ∃ v', w'.heap[pt]? = some (.cells #[v'] tt (0, 0)) ∧ w'.heap[po]? = some (.cells #[.bool (okb && !xs.isEmpty)] tq (0, 0)) ∧ DRow w' lim v' xs.tail ∧ Mod (fun k => k = pt ∨ k = po) w w'
set_option maxHeartbeats 2000000 in
theorem next_nil (w : World) (lim pt po : Nat) (v : Value) (tt tq : TypeId) (okb : Bool) (hpt : Hid (w.heap[pt]? = some (.cells #[v] tt (0, 0)))) (hpo : Hid (w.heap[po]? = some (.cells #[.bool okb] tq (0, 0)))) (hne : pt ≠ po) (hd : Hid (DRow w lim v [])) :
  Calls Try.prog 51 #[.pointer (some ⟨pt, 0, none⟩), .pointer (some ⟨po, 0, none⟩)] w (NextPost w lim pt po tt tq okb []) := by
 obtain ⟨h0, ad, c, rfl, h1, h2, h3⟩ := hd.out
 simp only [List.length_nil] at *
 clear h3
 go_enter Try.func51, Try.ntmps51
 go_upto_region 1 with (refine wpList_allocD rfl rfl w.heap.size rfl ?_; intro w1 hd1 hb1 hz1)
 have D1 := Lib.hid hd1
 have B1 := Lib.hid hb1
 have P1 := Lib.hid (heap_below hpt.out hb1 (heap_lt hpt.out))
 have O1 := Lib.hid (heap_below hpo.out hb1 (heap_lt hpo.out))
 clear hd1 hb1
 have c0 := heap_one P1.out
 have c1 := heap_one O1.out
 have f1 := heap_free O1.out 0
 go_wp2_with (first
  | (refine wpList_buildD rfl rfl ?_)
  | (refine wpList_storeD rfl _ _ rfl w.heap.size rfl zeros32 zeros32 rfl rfl rfl (heap_setOther D1.out (by have := heap_lt hpo.out; show w.heap.size ≠ po; omega) _) ?_; intro w3 hd3 hb3 hk3 hz3))
 have hp0 := heap_lt hpt.out
 have hq0 := heap_lt hpo.out
 have M2 : Mod (fun k => k = pt ∨ k = po) w w3 := ((Mod.of _ B1.out).then (Mod.set w1 (.inr rfl) _)).trans (Mod.kept (S := fun k => k = w.heap.size) hk3 rfl) (fun i hi e => by omega)
 refine bodyPost_ret (v := dv zeros32) ?_ rfl ⟨rfl, .slice ad 0 c, ?_, ?_, ⟨h0, ad, c, rfl, h1, h2, fun h => absurd h (by decide)⟩, M2⟩
 ·exact results_cell1 Try.results51 rfl (DB.load hd3 rfl)
 ·exact hk3.heap (heap_setOther P1.out hne _) (by omega)
 ·refine hk3.heap ?_ (by omega)
  rw [show (okb && !([] : List Dg).isEmpty) = false by simp]
  exact heap_put O1.out _
theorem slice_one (b o n c : Nat) (hn : n + 1 ≤ c) (hc : c ≤ 9223372036854775807) (w : World) : ∃ o', (c ≠ 1 → o' = o + 32) ∧ (Instr.sliceAt 32 (.slice (some ⟨b, o, none⟩) (n + 1) c) (some (.int .i64 1)) none none).run Try.prog w = .ok (.slice (some ⟨b, o', none⟩) n (c - 1)) w := by
 by_cases h : c = 1
 ·subst h
  obtain rfl : n = 0 := by omega
  refine ⟨o, fun h => absurd rfl h, ?_⟩
  go_simp
 ·refine ⟨o + 32, fun _ => rfl, ?_⟩
  go_simp
  intro hx
  omega
set_option maxHeartbeats 4000000 in
theorem next_cons (w : World) (lim pt po : Nat) (v : Value) (tt tq : TypeId) (okb : Bool) (x : Dg) (xs : List Dg) (hpt : Hid (w.heap[pt]? = some (.cells #[v] tt (0, 0)))) (hpo : Hid (w.heap[po]? = some (.cells #[.bool okb] tq (0, 0)))) (hne : pt ≠ po) (hlt : lim ≤ pt) (hlo : lim ≤ po) (hd : Hid (DRow w lim v (x :: xs))) :
  Calls Try.prog 51 #[.pointer (some ⟨pt, 0, none⟩), .pointer (some ⟨po, 0, none⟩)] w (NextPost w lim pt po tt tq okb (x :: xs)) := by
 obtain ⟨h0, ad, c, rfl, h1, h2, h3⟩ := hd.out
 obtain ⟨b, o, rfl, hb, hbw, hr⟩ := h3 (by simp)
 clear h3
 have hr0 := hr 0 (by simp)
 rw [Nat.zero_mul, Nat.add_zero] at hr0
 have HX : Hid (List.length x = 32) := h0 x (List.mem_cons_self ..)
 obtain ⟨n, hn⟩ : ∃ n, xs.length = n := ⟨_, rfl⟩
 have hl : (x :: xs).length = n + 1 := by rw [List.length_cons, hn]
 rw [hl] at h1 hd hpt
 have HR0 := Lib.hid hr0
 have HR := Lib.hid hr
 have HN := Lib.hid hn
 clear hr0 hr hl hn
 go_enter Try.func51, Try.ntmps51
 go_upto_region 1 with (refine wpList_allocD rfl rfl w.heap.size rfl ?_; intro w1 hd1 hb1 hz1)
 have D1 := Lib.hid hd1
 have B1 := Lib.hid hb1
 have P1 := Lib.hid (heap_below hpt.out hb1 (heap_lt hpt.out))
 have O1 := Lib.hid (heap_below hpo.out hb1 (heap_lt hpo.out))
 have HR1 : Hid (w1.rangeAt b o (x.map bv)) := range_block HR0.out (hb1.block b hbw)
 clear hd1 hb1
 have c0 := heap_one P1.out
 have f0 := heap_free P1.out 0
 obtain ⟨o', ho', hsl⟩ := slice_one b o n c h1 h2 w1
 have HO := Lib.hid ho'
 have n0 : ((n : Int) + 1 == 0) = false := by simp; omega
 clear ho'
 go_upto_region 6 with fail
 have hp0 := heap_lt hpt.out
 have hq0 := heap_lt hpo.out
 have HR2 : Hid ((w1.setCell ⟨pt, 0, none⟩ (.slice (some ⟨b, o', none⟩) n (c - 1))).rangeAt b o (x.map bv)) := range_block HR1.out (Below.heap_setCell _ _ _ _ (by show b ≠ pt; omega))
 have HD2 : Hid (DB (w1.setCell ⟨pt, 0, none⟩ (.slice (some ⟨b, o', none⟩) n (c - 1))) w.heap.size zeros32) := heap_setOther D1.out (by show w.heap.size ≠ pt; omega) _
 go_wp2_with (first
  | (refine wpList_load_mid rfl 23 _ rfl b o rfl (x.map bv) _ HR2.out Try.underlying23 rfl (info_D.trans (congrArg some ((List.length_map _).trans HX.out).symm)) ?_; try simp only [Act.put,nA,nB,nC])
  | (refine wpList_storeD rfl _ _ rfl w.heap.size rfl zeros32 x rfl HX.out rfl HD2.out ?_; intro w3 hd3 hb3 hk3 hz3))
 have M2 : Mod (fun k => k = pt ∨ k = po) w w3 := ((Mod.of _ B1.out).then (Mod.set w1 (.inl rfl) _)).trans (Mod.kept (S := fun k => k = w.heap.size) hk3 rfl) (fun i hi e => by omega)
 refine bodyPost_ret (v := dv x) ?_ rfl ⟨rfl, .slice (some ⟨b, o', none⟩) n (c - 1), ?_, ?_, ?_, M2⟩
 ·exact results_cell1 Try.results51 rfl (DB.load hd3 HX.out)
 ·exact hk3.heap (heap_put P1.out _) (by omega)
 ·refine hk3.heap ?_ (by omega)
  rw [show (okb && !(x :: xs : List Dg).isEmpty) = okb by simp]
  exact heap_setOther O1.out (by show po ≠ pt; omega) _
 ·refine ⟨fun d hd => h0 d (List.mem_cons_of_mem _ hd), some ⟨b, o', none⟩, c - 1, by rw [List.tail_cons, HN.out], by rw [List.tail_cons, HN.out]; omega, by omega, fun hp => ?_⟩
  rw [List.tail_cons, HN.out] at hp
  obtain rfl := HO.out (by omega)
  refine ⟨b, o + 32, rfl, hb, Nat.lt_of_lt_of_le hbw M2.size, fun i hi => ?_⟩
  have h4 := HR.out (i + 1) (by rw [List.length_cons]; rw [List.tail_cons] at hi; omega)
  rw [List.getElem_cons_succ] at h4
  have e : o + 32 + i * 32 = o + (i + 1) * 32 := by omega
  rw [e]
  exact range_block h4 (M2.block b hbw (by omega))
theorem next_any (w : World) (lim pt po : Nat) (v : Value) (tt tq : TypeId) (okb : Bool) (xs : List Dg) (hpt : Hid (w.heap[pt]? = some (.cells #[v] tt (0, 0)))) (hpo : Hid (w.heap[po]? = some (.cells #[.bool okb] tq (0, 0)))) (hne : pt ≠ po) (hlt : lim ≤ pt) (hlo : lim ≤ po) (hd : Hid (DRow w lim v xs)) :
  Calls Try.prog 51 #[.pointer (some ⟨pt, 0, none⟩), .pointer (some ⟨po, 0, none⟩)] w (NextPost w lim pt po tt tq okb xs) := by
 cases xs with
 | nil => exact next_nil w lim pt po v tt tq okb hpt hpo hne hd
 | cons x xs => exact next_cons w lim pt po v tt tq okb x xs hpt hpo hne hlt hlo hd
def fitsL (n : Int) (xs : List Dg) : Bool := xs.all (fitB n)
set_option maxHeartbeats 4000000 in
theorem fit_any (n : Int) (v : Value) (xs : List Dg) (w : World) (lim : Nat) (hd : Hid (DRow w lim v xs)) :
  Calls Try.prog 45 #[.int .i64 n, v] w fun e w' => e = .returned (.bool (fitsL n xs)) ∧ Below w.heap.size w w' := by
 obtain ⟨R, hR⟩ : ∃ R, fitsL n xs = R := ⟨_, rfl⟩
 rw [hR]
 have HR := Lib.hid hR
 clear hR
 have hd' := hd.out
 obtain ⟨h0, ad, c, rfl, h1, h2, h3⟩ := hd'
 have H0 := Lib.hid h0
 have H3 := Lib.hid h3
 clear h0 h3
 have hxl : xs.length ≤ 9223372036854775807 := by omega
 go_enter Try.func45, Try.ntmps45
 go_wp2_with fail
 go_loopw [9] (fun i wr => ∃ (k : Nat), k ≤ xs.length ∧ Hid (fitsL n (xs.take k) = true) ∧ Hid (Below w.heap.size w wr) ∧ i = .int .i64 (k : Int)) (fun i _ => xs.length - (intOf i).toNat)
 case atStart => exact ⟨0, Nat.zero_le _, rfl, Below.refl _ _, rfl⟩
 case round =>
  obtain ⟨k, hk, HF, HB, rfl⟩ := hrel
  by_cases hlt : k < xs.length
  ·have dk : decide (k < xs.length) = true := decide_eq_true hlt
   have dk2 : decide ((k : Int) < (xs.length : Int)) = true := decide_eq_true (by omega)
   have ik : (k : Int) < (xs.length : Int) := by omega
   obtain ⟨b, o, rfl, hb, hbw, hr⟩ := H3.out (by omega)
   have hx := H0.out xs[k] (List.getElem_mem hlt)
   have hrk := range_block (hr k hlt) (HB.out.block b hbw)
   have hsn : fitsL n (xs.take (k + 1)) = (fitsL n (xs.take k) && fitB n xs[k]) := by
    unfold fitsL
    rw [List.take_add_one, List.getElem?_eq_getElem hlt, List.all_append]
    simp
   have hall : fitB n xs[k] = false → R = false := fun hf => by
    rw [← HR.out]
    unfold fitsL
    rw [List.all_eq_false]
    exact ⟨xs[k], List.getElem_mem hlt, by rw [hf]; decide⟩
   obtain ⟨X, hX⟩ : ∃ X, xs[k] = X := ⟨_, rfl⟩
   rw [hX] at hx hrk hsn hall
   obtain ⟨F, hF⟩ : ∃ F, fitB n X = F := ⟨_, rfl⟩
   rw [hF] at hsn hall
   rw [HF.out] at hsn
   have HFX := Lib.hid hF
   have HX := Lib.hid hx
   have HRk := Lib.hid hrk
   have HSn := Lib.hid hsn
   have HAll := Lib.hid hall
   clear hr hx hrk hsn hall hX hF
   set_option maxRecDepth 20000 in
   go_upto_region 4 with (first
    | (refine wpList_load_mid rfl 23 _ rfl b (o + k * 32) rfl (X.map bv) _ HRk.out Try.underlying23 rfl (info_D.trans (congrArg some ((List.length_map _).trans HX.out).symm)) ?_; try simp only [Act.put,nA,nB,nC])
    | (refine wpList_allocD rfl rfl wr.heap.size rfl ?_; intro w1 hd1 hb1 hz1)
    | (refine wpList_storeD rfl _ _ rfl wr.heap.size rfl zeros32 X rfl HX.out rfl hd1 ?_; intro w2 hd2 hb2 hk2 hz2))
   have D2 := Lib.hid hd2
   have HB2 : Hid (Below w.heap.size w w2) := (HB.out.trans (hb1.mono HB.out.size)).trans (hb2.mono HB.out.size)
   clear hd1 hb1 hd2 hb2 hk2
   cases F
   ·have HR0 : Hid (R = false) := HAll.out rfl
    go_wp2_with (first
     | (refine wpList_loadD rfl _ rfl wr.heap.size rfl X HX.out D2.out ?_; try simp only [Act.put,nA,nB,nC])
     | (go_at_call 72; refine (Fits_any n X _ HX.out).mono ?_; rintro e w3 ⟨rfl, hb3⟩; rw [HFX.out]))
    go_ret
    exact ⟨by rw [HR0.out]; rfl, HB2.out.trans (hb3.mono HB2.out.size)⟩
   ·have HF2 : Hid (fitsL n (xs.take (k + 1)) = true) := HSn.out
    go_wp2_with (first
     | (refine wpList_loadD rfl _ rfl wr.heap.size rfl X HX.out D2.out ?_; try simp only [Act.put,nA,nB,nC])
     | (go_at_call 72; refine (Fits_any n X _ HX.out).mono ?_; rintro e w3 ⟨rfl, hb3⟩; rw [HFX.out]))
    exact ⟨⟨k + 1, by omega, HF2, HB2.out.trans (hb3.mono HB2.out.size), by go_num⟩, by simp [intOf]; omega⟩
  ·have hk2 : k = xs.length := by omega
   have dk : decide (k < xs.length) = false := decide_eq_false hlt
   have dk2 : decide ((k : Int) < (xs.length : Int)) = false := decide_eq_false (by omega)
   have HR2 : Hid (R = true) := by
    show R = true
    rw [← HR.out, ← HF.out, hk2, List.take_length]
   go_wp2_with fail
   go_ret
   exact ⟨by rw [HR2.out]; rfl, HB.out⟩
end Go.Proofs.Ytihbhpggpnmifaa
namespace Go.Proofs.Ytihbhpggpnmifaa
open Go.RowKit Go.Lib Hw
theorem setL_splice : ∀ (vs : List Value) (cs : List Value) (o : Nat), o + vs.length ≤ cs.length → setL cs.toArray o vs = (cs.take o ++ vs ++ cs.drop (o + vs.length)).toArray := by
 intro vs cs o h
 apply Array.ext_getElem?
 intro k
 rw [setL_get vs o cs.toArray (by simpa using h) k, List.getElem?_toArray, List.getElem?_toArray]
 by_cases h1 : k < o
 ·rw [if_neg (by omega), List.append_assoc, List.getElem?_append_left (by rw [List.length_take]; omega), List.getElem?_take_of_lt h1]
 ·by_cases h2 : k < o + vs.length
  ·rw [if_pos ⟨by omega, by omega⟩, List.append_assoc, List.getElem?_append_right (by rw [List.length_take]; omega), List.getElem?_append_left (by rw [List.length_take]; omega), List.length_take]
   congr 1
   omega
  ·rw [if_neg (by omega), List.getElem?_append_right (by simp; omega), List.getElem?_drop]
   congr 1
   simp only [List.length_append, List.length_take]
   omega
theorem block_range {w : World} {b : Nat} {cs : List Value} {t : TypeId} {fz : Nat × Nat} (h : w.heap[b]? = some (.cells cs.toArray t fz)) (o : Nat) (vs : List Value) (hs : (cs.drop o).take vs.length = vs) : w.rangeAt b o vs := by
 intro j v hv
 have h1 := range_all h (o + j) v (by
  rw [← hs, List.getElem?_take] at hv
  split at hv
  ·rw [List.getElem?_drop] at hv; exact hv
  ·cases hv)
 rw [Nat.zero_add] at h1
 exact h1
theorem block_put {w : World} {b : Nat} {cs : List Value} {t : TypeId} (h : w.heap[b]? = some (.cells cs.toArray t (0, 0))) (o : Nat) (vs : List Value) (hs : o + vs.length ≤ cs.length) :
  (w.setCells b o vs).heap[b]? = some (.cells (cs.take o ++ vs ++ cs.drop (o + vs.length)).toArray t (0, 0)) ∧ Kept b w (w.setCells b o vs) := by
 have h1 := setCells_heap vs w b o _ _ _ h
 rw [setL_splice vs cs o hs] at h1
 have h2 := setCells_below vs w b o b (Nat.le_refl _)
 exact ⟨h1, h2.os, h2.tape, h2.output, h2.size, fun k _ hk => setCells_other _ _ _ _ _ hk⟩
section
variable {ops : Array Oper} {rest : List Oper} {o : Oper} {a : Act} {w : World} {K : Act → World → Prop} {Q : Exit → Act → World → Prop}
theorem wpList_storeAt (hgd : o.guard = none) (x y : Operand) (ho : o.op = .store 23 x y) (b off : Nat) (hx : a.eval x = .pointer (some ⟨b, off, none⟩)) (m : Dg) (hm : m.length = 32) (hy : a.eval y = dv m) (cs : List Value) (t : TypeId) (hb : w.heap[b]? = some (.cells cs.toArray t (0, 0))) (hs : off + 32 ≤ cs.length)
  (h : ∀ W, W.heap[b]? = some (.cells (cs.take off ++ m.map bv ++ cs.drop (off + 32)).toArray t (0, 0)) → Kept b w W → W.heap.size = w.heap.size → wpList Try.prog ops Q rest (a.put o.dst undef) W) : wpList Try.prog ops Q (o :: rest) a w := by
 have hml : (m.map bv).length = 32 := by rw [List.length_map, hm]
 refine wpList_store_mid hgd 23 _ _ ho b off (m.map bv).toArray hx hy ?_ (info_D.trans (congrArg some hml.symm)) (by simp [bv]; intros; rfl) ?_
 ·intro j hj
  have hj' : j < 32 := by simpa [hm] using hj
  have h1 := there_all hb (off + j) (by simp; omega)
  rw [Nat.zero_add] at h1
  exact h1
 ·have h1 := block_put hb off (m.map bv) (by omega)
  rw [hml] at h1
  exact h _ h1.1 h1.2 (setCells_hs ..)
theorem wpList_loadAt (hgd : o.guard = none) (x : Operand) (ho : o.op = .load 23 x) (b off : Nat) (hx : a.eval x = .pointer (some ⟨b, off, none⟩)) (m : Dg) (hm : m.length = 32) (cs : List Value) (t : TypeId) (hb : w.heap[b]? = some (.cells cs.toArray t (0, 0))) (hs : (cs.drop off).take 32 = m.map bv)
  (h : wpList Try.prog ops Q rest (a.put o.dst (dv m)) w) : wpList Try.prog ops Q (o :: rest) a w := by
 have hml : (m.map bv).length = 32 := by rw [List.length_map, hm]
 exact wpList_load_mid hgd 23 x ho b off hx (m.map bv) _ (block_range hb off (m.map bv) (by rw [hml]; exact hs)) Try.underlying23 rfl (info_D.trans (congrArg some hml.symm)) h
end
/-! ### pairs, each as one list of 64 bytes -/
def All64 (xs : List Dg) : Prop := ∀ d ∈ xs, d.length = 64
theorem All64.nil : All64 [] := fun d h => by simp at h
theorem All64.snoc {xs : List Dg} {d : Dg} (h : All64 xs) (hd : d.length = 64) : All64 (xs ++ [d]) := fun x hx => by
 rcases List.mem_append.1 hx with h1 | h1
 ·exact h x h1
 ·rw [List.mem_singleton.1 h1]; exact hd
def zeros64 : List UInt8 := zeros32 ++ zeros32
theorem zero_P (w : World) : (zeroValue 108).run Try.prog w = .ok (dv zeros64) w := by kernel_rfl
theorem infoS : (Try.prog.info? 108).map (fun i => (i.zero, i.size, i.bytes)) = some (some (dv zeros64), 64, 64) := by kernel_rfl
def OwnS (w : World) (B : Nat) (v : Value) (xs : List Dg) : Prop := w.ownsRow B 108 64 v xs.length (rowV xs)
theorem OwnS.nil (w : World) (B : Nat) : OwnS w B (.slice none 0 0) [] := World.ownsRow_nil w B _ 64
theorem OwnS.lt {w : World} {B : Nat} {v : Value} {xs : List Dg} (h : OwnS w B v xs) : ∀ g, v.ownBlock = some g → B ≤ g ∧ g < w.heap.size := World.ownsRow.lt h
theorem OwnS.heap {w w' : World} {B : Nat} {v : Value} {xs : List Dg} (h : OwnS w B v xs) (hk : ∀ g, v.ownBlock = some g → w'.heap[g]? = w.heap[g]?) : OwnS w' B v xs := by
 refine ⟨h.1, ?_⟩
 rcases h.2 with hn | ⟨g, cap, cur, rfl, hB, hg, r⟩
 ·exact .inl hn
 ·exact .inr ⟨g, cap, cur, rfl, hB, (hk g rfl).trans hg, r⟩
theorem OwnS.mod {w w' : World} {S : Nat → Prop} {B : Nat} {v : Value} {xs : List Dg} (h : OwnS w B v xs) (m : Mod S w w') (hd : ∀ k, v.ownBlock = some k → ¬ S k) : OwnS w' B v xs :=
 h.heap (fun g hg => m.block g (h.lt g hg).2 (hd g hg))
section
variable {ops : Array Oper} {rest : List Oper} {o : Oper} {a : Act} {w : World} {K : Act → World → Prop} {Q : Exit → Act → World → Prop}
theorem wpList_sliceP (hg : o.guard = none) (x : Operand) (ho : o.op = .buildSlice 84 1 #[(0, x)]) (d : Dg) (hd : d.length = 64) (hx : a.eval x = dv d)
  (N : Nat) (hN : w.heap.size = N) (h : ∀ W, W.heap[N]? = some (.cells (d.map bv).toArray 108 (0, 0)) → Below N w W → W.heap.size = N + 1 → wpList Try.prog ops Q rest (a.put o.dst (.slice (some ⟨N, 0, none⟩) 1 1)) W) : wpList Try.prog ops Q (o :: rest) a w := by
 subst hN
 obtain ⟨i, hi, hz0, hz1, hz2⟩ := info_parts infoS
 have hf := Great.fill_whole (s := 64) (by decide) [dv d] ((Array.range (1 * i.size)).map ((dv zeros64).cells[· % (dv zeros64).cells.size]!)) (fun v hv => by
  obtain rfl := List.mem_singleton.1 hv
  show (d.map bv).toArray.size = 64
  simp [hd]) (by simp [hz1])
 have e : ([dv d].flatMap fun v => v.cells.toList) = d.map bv := by simp [dv, Value.cells]
 rw [e] at hf
 refine wpList_plain hg fun _ hK => wp_buildSlice 84 108 1 _ ho (d.map bv).toArray i (dv zeros64) Try.underlying84 hi hz0 (by rw [hz1]; omega) (by rw [hz1]; omega) ?_ (hK _ _ (h _ (heap_new w _) ((Below.refl _ _).alloc (Nat.le_refl _) _) (by simp)))
 rw [hz1]
 rw [hz1] at hf
 have e2 : (#[(0, x)] : Array (Nat × Operand)).map (fun (i, x) => (i, a.eval x)) = #[(0, dv d)] := by simp [hx]
 rw [e2]
 exact hf
theorem wpList_appPair (hgd : o.guard = none) (W : World) (d : Dg) (hd : d.length = 64) (s y : Operand) (ho : o.op = .call { callee := .builtin .append, args := #[s, y], argTypes := #[84, 84] })
  (B : Nat) (v : Value) (xs : List Dg) (hs : a.eval s = v) (hown : OwnS W B v xs) (g c : Nat) (hy : a.eval y = .slice (some ⟨g, 0, none⟩) 1 c) (hn : W.heap[g]? = some (.cells (d.map bv).toArray 108 (0, 0)))
  (hlen : xs.length ≤ 1000000000000) (hB : B ≤ W.heap.size)
  (h : ∀ g2 cap2 w', OwnS w' B (.slice (some ⟨g2, 0, none⟩) (xs.length + 1) cap2) (xs ++ [d]) → W.grownBy w' v.ownBlock → (v.ownBlock = some g2 ∨ g2 = W.heap.size) → wpList Try.prog ops Q rest (a.put o.dst (.slice (some ⟨g2, 0, none⟩) (xs.length + 1) cap2)) w') : wpList Try.prog ops Q (o :: rest) a W := by
 obtain ⟨i, hi, hz0, hz1, hz2⟩ := info_parts infoS
 refine wpList_plain hgd fun _ hK => wp_append_lies W s y 84 ho B 108 i (dv zeros64) 64 64 Try.underlying84 hi hz0 hz1 hz2 rfl (by decide) v xs.length (rowV xs) hs hown ⟨g, 0, none⟩ 1 c (d.map bv) hy (by rw [List.length_map, hd]) ?_ (fun u hu => rowV_one [d] u (by simpa [rowV] using hu)) (by decide) (by rw [maxLen_eq]; omega) (by omega) hB W.heap.size rfl ?_
 ·intro j u hu
  have hadd : (⟨g, 0, none⟩ : Addr).add j = ⟨g, j, none⟩ := by unfold Addr.add; split <;> simp_all
  rw [hadd, heap_cell hn, List.getElem?_toArray]
  exact hu
 ·intro g' cap w' h1 h2 h3 _
  refine hK _ _ (h g' cap w' ?_ h2 h3)
  unfold OwnS
  have e : rowV (xs ++ [d]) = rowV xs ++ d.map bv := by simp [rowV]
  rw [List.length_append, e]
  exact h1
end
end Go.Proofs.Ytihbhpggpnmifaa
