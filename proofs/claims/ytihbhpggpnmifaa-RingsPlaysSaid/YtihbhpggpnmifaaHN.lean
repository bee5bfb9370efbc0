/-
 Laws for whole: one digest behind a row (in place, or moved with the old block as it was); one list behind a row of lists.
-/
import Derived.Test.YtihbhpggpnmifaaHH
import Derived.ArgAppend
import Derived.Deep.DeepAppendRoom
import Derived.Test.YtihbhpggpnmifaaHM
set_option linter.unusedSimpArgs false
set_option linter.unusedVariables false
namespace Go.Proofs.Ytihbhpggpnmifaa
open Go.RowKit Go.Lib Hw
theorem wpList_appRk {ops : Array Oper} {rest : List Oper} {o : Oper} {a : Act} {Q : Exit → Act → World → Prop} (W : World) (hgd : o.guard = none) (d : Dg) (hd : d.length = 32) (s y : Operand) (ho : o.op = .call { callee := .builtin .append, args := #[s, y], argTypes := #[32, 32] })
  (B : Nat) (v : Value) (xs : List Dg) (hs : a.eval s = v) (hown : OwnR W B v xs) (hA : All32 xs) (g c : Nat) (hy : a.eval y = .slice (some ⟨g, 0, none⟩) 1 c) (hn : DB W g d)
  (hlen : xs.length ≤ 1000000000000) (hB : B ≤ W.heap.size)
  (h : ∀ g2 cap2 w', OwnR w' B (.slice (some ⟨g2, 0, none⟩) (xs.length + 1) cap2) (xs ++ [d]) → ((v.ownBlock = some g2 ∧ Mod (fun k => k = g2) W w') ∨ (W.heap.size ≤ g2 ∧ Below W.heap.size W w')) → wpList Try.prog ops Q rest (a.put o.dst (.slice (some ⟨g2, 0, none⟩) (xs.length + 1) cap2)) w') : wpList Try.prog ops Q (o :: rest) a W := by
 obtain ⟨i, hi, hz0, hz1, hz2⟩ := info_parts infoR
 have e1 : rowV (xs ++ [d]) = rowV xs ++ d.map bv := by simp [rowV]
 have hnews : ∀ j u, (d.map bv)[j]? = some u → W.cell? ((⟨g, 0, none⟩ : Addr).add j) = some u := by
  intro j u hu
  have hadd : (⟨g, 0, none⟩ : Addr).add j = ⟨g, j, none⟩ := by unfold Addr.add; split <;> simp_all
  rw [hadd, heap_cell hn, List.getElem?_toArray]
  exact hu
 have hone : ∀ u ∈ d.map bv, u.oneCell' = true := fun u hu => rowV_one [d] u (by simpa [rowV] using hu)
 have grow : ∀ (ao : Option Addr) (cap : Nat), v = .slice ao xs.length cap → (ao = none → xs.length = 0 ∧ cap = 0) → (∀ b, ao = some b → ∀ j u, (rowV xs)[j]? = some u → W.cell? (b.add j) = some u) → cap < xs.length + 1 → wpList Try.prog ops Q (o :: rest) a W := by
  intro ao cap hv h1 h2 h3
  refine wpList_append_grows W hgd s y 32 ho 23 i (dv zeros32) 32 32 Try.underlying32 hi hz0 hz1 hz2 rfl (by decide) ao xs.length cap (rowV xs) (hs.trans hv) h1 (rowV_len hA) h2 ⟨g, 0, none⟩ 1 c (d.map bv) hy (by rw [List.length_map, hd]) hnews hone h3 (by rw [maxLen_eq]; omega) (by omega) ?_
  intro v' w' h4 h5
  have h6 : OwnR w' W.heap.size v' (xs ++ [d]) := by
   unfold OwnR
   rw [List.length_append, e1]
   exact h4
  obtain ⟨ad', cap', hv', hg'⟩ := h6.shape
  obtain ⟨g', rfl⟩ := hg' (by simp)
  rw [List.length_append, List.length_singleton] at hv'
  subst hv'
  exact h g' cap' w' (h6.mono hB) (.inr ⟨(h6.lt g' rfl).1, (Below.refl _ _).grown h5 (Nat.le_refl _) (fun g hg => by cases hg)⟩)
 rcases hown.2 with ⟨rfl, h0⟩ | ⟨g1, cap, cur, rfl, r⟩
 ·exact grow none 0 (by rw [h0]) (fun _ => ⟨h0, rfl⟩) (fun b hb => by cases hb) (by omega)
 ·by_cases hroom : xs.length + 1 ≤ cap
  ·refine wpList_append_own_spare W hgd s y 32 ho B 23 i 32 Try.underlying32 hi hz1 g1 xs.length cap (rowV xs) hs hown ⟨g, 0, none⟩ 1 c (d.map bv) hy (by rw [List.length_map, hd]) hnews hone hroom ?_
   intro w' h4 h5
   refine h g1 cap w' ?_ (.inl ⟨rfl, Mod.grown h5 (fun k e => (Option.some.inj e).symm)⟩)
   unfold OwnR
   rw [List.length_append, e1]
   exact h4
  ·exact grow (some ⟨g1, 0, none⟩) cap rfl (fun h => by cases h) (fun b hb j u hu => by
    cases hb
    exact World.ownsRow.cells (w := W) hown (g := g1) rfl j u hu) (by omega)
theorem wpList_appW1 {ops : Array Oper} {rest : List Oper} {o : Oper} {a : Act} {Q : Exit → Act → World → Prop} (W : World) (t : TypeId) (x : Value) (hx1 : x.oneCell' = true) (hgd : o.guard = none) (s z : Operand)
  (ho : o.op = .call { callee := .builtin .append, args := #[s, z], argTypes := #[69, 69] })
  (B : Nat) (v : Value) (xs : List Value) (hs : a.eval s = v) (hown : OwnW W B v xs) (c : Nat) (hz : a.eval z = .slice (some ⟨W.heap.size, 0, none⟩) 1 c)
  (hlen : (xs.length + 1) * 24 ≤ 140737488355328) (hB : B ≤ W.heap.size)
  (h : ∀ v' w', OwnW w' B v' (xs ++ [x]) → Mod (fun k => v.ownBlock = some k) W w' → (∀ g, v'.ownBlock = some g → v.ownBlock = some g ∨ W.heap.size ≤ g) → wpList Try.prog ops Q rest (a.put o.dst v') w') :
  wpList Try.prog ops Q (o :: rest) a (W.alloc (.cells #[x] t)) := by
 obtain ⟨i, hi, hz0, hz1, hz2⟩ := info_parts infoW
 refine wpList_append_own_at _ hgd s z 69 ho B 32 i (.slice none 0 0) 1 24 Try.underlying69 hi hz0 hz1 hz2 rfl (by decide) v xs.length xs hs (World.ownsRow.alloc hown _) ⟨W.heap.size, 0, none⟩ 1 c [x] hz rfl ?_ (fun u hu => by
  rw [List.mem_singleton.1 hu]; exact hx1) (by rw [maxLen_eq]; omega) hlen (by simp only [World.size_alloc]; omega) ?_
 ·exact World.news_of_block (heap_alloc_new W _)
 ·intro v' w' h1 h2 _ h4
  refine h v' w' ?_ ?_ ?_
  ·unfold OwnW
   rw [List.length_append]
   exact h1
  ·exact (Mod.of _ ((Below.refl _ _).alloc (Nat.le_refl _) _)).trans (Mod.grown (S := fun k => v.ownBlock = some k) h2 (fun k e => e)) (fun k hk e => e)
  ·intro g hg
   rcases h4 with h4 | h4
   ·left; rw [← h4]; exact hg
   ·right
    rw [h4] at hg
    have := Option.some.inj hg
    simp only [World.size_alloc] at this
    omega
end Go.Proofs.Ytihbhpggpnmifaa
namespace Go.Proofs.Ytihbhpggpnmifaa
open Go.RowKit Go.Lib Hw
def mkB (a : UInt8) (i : Nat) : Dg := a :: UInt8.ofNat i :: UInt8.ofNat (i / 256) :: List.replicate 29 0
theorem mkB_len (a : UInt8) (i : Nat) : (mkB a i).length = 32 := rfl
theorem built_mk (a b c : Int) : Try.prog.built 23 [(0, .int .u8 a), (1, .int .u8 b), (2, .int .u8 c)] = some (([.int .u8 a, .int .u8 b, .int .u8 c] : List Value) ++ List.replicate 29 (Value.int .u8 0)).toArray := by kernel_rfl
theorem built_mkB (a : UInt8) (i : Nat) : Try.prog.built 23 [(0, .int .u8 (a.toNat : Int)), (1, .int .u8 ((UInt8.ofNat i).toNat : Int)), (2, .int .u8 ((UInt8.ofNat (i / 256)).toNat : Int))] = some ((mkB a i).map bv).toArray :=
 (built_mk _ _ _).trans (by simp only [mkB, List.map_cons, List.map_replicate, bv]; rfl)
theorem yieldsIf_built {ops : Array Oper} {S : World → Prop} {op : Oper} {a : Act} (hw : Region.wanted op (yielded ops a.tmps) = true) (t : TypeId) (parts : Array (Nat × Operand)) (ho : op.op = .build t parts) (vals : List (Nat × Value)) (hv : (parts.map fun (i, x) => (i, a.eval x)).toList = vals) (d : Dg) (hb : Try.prog.built t vals = some (d.map bv).toArray) : YieldsIf Try.prog ops S op (dv d) a :=
 .inl ⟨hw, fun w _ => by
  subst hv
  unfold execOp
  simp only [ho, Sem.run_bind, run_build w t _ _ hb, Result.andThen_ok]
  rfl⟩
theorem wrapM (i : Nat) : IntKind.u8.wrap (i : Int) = ((UInt8.ofNat i).toNat : Int) := by
 rw [UInt8.toNat_ofNat']
 show (i : Int) % 256 = _
 omega
theorem wrapMd (i : Nat) : IntKind.u8.wrap ((i : Int) / 256) = ((UInt8.ofNat (i / 256)).toNat : Int) := wrapM (i / 256)
def markY (Ts : Nat → List Dg) (i k j : Nat) : List Dg := if j < i then List.replicate (Ts j).length (mkB 1 j) else if j = i then List.replicate k (mkB 1 i) ++ (Ts j).drop k else Ts j
theorem markY_len (Ts : Nat → List Dg) (i k j : Nat) (hk : k ≤ (Ts i).length) : (markY Ts i k j).length = (Ts j).length := by
 unfold markY
 split
 ·simp
 ·split
  ·rename_i _ h; subst h; simp; omega
  ·rfl
theorem markY_all {Ts : Nat → List Dg} {i k j : Nat} (h : All32 (Ts j)) : All32 (markY Ts i k j) := by
 unfold markY
 split
 ·exact fun d hd => by rw [(List.mem_replicate.1 hd).2]; rfl
 ·split
  ·exact All32.app (fun d hd => by rw [(List.mem_replicate.1 hd).2]; rfl) (h.drop k)
  ·exact h
theorem markY_start (Ts : Nat → List Dg) (j : Nat) : markY Ts 0 0 j = Ts j := by
 unfold markY
 rw [if_neg (Nat.not_lt_zero _)]
 split <;> simp
theorem markY_next (Ts : Nat → List Dg) (i j : Nat) : markY Ts i (Ts i).length j = markY Ts (i + 1) 0 j := by
 unfold markY
 by_cases h1 : j < i
 ·rw [if_pos h1, if_pos (by omega)]
 ·rw [if_neg h1]
  by_cases h2 : j = i
  ·subst h2
   rw [if_pos rfl, if_pos (by omega), List.drop_length, List.append_nil]
  ·rw [if_neg h2, if_neg (by omega)]
   split <;> simp
theorem markY_set (Ts : Nat → List Dg) (i k : Nat) (hk : k < (Ts i).length) : (markY Ts i k i).set k (mkB 1 i) = markY Ts i (k + 1) i := by
 unfold markY
 rw [if_neg (Nat.lt_irrefl _), if_pos rfl, if_neg (Nat.lt_irrefl _), if_pos rfl, List.set_append_right _ _ (by simp), List.length_replicate, Nat.sub_self, List.drop_eq_getElem_cons hk, List.set_cons_zero, List.replicate_succ', List.append_assoc]
 rfl
theorem markY_other (Ts : Nat → List Dg) (i k j : Nat) (h : j ≠ i) : markY Ts i (k + 1) j = markY Ts i k j := by
 unfold markY
 rw [if_neg h, if_neg h]
theorem markY_end (Ts : Nat → List Dg) (n j : Nat) (h : j < n) : markY Ts n 0 j = List.replicate (Ts j).length (mkB 1 j) := by
 unfold markY
 rw [if_pos h]
structure Rows (W : World) (B : Nat) (ts : List Value) (X : Nat → List Dg) : Prop where
 own : ∀ j (h : j < ts.length), OwnR W B ts[j] (X j)
def Apart (ts : List Value) : Prop := ∀ i j (hi : i < ts.length) (hj : j < ts.length), i ≠ j → ∀ g, ts[i].ownBlock = some g → ts[j].ownBlock ≠ some g
def InRows (ts : List Value) (k : Nat) : Prop := ∃ j, ∃ h : j < ts.length, ts[j].ownBlock = some k
theorem Rows.mod {W W' : World} {B : Nat} {ts : List Value} {X : Nat → List Dg} {S : Nat → Prop} (h : Rows W B ts X) (m : Mod S W W') (hS : ∀ k, InRows ts k → ¬ S k) : Rows W' B ts X :=
 ⟨fun j hj => (h.own j hj).mod m (fun k hk => hS k ⟨j, hj, hk⟩)⟩
theorem Rows.drew {W : World} {B : Nat} {ts : List Value} {X : Nat → List Dg} (h : Rows W B ts X) : Rows W.drew B ts X := ⟨fun j hj => (h.own j hj).drew⟩
theorem Rows.lt {W : World} {B : Nat} {ts : List Value} {X : Nat → List Dg} (h : Rows W B ts X) {k : Nat} (hk : InRows ts k) : B ≤ k ∧ k < W.heap.size := by
 obtain ⟨j, hj, e⟩ := hk
 exact (h.own j hj).lt k e
def RD (W : World) (v : Value) (xs : List Dg) : Prop := ∃ ad c, v = .slice ad xs.length c ∧ (0 < xs.length → ∃ g, ad = some ⟨g, 0, none⟩ ∧ g < W.heap.size ∧ ∀ i (hi : i < xs.length), W.rangeAt g (i * 32) (xs[i].map bv))
theorem OwnR.rd {W : World} {B : Nat} {v : Value} {xs : List Dg} (h : OwnR W B v xs) (hA : All32 xs) : RD W v xs := by
 obtain ⟨ad, cap, rfl, hg⟩ := h.shape
 refine ⟨ad, cap, rfl, fun hp => ?_⟩
 obtain ⟨g, rfl⟩ := hg hp
 exact ⟨g, rfl, (h.lt g rfl).2, fun i hi => h.range hA i hi⟩
theorem RD.mod {W W' : World} {S : Nat → Prop} {v : Value} {xs : List Dg} (h : RD W v xs) (m : Mod S W W') (hS : ∀ k, v.ownBlock = some k → ¬ S k) : RD W' v xs := by
 obtain ⟨ad, c, rfl, hg⟩ := h
 refine ⟨ad, c, rfl, fun hp => ?_⟩
 obtain ⟨g, rfl, hl, hr⟩ := hg hp
 exact ⟨g, rfl, Nat.lt_of_lt_of_le hl m.size, fun i hi => range_block (hr i hi) (m.block g hl (hS g rfl))⟩
structure LG (W : World) (B : Nat) (t v : Value) (m j : Nat) : Prop where
 long : OwnR W B v (List.replicate m (mkB 1 j) ++ List.replicate 40 (mkB 2 j))
 told : RD W t (List.replicate m (mkB 1 j))
theorem LG.mod {W W' : World} {S : Nat → Prop} {B : Nat} {t v : Value} {m j : Nat} (h : LG W B t v m j) (k : Mod S W W') (h1 : ∀ g, t.ownBlock = some g → ¬ S g) (h2 : ∀ g, v.ownBlock = some g → ¬ S g) : LG W' B t v m j :=
 ⟨h.long.mod k h2, h.told.mod k h1⟩
theorem all_mk (m n j : Nat) : All32 (List.replicate m (mkB 1 j) ++ List.replicate n (mkB 2 j)) :=
 All32.app (fun d hd => by rw [(List.mem_replicate.1 hd).2]; rfl) (fun d hd => by rw [(List.mem_replicate.1 hd).2]; rfl)
theorem all_mk1 (m j : Nat) : All32 (List.replicate m (mkB 1 j)) := fun d hd => by rw [(List.mem_replicate.1 hd).2]; rfl
structure LS (W : World) (B z : Nat) (lg : Value) (ts vs : List Value) (Ts : Nat → List Dg) (i : Nat) : Prop where
 long : OwnW W B lg vs
 done' : ∀ j (hj : j < i) (hv : j < vs.length) (ht : j < ts.length), LG W B ts[j] vs[j] (Ts j).length j
 rest : ∀ j (ht : j < ts.length), i ≤ j → OwnR W B ts[j] (List.replicate (Ts j).length (mkB 1 j))
 vb : ∀ j (hv : j < vs.length) (ht : j < ts.length), ∀ g, vs[j].ownBlock = some g → ts[j].ownBlock = some g ∨ z ≤ g
 lb : ∀ g, lg.ownBlock = some g → z ≤ g ∧ ∀ j (hv : j < vs.length), vs[j].ownBlock ≠ some g
 sz : z ≤ W.heap.size
theorem LS.start {W : World} {B z : Nat} {ts : List Value} {Ts : Nat → List Dg} (h : ∀ j (hj : j < ts.length), OwnR W B ts[j] (List.replicate (Ts j).length (mkB 1 j))) (hz : z ≤ W.heap.size) : LS W B z (.slice none 0 0) ts [] Ts 0 :=
 ⟨OwnW.nil W B, fun j hj => absurd hj (Nat.not_lt_zero _), fun j ht _ => h j ht, fun j hv => absurd hv (Nat.not_lt_zero _), (fun g hg => nomatch hg), hz⟩
theorem RD.grown {W W' : World} {B g2 n cap2 : Nat} {t : Value} {m j : Nat} {ys : List Dg} (h : RD W t (List.replicate m (mkB 1 j))) (ho : OwnR W' B (.slice (some ⟨g2, 0, none⟩) n cap2) (List.replicate m (mkB 1 j) ++ ys)) (hys : All32 ys) (hc : (∀ k, t.ownBlock = some k → k = g2) ∨ (∀ k, t.ownBlock = some k → k < W.heap.size → W'.heap[k]? = W.heap[k]?)) (hz : W.heap.size ≤ W'.heap.size) : RD W' t (List.replicate m (mkB 1 j)) := by
 obtain ⟨ad, c, rfl, hg⟩ := h
 refine ⟨ad, c, rfl, fun hp => ?_⟩
 obtain ⟨g, rfl, hl, hr⟩ := hg hp
 refine ⟨g, rfl, Nat.lt_of_lt_of_le hl hz, fun i hi => ?_⟩
 rcases hc with hc | hc
 ·obtain rfl := hc g rfl
  have h1 := ho.range (All32.app (all_mk1 m j) hys) i (by rw [List.length_append]; omega)
  rw [List.getElem_append_left hi] at h1
  exact h1
 ·exact range_block (hr i hi) (hc g rfl hl)
theorem ls_next {w4 W w7 : World} {B z3 z4 : Nat} {lg l v7 t0 : Value} {ts vs : List Value} {Ts : Nat → List Dg} {i m : Nat} (h : LS w4 B z3 lg ts vs Ts i) (hap : Apart ts) {hi : i < ts.length} (ht0 : ts[i] = t0) (hm : (Ts i).length = m) (mc : Mod (fun k => t0.ownBlock = some k) w4 W) (hz34 : z3 ≤ z4) (hz4 : w4.heap.size = z4) (hvs : vs.length = i)
  (hl : ∀ g, l.ownBlock = some g → t0.ownBlock = some g ∨ z4 ≤ g) (ho : OwnR W B l (List.replicate m (mkB 1 i) ++ List.replicate 40 (mkB 2 i))) (hr : RD W t0 (List.replicate m (mkB 1 i))) (o7 : OwnW w7 B v7 (vs ++ [l])) (m7 : Mod (fun k => lg.ownBlock = some k) W w7) (n7 : ∀ g, v7.ownBlock = some g → lg.ownBlock = some g ∨ W.heap.size ≤ g)
  (ht0z : ∀ k, t0.ownBlock = some k → k < z3) (htz : ∀ j (hj : j < ts.length) k, ts[j].ownBlock = some k → k < z3) : LS w7 B z3 v7 ts (vs ++ [l]) Ts (i + 1) := by
 have hsz : z4 ≤ W.heap.size := by have := mc.size; omega
 have hlg : ∀ k, lg.ownBlock = some k → z3 ≤ k ∧ k < z4 := fun k hk => ⟨(h.lb k hk).1, by have := (h.long.lt k hk).2; omega⟩
 have hvz : ∀ j (hj : j < vs.length) (hj2 : j < i) (ht : j < ts.length) k, vs[j].ownBlock = some k → k < z4 := fun j hj hj2 ht k hk => by
  have := ((h.done' j hj2 hj ht).long.lt k hk).2
  omega
 refine ⟨o7, ?_, ?_, ?_, ?_, by have := m7.size; omega⟩
 ·intro j hj hv ht
  rcases Nat.lt_or_eq_of_le (Nat.le_of_lt_succ hj) with e | e
  ·have hjv : j < vs.length := by omega
   rw [List.getElem_append_left hjv]
   refine (((h.done' j e hjv ht).mod mc (fun g hg e2 => ?_) (fun g hg e2 => ?_))).mod m7 (fun g hg e2 => ?_) (fun g hg e2 => ?_)
   ·exact hap j i ht hi (by omega) g hg (by rw [ht0]; exact e2)
   ·rcases h.vb j hjv ht g hg with h1 | h1
    ·exact hap j i ht hi (by omega) g h1 (by rw [ht0]; exact e2)
    ·have := ht0z g e2; omega
   ·have := hlg g e2; have := htz j ht g hg; omega
   ·exact (h.lb g e2).2 j hjv hg
  ·subst e
   rw [List.getElem_append_right (by omega)]
   simp only [hvs, Nat.sub_self, List.getElem_cons_zero]
   rw [ht0, hm]
   refine ⟨ho.mod m7 (fun g hg e2 => ?_), hr.mod m7 (fun g hg e2 => ?_)⟩
   ·have h1 := hlg g e2
    rcases hl g hg with h2 | h2
    ·have := ht0z g h2; omega
    ·omega
   ·have := hlg g e2; have := ht0z g hg; omega
 ·intro j ht hj
  refine ((h.rest j ht (by omega)).mod mc (fun g hg e2 => ?_)).mod m7 (fun g hg e2 => ?_)
  ·exact hap j i ht hi (by omega) g hg (by rw [ht0]; exact e2)
  ·have := hlg g e2; have := htz j ht g hg; omega
 ·intro j hv ht g hg
  rw [List.length_append, List.length_singleton] at hv
  rcases Nat.lt_or_ge j vs.length with e | e
  ·rw [List.getElem_append_left e] at hg
   exact h.vb j e ht g hg
  ·have e2 : j = i := by omega
   subst e2
   rw [List.getElem_append_right e] at hg
   simp only [hvs, Nat.sub_self, List.getElem_cons_zero] at hg
   rw [ht0]
   exact (hl g hg).elim .inl (fun h => .inr (by omega))
 ·intro g hg
  refine ⟨(n7 g hg).elim (fun h1 => (hlg g h1).1) (fun h1 => by omega), fun j hv hg2 => ?_⟩
  rw [List.length_append, List.length_singleton] at hv
  rcases Nat.lt_or_ge j vs.length with e | e
  ·rw [List.getElem_append_left e] at hg2
   rcases n7 g hg with h1 | h1
   ·exact (h.lb g h1).2 j e hg2
   ·have := hvz j e (by omega) (by omega) g hg2; omega
  ·rw [List.getElem_append_right e] at hg2
   have e3 : j - vs.length = 0 := by omega
   simp only [e3, List.getElem_cons_zero] at hg2
   have hlt := (ho.lt g hg2).2
   rcases n7 g hg with h1 | h1
   ·have h3 := hlg g h1
    rcases hl g hg2 with h2 | h2
    ·have := ht0z g h2; omega
    ·omega
   ·omega
end Go.Proofs.Ytihbhpggpnmifaa
namespace Go.Proofs.Ytihbhpggpnmifaa
open Go.RowKit Go.Lib Hw
def WH (W : World) (q : Nat) (cs : List Value) : Prop := W.heap[q]? = some (.cells cs.toArray 71 (0, 0))
set_option maxRecDepth 20000 in
set_option maxHeartbeats 16000000 in
theorem whole_any (w : World) (q B : Nat) (cs : List Value) (tv wv : Value) (ts ws : List Value) (Ts : Nat → List Dg) (hp : Hid (WH w q cs)) (h6 : Hid (cs[6]? = some tv)) (h7 : Hid (cs[7]? = some wv)) (ht : Hid (OwnW w B tv ts)) (hw : Hid (OwnW w B wv ws)) (hl : ws.length = ts.length) (hr : Hid (Rows w B ts Ts)) (hrw : Hid (Rows w B ws Ts)) (ha : Hid (∀ j, All32 (Ts j))) (hln : Hid (∀ j, (Ts j).length ≤ 1048576)) (hap : Hid (Apart ts)) (htq : Hid (∀ k, InRows ts k → k ≠ q ∧ tv.ownBlock ≠ some k)) (htl : ts.length ≤ 5000000000000) (hB : B ≤ w.heap.size) :
  Calls Try.prog 38 #[.pointer (some ⟨q, 0, none⟩)] w fun e w' => e = .returned (.bool true) ∧ Mod (fun k => InRows ts k) w w' := by
 obtain ⟨tad, tcap, htv, htg⟩ := ht.out.shape
 obtain ⟨wad, wcap, hwv, hwg⟩ := hw.out.shape
 rw [hl] at hwv
 subst htv
 subst hwv
 have Htg := Lib.hid htg
 have Hwg := Lib.hid hwg
 have Hl := Lib.hid hl
 obtain ⟨n, hn⟩ : ∃ n, ts.length = n := ⟨_, rfl⟩
 have HN := Lib.hid hn
 rw [hn] at h6 h7 ht hw htq htl
 have hqz : q < w.heap.size := heap_lt hp.out
 clear htg hwg hl hn
 go_enter Try.func38, Try.ntmps38
 go_upto_region 2 with fail
 go_loopw [3] (fun i wr => ∃ (k : Nat), k ≤ n ∧ Hid (Below w.heap.size w wr) ∧ i = .int .i64 (k : Int)) (fun i _ => n - (intOf i).toNat)
 case atStart => exact ⟨0, Nat.zero_le _, Below.refl _ _, rfl⟩
 case round =>
  obtain ⟨k, hk, Bw, rfl⟩ := hrel
  have P1 : Hid (WH wr q cs) := heap_below hp.out Bw.out hqz
  have c6 : wr.cell? ⟨q, 6, none⟩ = some (.slice tad n tcap) := by rw [heap_cell P1.out, List.getElem?_toArray]; exact h6.out
  by_cases hlt : k < n
  case pos =>
   as_aux_lemma =>
    have dk : decide (k < n) = true := decide_eq_true hlt
    have dk2 : decide ((k : Int) < (n : Int)) = true := decide_eq_true (by omega)
    have ik : (k : Int) < (n : Int) := by omega
    have hk1 : k < ts.length := by have := HN.out; omega
    have hk2 : k < ws.length := by have := HN.out; have := Hl.out; omega
    obtain ⟨tg, rfl⟩ := Htg.out (by omega)
    obtain ⟨wg, rfl⟩ := Hwg.out (by omega)
    have T1 := ht.out.below Bw.out (fun g hg => (ht.out.lt g hg).2)
    have W1 := hw.out.below Bw.out (fun g hg => (hw.out.lt g hg).2)
    have ct := T1.cell k hk1
    have cw := W1.cell k hk2
    have oa := (hr.out.own k hk1).below Bw.out (fun g hg => ((hr.out.own k hk1).lt g hg).2)
    have ob := (hrw.out.own k hk2).below Bw.out (fun g hg => ((hrw.out.own k hk2).lt g hg).2)
    obtain ⟨aad, acap, hva, _⟩ := oa.shape
    obtain ⟨bad, bcap, hvb, _⟩ := ob.shape
    rw [hva] at oa ct
    rw [hvb] at ob cw
    have hxl := hln.out k
    have DA := Lib.hid (oa.drow (ha.out k) (by omega))
    have DB' := Lib.hid (ob.drow (ha.out k) (by omega))
    have c7 : wr.cell? ⟨q, 7, none⟩ = some (.slice (some ⟨wg, 0, none⟩) n wcap) := by rw [heap_cell P1.out, List.getElem?_toArray]; exact h7.out
    clear T1 W1 oa ob hva hvb
    go_upto_region 4 with fail
    clear dk dk2
    refine wp_region_held_drew (S := fun W => W.cell? ⟨q, 6, none⟩ = some (.slice (some ⟨tg, 0, none⟩) n tcap) ∧ W.cell? ⟨q, 7, none⟩ = some (.slice (some ⟨wg, 0, none⟩) n wcap) ∧ W.cell? ⟨tg, k, none⟩ = some (.slice aad (Ts k).length acap) ∧ W.cell? ⟨wg, k, none⟩ = some (.slice bad (Ts k).length bcap)) (by kernel_rfl) ⟨c6, c7, ct, cw⟩ (fun hHeld => ?_)
    refine' tQ 0 ⟨some 22, .move (.tmp 0), 66, "law.go:137", #[], none⟩ rfl (by kernel_rfl) (Or.inl ⟨by rfl, _⟩) _; rotate_left; · (intro s h; (try dsimp only at h); go_simp; try with_reducible rfl)
    try simp only [Act.put,nA,nB,nC]
    refine' tQ 1 ⟨some 23, .nilCheck (.tmp 22), 0, "law.go:137", #[⟨0, .data⟩], none⟩ rfl (by kernel_rfl) (Or.inl ⟨by rfl, _⟩) _; rotate_left; · (intro s h; (try dsimp only at h); go_simp; try with_reducible rfl)
    try simp only [Act.put,nA,nB,nC]
    refine' tQ 2 ⟨some 24, .fieldAddr 71 (.tmp 23) 2, 0, "law.go:137", #[⟨1, .data⟩], none⟩ rfl (by kernel_rfl) (Or.inl ⟨by rfl, _⟩) _; rotate_left; · (intro s h; (try dsimp only at h); go_simp; try with_reducible rfl)
    try simp only [Act.put,nA,nB,nC]
    refine' tQ 3 ⟨some 25, .load 69 (.tmp 24), 69, "law.go:137", #[⟨2, .data⟩], none⟩ rfl (by kernel_rfl) (Or.inl ⟨by rfl, _⟩) _; rotate_left; · (intro s h; (try dsimp only at h); go_simp; try with_reducible rfl)
    try simp only [Act.put,nA,nB,nC]
    refine' tQ 4 ⟨some 26, .move (.tmp 3), 3, "law.go:137", #[], none⟩ rfl (by kernel_rfl) (Or.inl ⟨by rfl, _⟩) _; rotate_left; · (intro s h; (try dsimp only at h); go_simp; try with_reducible rfl)
    try simp only [Act.put,nA,nB,nC]
    refine' tQ 5 ⟨some 27, .indexAddr 69 (.tmp 25) (.tmp 26), 0, "law.go:137", #[⟨3, .data⟩, ⟨4, .data⟩], none⟩ rfl (by kernel_rfl) (Or.inl ⟨by rfl, _⟩) _; rotate_left; · (intro s h; (try dsimp only at h); go_simp; try with_reducible rfl)
    try simp only [Act.put,nA,nB,nC]
    refine' tQ 6 ⟨some 28, .load 32 (.tmp 27), 32, "law.go:137", #[⟨5, .data⟩], none⟩ rfl (by kernel_rfl) (Or.inl ⟨by rfl, _⟩) _; rotate_left; · (intro s h; (try dsimp only at h); go_simp; try with_reducible rfl)
    try simp only [Act.put,nA,nB,nC]
    refine' tQ 7 ⟨some 29, .move (.tmp 0), 66, "law.go:137", #[], none⟩ rfl (by kernel_rfl) (Or.inl ⟨by rfl, _⟩) _; rotate_left; · (intro s h; (try dsimp only at h); go_simp; try with_reducible rfl)
    try simp only [Act.put,nA,nB,nC]
    refine' tQ 8 ⟨some 30, .nilCheck (.tmp 29), 0, "law.go:137", #[⟨7, .data⟩], none⟩ rfl (by kernel_rfl) (Or.inl ⟨by rfl, _⟩) _; rotate_left; · (intro s h; (try dsimp only at h); go_simp; try with_reducible rfl)
    try simp only [Act.put,nA,nB,nC]
    refine' tQ 9 ⟨some 31, .fieldAddr 71 (.tmp 30) 3, 0, "law.go:137", #[⟨8, .data⟩], none⟩ rfl (by kernel_rfl) (Or.inl ⟨by rfl, _⟩) _; rotate_left; · (intro s h; (try dsimp only at h); go_simp; try with_reducible rfl)
    try simp only [Act.put,nA,nB,nC]
    refine' tQ 10 ⟨some 32, .load 69 (.tmp 31), 69, "law.go:137", #[⟨9, .data⟩], none⟩ rfl (by kernel_rfl) (Or.inl ⟨by rfl, _⟩) _; rotate_left; · (intro s h; (try dsimp only at h); go_simp; try with_reducible rfl)
    try simp only [Act.put,nA,nB,nC]
    refine' tQ 11 ⟨some 33, .move (.tmp 3), 3, "law.go:137", #[], none⟩ rfl (by kernel_rfl) (Or.inl ⟨by rfl, _⟩) _; rotate_left; · (intro s h; (try dsimp only at h); go_simp; try with_reducible rfl)
    try simp only [Act.put,nA,nB,nC]
    refine' tQ 12 ⟨some 34, .indexAddr 69 (.tmp 32) (.tmp 33), 0, "law.go:137", #[⟨10, .data⟩, ⟨11, .data⟩], none⟩ rfl (by kernel_rfl) (Or.inl ⟨by rfl, _⟩) _; rotate_left; · (intro s h; (try dsimp only at h); go_simp; try with_reducible rfl)
    try simp only [Act.put,nA,nB,nC]
    refine' tQ 13 ⟨some 35, .load 32 (.tmp 34), 32, "law.go:137", #[⟨12, .data⟩], none⟩ rfl (by kernel_rfl) (Or.inl ⟨by rfl, _⟩) _; rotate_left; · (intro s h; (try dsimp only at h); go_simp; try with_reducible rfl)
    try simp only [Act.put,nA,nB,nC]
    refine wpAnyH_ready (rs := [14]) (by kernel_rfl) (by simp) ?_
    refine AllReadyH.cons (o := ⟨some 36, .call ⟨.value (.func 71), #[.tmp 28, .tmp 35], #[32, 32]⟩, 4, "law.go:137", #[⟨6, .data⟩, ⟨13, .data⟩], none⟩) rfl (fun K hK => ?_) AllReadyH.nil
    (go_simp; (go_at_call 71; refine (Same_any _ _ (Ts k) wr.drew _ _ DA DB').mono ?_; rintro e w2 ⟨rfl, b2'⟩; have b2 : Below wr.heap.size wr w2 := Below.trans (Below.refl _ _).drew b2'))
    refine hK.out _ _ ?_ (fun hHeld => ?_)
    ·exact ⟨cellB b2 (by have := heap_lt P1.out; omega) hHeld.1, cellB b2 (by have := heap_lt P1.out; omega) hHeld.2.1, cellB b2 (World.block_lt_of_cell? _ _ ct) hHeld.2.2.1, cellB b2 (World.block_lt_of_cell? _ _ cw) hHeld.2.2.2⟩
    clear hK K
    try simp only [Act.put,nA,nB,nC]
    refine' tQ 15 ⟨some 37, .unOp .not 4 (.tmp 36), 4, "law.go:137", #[⟨14, .data⟩], none⟩ rfl (by kernel_rfl) (Or.inl ⟨by rfl, _⟩) _; rotate_left; · (intro s h; (try dsimp only at h); go_simp; try with_reducible rfl)
    try simp only [Act.put,nA,nB,nC]
    refine wpAnyH_done (by kernel_rfl) ?_ _
    have B2 := Lib.hid (Bw.out.trans (b2.mono Bw.out.size))
    clear hHeld ct cw c6 c7 P1 DA DB' b2 b2' Bw
    go_wp2_with fail
    exact ⟨⟨k + 1, by omega, B2, by go_num⟩, by simp [intOf]; omega⟩
  case neg =>
   have dk : decide (k < n) = false := decide_eq_false hlt
   have dk2 : decide ((k : Int) < (n : Int)) = false := decide_eq_false (by omega)
   have T1 := Lib.hid (ht.out.below Bw.out (fun g hg => (ht.out.lt g hg).2))
   have R1 : Hid (Rows wr B ts Ts) := ⟨fun j hj => (hr.out.own j hj).below Bw.out (fun g hg => ((hr.out.own j hj).lt g hg).2)⟩
   have hBw : B ≤ wr.heap.size := by have := Bw.out.size; omega
   have HM0 := Lib.hid (Mod.of (fun k => InRows ts k) Bw.out)
   clear ht hr hw hrw hp
   go_upto_region 7 with fail
   clear dk dk2 c6
   obtain ⟨w1, hw1⟩ : ∃ W, wr = W := ⟨_, rfl⟩
   rw [hw1] at P1 T1 R1 hBw HM0 ⊢
   clear hw1 Bw
   go_loopw [4] (fun i wr => ∃ (k : Nat), k ≤ n ∧ Hid (Rows wr B ts (markY Ts k 0)) ∧ Hid (Mod (fun k => InRows ts k) w1 wr) ∧ i = .int .i64 (k : Int)) (fun i _ => n - (intOf i).toNat)
   case atStart => exact ⟨0, Nat.zero_le _, ⟨fun j hj => by rw [markY_start]; exact R1.out.own j hj⟩, Mod.refl _ _, rfl⟩
   case round =>
    obtain ⟨i, hi, Ri, Mi, rfl⟩ := hrel
    have P2 : Hid (WH wr q cs) := Mi.out.heap P1.out (fun e => (htq.out q e).1 rfl)
    have c6 : wr.cell? ⟨q, 6, none⟩ = some (.slice tad n tcap) := by rw [heap_cell P2.out, List.getElem?_toArray]; exact h6.out
    by_cases hlt : i < n
    case pos =>
     have dk : decide (i < n) = true := decide_eq_true hlt
     have dk2 : decide ((i : Int) < (n : Int)) = true := decide_eq_true (by omega)
     have hi1 : i < ts.length := by have := HN.out; omega
     obtain ⟨tg, rfl⟩ := Htg.out (by omega)
     obtain ⟨m, hm⟩ : ∃ m, (Ts i).length = m := ⟨_, rfl⟩
     have hYl : ∀ k, k ≤ m → (markY Ts i k i).length = m := fun k hk => by rw [markY_len Ts i k i (by rw [hm]; exact hk), hm]
     have HYl := Lib.hid hYl
     have hmx : m ≤ 1048576 := by have := hln.out i; omega
     obtain ⟨ai, ci, hvi, hgi⟩ := (Ri.out.own i hi1).shape
     rw [hYl 0 (Nat.zero_le _)] at hvi hgi
     have HVi := Lib.hid hvi
     have HGi := Lib.hid hgi
     have Hm := Lib.hid hm
     have ct : ∀ W, Mod (fun k => InRows ts k) w1 W → W.cell? ⟨tg, i, none⟩ = some (.slice ai m ci) := fun W mm => by
      rw [← HVi.out]
      exact (T1.out.mod mm (fun k hk e => (htq.out k e).2 hk)).cell i hi1
     have HCt := Lib.hid ct
     clear hYl hvi hgi hm ct
     go_upto_region 10 with fail
     clear dk dk2 P2 c6
     obtain ⟨w2, hw2⟩ : ∃ W, wr = W := ⟨_, rfl⟩
     rw [hw2] at Ri Mi ⊢
     clear hw2
     go_loopw [5] (fun kv wr => ∃ (k : Nat), k ≤ m ∧ Hid (Rows wr B ts (markY Ts i k)) ∧ Hid (Mod (fun k => InRows ts k) w1 wr) ∧ kv = .int .i64 (k : Int)) (fun kv _ => m - (intOf kv).toNat)
     case atStart => exact ⟨0, Nat.zero_le _, Ri, Mi, rfl⟩
     case round =>
      obtain ⟨k, hk, Rk, Mk, rfl⟩ := hrel
      have P2 : Hid (WH wr q cs) := Mk.out.heap P1.out (fun e => (htq.out q e).1 rfl)
      have c6 : wr.cell? ⟨q, 6, none⟩ = some (.slice (some ⟨tg, 0, none⟩) n tcap) := by rw [heap_cell P2.out, List.getElem?_toArray]; exact h6.out
      have cti := HCt.out wr Mk.out
      have ii : (i : Int) < (n : Int) := by omega
      by_cases hlt2 : k < m
      case pos =>
       as_aux_lemma =>
        have dk : decide (k < m) = true := decide_eq_true hlt2
        have dk2 : decide ((k : Int) < (m : Int)) = true := decide_eq_true (by omega)
        have ik : (k : Int) < (m : Int) := by omega
        obtain ⟨gi, rfl⟩ := HGi.out (by omega)
        have oi := Rk.out.own i hi1
        rw [HVi.out] at oi
        have Oi := Lib.hid oi
        have hkl : k < (markY Ts i k i).length := by rw [HYl.out k hk]; exact hlt2
        have cv := wrapM i
        have cv2 := wrapMd i
        clear oi
        go_upto_region 12 with fail
        clear dk dk2
        with_reducible refine wp_region_list ?_
        iterate 13
         (with_reducible refine wpList_plain rfl ?_); intro K hK; go_simp; (with_reducible refine hK _ _ ?_); clear hK K; try simp only [Act.put,nA,nB,nC]
        refine wpList_built rfl 23 _ rfl _ (by simp; exact ⟨rfl, rfl, rfl⟩) _ (built_mkB 1 i) ?_
        try simp only [Act.put,nA,nB,nC]
        (with_reducible refine wpList_plain rfl ?_); intro K hK; go_simp; (with_reducible refine hK _ _ ?_); clear hK K; try simp only [Act.put,nA,nB,nC]
        set_option maxRecDepth 20000 in
        refine wpList_storeR rfl _ _ rfl Oi.out (markY_all (ha.out i)) k hkl rfl (mkB 1 i) (mkB_len 1 i) rfl ?_
        intro w3 o3 k3 z3
        try simp only [Act.put,nA,nB,nC]
        have hkm : k < (Ts i).length := by rw [Hm.out]; exact hlt2
        rw [markY_set Ts i k hkm] at o3
        have m3 : Mod (fun k => k = gi) wr w3 := Mod.kept k3 rfl
        have R3 : Hid (Rows w3 B ts (markY Ts i (k + 1))) := ⟨fun j hj => by
         by_cases e : j = i
         ·subst e; rw [HVi.out]; exact o3
         ·rw [markY_other Ts i k j e]
          exact (Rk.out.own j hj).mod m3 (fun g hg e2 => hap.out i j hi1 hj (fun h => e h.symm) gi (by rw [HVi.out]; rfl) (by rw [← e2]; exact hg))⟩
        have M3 : Hid (Mod (fun k => InRows ts k) w1 w3) := Mk.out.then (m3.mono (fun k hk e => ⟨i, hi1, by rw [HVi.out, e]; rfl⟩))
        clear o3 k3 z3 m3 Oi Rk Mk P2 c6 cti cv cv2 hkm hkl
        go_wp2_with fail
        exact ⟨⟨k + 1, by omega, R3, M3, by go_num⟩, by simp [intOf]; omega⟩
      case neg =>
       have dk : decide (k < m) = false := decide_eq_false hlt2
       have dk2 : decide ((k : Int) < (m : Int)) = false := decide_eq_false (by omega)
       have R3 : Hid (Rows wr B ts (markY Ts (i + 1) 0)) := ⟨fun j hj => by
        have e : k = (Ts i).length := by rw [Hm.out]; omega
        rw [← markY_next Ts i j, ← e]
        exact Rk.out.own j hj⟩
       go_wp2_with fail
       exact ⟨⟨i + 1, by omega, R3, Mk, by go_num⟩, by simp [intOf]; omega⟩
    case neg =>
     have dk : decide (i < n) = false := decide_eq_false hlt
     have dk2 : decide ((i : Int) < (n : Int)) = false := decide_eq_false (by omega)
     have R3 : Hid (∀ j (hj : j < ts.length), OwnR wr B ts[j] (List.replicate (Ts j).length (mkB 1 j))) := fun j hj => by
      have h1 := Ri.out.own j hj
      rw [markY_end Ts i j (by have := HN.out; omega)] at h1
      exact h1
     have T3 : Hid (OwnW wr B (.slice tad n tcap) ts) := T1.out.mod Mi.out (fun k hk e => (htq.out k e).2 hk)
     have M3 := Lib.hid (HM0.out.then Mi.out)
     have hBw3 : B ≤ wr.heap.size := by have := Mi.out.size; omega
     go_upto_region 15 with fail
     clear dk dk2 c6
     clear T1 R1 HM0 P1 Ri Mi hBw
     obtain ⟨w3, hw3⟩ : ∃ W, wr = W := ⟨_, rfl⟩
     rw [hw3] at P2 T3 R3 M3 hBw3 ⊢
     clear hw3
     obtain ⟨z3, hz3⟩ : ∃ z, w3.heap.size = z := ⟨_, rfl⟩
     go_loopw [6, 7] (fun lg iv wr => ∃ (i : Nat) (vs : List Value), i ≤ n ∧ vs.length = i ∧ Hid (LS wr B z3 lg ts vs Ts i) ∧ Hid (Mod (fun k => InRows ts k) w3 wr) ∧ iv = .int .i64 (i : Int)) (fun _ iv _ => n - (intOf iv).toNat)
     case atStart => exact ⟨0, [], Nat.zero_le _, rfl, LS.start R3.out (by omega), Mod.refl _ _, rfl⟩
     case round =>
      obtain ⟨i, vs, hi, hvs, Li, Mi, rfl⟩ := hrel
      have P3 : Hid (WH wr q cs) := Mi.out.heap P2.out (fun e => (htq.out q e).1 rfl)
      have c6 : wr.cell? ⟨q, 6, none⟩ = some (.slice tad n tcap) := by rw [heap_cell P3.out, List.getElem?_toArray]; exact h6.out
      by_cases hlt : i < n
      case pos =>
       as_aux_lemma =>
        have dk : decide (i < n) = true := decide_eq_true hlt
        have dk2 : decide ((i : Int) < (n : Int)) = true := decide_eq_true (by omega)
        have ii : (i : Int) < (n : Int) := by omega
        have hi1 : i < ts.length := by have := HN.out; omega
        obtain ⟨tg, rfl⟩ := Htg.out (by omega)
        have ct := (T3.out.mod Mi.out (fun k hk e => (htq.out k e).2 hk)).cell i hi1
        obtain ⟨m, hm⟩ : ∃ m, (Ts i).length = m := ⟨_, rfl⟩
        have hmx : m ≤ 1048576 := by have := hln.out i; omega
        have o0 := Li.out.rest i hi1 (Nat.le_refl _)
        rw [hm] at o0
        obtain ⟨t0, ht0⟩ : ∃ t, ts[i] = t := ⟨_, rfl⟩
        rw [ht0] at ct o0
        have Ht0 := Lib.hid ht0
        have Hm := Lib.hid hm
        have O0 := Lib.hid o0
        have RD0 := Lib.hid (o0.rd (all_mk1 m i))
        have hBr : B ≤ wr.heap.size := by have := Mi.out.size; omega
        have Ht0z : Hid (∀ k, t0.ownBlock = some k → k < z3) := fun k hk => by
         have := (R3.out i hi1).lt k (by rw [Ht0.out]; exact hk)
         omega
        clear ht0 hm o0
        go_upto_region 19 with fail
        clear dk dk2 c6 ct
        obtain ⟨w4, hw4⟩ : ∃ W, wr = W := ⟨_, rfl⟩
        rw [hw4] at P3 Li Mi O0 RD0 hBr ⊢
        clear hw4
        obtain ⟨z4, hz4⟩ : ∃ z, w4.heap.size = z := ⟨_, rfl⟩
        have HZ4 : Hid (z3 ≤ z4) := by show z3 ≤ z4; have := Mi.out.size; omega
        have cv := wrapM i
        have cv2 := wrapMd i
        go_loopw [8, 9] (fun l kv wr => ∃ (c : Nat), c ≤ 40 ∧ Hid (OwnR wr B l (List.replicate m (mkB 1 i) ++ List.replicate c (mkB 2 i))) ∧ Hid (RD wr t0 (List.replicate m (mkB 1 i))) ∧ Hid (Mod (fun k => t0.ownBlock = some k) w4 wr) ∧ Hid (∀ g, l.ownBlock = some g → t0.ownBlock = some g ∨ z4 ≤ g) ∧ kv = .int .i64 (c : Int)) (fun _ kv _ => 40 - (intOf kv).toNat)
        case atStart => exact ⟨0, by omega, by simpa using O0, RD0, Mod.refl _ _, fun g hg => .inl hg, rfl⟩
        case round =>
         obtain ⟨c, hc, Oc, RDc, Mc, Lc, rfl⟩ := hrel
         by_cases hlt2 : c < 40
         case pos =>
          have dk : decide (c < 40) = true := decide_eq_true hlt2
          have dk2 : decide ((c : Int) < 40) = true := decide_eq_true (by omega)
          obtain ⟨lad, lcap, hlv, _⟩ := Oc.out.shape
          obtain ⟨X, hX⟩ : ∃ X, List.replicate m (mkB 1 i) ++ List.replicate c (mkB 2 i) = X := ⟨_, rfl⟩
          have hXn : List.replicate m (mkB 1 i) ++ List.replicate (c + 1) (mkB 2 i) = X ++ [mkB 2 i] := by rw [← hX, List.replicate_succ', List.append_assoc]
          have hXl : X.length = m + c := by rw [← hX]; simp
          have hXa : All32 X := by rw [← hX]; exact all_mk m c i
          rw [hX] at Oc hlv
          obtain ⟨xl, hxl⟩ : ∃ x, X.length = x := ⟨_, rfl⟩
          rw [hxl] at hlv hXl
          have HX := Lib.hid hX
          have HXn := Lib.hid hXn
          have HXa := Lib.hid hXa
          have Hxl := Lib.hid hxl
          obtain ⟨y, hy⟩ : ∃ y, wr.heap.size = y := ⟨_, rfl⟩
          have Hy := Lib.hid hy
          have hzz : z4 ≤ y := by have := Mc.out.size; omega
          have hByy : B ≤ y := by omega
          have HXl := Lib.hid hXl
          clear hX hXn hXa hxl hy hXl
          subst hlv
          go_upto_region 21 with fail
          clear dk dk2
          with_reducible refine wp_region_list ?_
          iterate 6
           (with_reducible refine wpList_plain rfl ?_); intro K hK; go_simp; (with_reducible refine hK _ _ ?_); clear hK K; try simp only [Act.put,nA,nB,nC]
          refine wpList_built rfl 23 _ rfl _ (by simp; exact ⟨rfl, rfl, rfl⟩) _ (built_mkB 2 i) ?_
          try simp only [Act.put,nA,nB,nC]
          refine wpList_plain rfl (fun K hK => ?_)
          refine wp_slice1 _ rfl (mkB 2 i) (mkB_len 2 i) rfl y Hy.out ?_
          intro w5 e5 b5 z5
          refine hK _ _ ?_
          clear hK K
          try simp only [Act.put,nA,nB,nC]
          have hb5 : Below wr.heap.size wr w5 := by rw [Hy.out]; exact b5
          have O5 := Lib.hid (Oc.out.below hb5 (fun g hg => (Oc.out.lt g hg).2))
          have RD5 := Lib.hid (RDc.out.mod (Mod.of (fun _ => False) hb5) (fun _ _ h => h))
          have M5 := Lib.hid (Mc.out.then (Mod.of _ hb5))
          have hz5 : y ≤ w5.heap.size := by have := hb5.size; have := Hy.out; omega
          refine wpList_appRk w5 rfl (mkB 2 i) (mkB_len 2 i) _ _ rfl B _ X rfl O5.out HXa.out y 1 rfl e5 (by rw [Hxl.out]; have := HXl.out; omega) (by omega) ?_
          intro g6 cap6 w6 o6 hc6
          try simp only [Act.put,nA,nB,nC]
          rw [Hxl.out] at o6 ⊢
          have hw6 : w5.heap.size ≤ w6.heap.size := hc6.elim (fun h => h.2.size) (fun h => h.2.size)
          have M6 : Hid (Mod (fun k => t0.ownBlock = some k) w4 w6) := hc6.elim (fun h => M5.out.trans h.2 (fun k hk e => by
            rw [e]
            exact (Lc.out g6 h.1).elim id (fun h2 => by omega))) (fun h => M5.out.then (Mod.of _ h.2))
          have L6 : Hid (∀ g, (Value.slice (some ⟨g6, 0, none⟩) (xl + 1) cap6).ownBlock = some g → t0.ownBlock = some g ∨ z4 ≤ g) := fun g hg => by
           obtain rfl : g6 = g := Option.some.inj hg
           exact hc6.elim (fun h => Lc.out g6 h.1) (fun h => .inr (by omega))
          have O6 : Hid (OwnR w6 B (.slice (some ⟨g6, 0, none⟩) (xl + 1) cap6) (List.replicate m (mkB 1 i) ++ List.replicate (c + 1) (mkB 2 i))) := by show OwnR _ _ _ _; rw [HXn.out]; exact o6
          have RD6 : Hid (RD w6 t0 (List.replicate m (mkB 1 i))) := RD5.out.grown (by exact O6.out) (fun d hd => by rw [(List.mem_replicate.1 hd).2]; rfl) (hc6.elim (fun h => (Lc.out g6 h.1).elim (fun h2 => .inl (fun k hk => Option.some.inj (hk.symm.trans h2))) (fun h2 => .inr (fun k hk hkl => h.2.block k hkl (fun e => by have := Ht0z.out k hk; have := HZ4.out; omega)))) (fun h => .inr (fun k hk hkl => h.2.block k hkl))) hw6
          clear o6 hc6 O5 RD5 M5 e5 b5 hb5 Oc RDc Mc Lc
          (with_reducible refine wpList_plain rfl ?_); intro K hK; go_simp; (with_reducible refine hK _ _ ?_); clear hK K; try simp only [Act.put,nA,nB,nC]
          go_wp2_with fail
          exact ⟨⟨c + 1, by omega, O6, RD6, M6, L6, by go_num⟩, by simp [intOf]; omega⟩
         case neg =>
          have hc40 : c = 40 := by omega
          subst hc40
          have dk : decide (40 < 40) = false := by decide
          have dk2 : decide ((40 : Int) < 40) = false := by decide
          have cz : wr.heap.size = wr.heap.size := rfl
          obtain ⟨lad, lcap, hlv, hlg⟩ := Oc.out.shape
          obtain ⟨xl, hxl⟩ : ∃ x, (List.replicate m (mkB 1 i) ++ List.replicate 40 (mkB 2 i)).length = x := ⟨_, rfl⟩
          rw [hxl] at hlv
          clear hlg cz
          subst hlv
          have Hxl := Lib.hid hxl
          clear hxl
          obtain ⟨gad, gcap, hgv, _⟩ := Li.out.long.shape
          rw [hvs] at hgv
          subst hgv
          go_upto_region 22 with fail
          clear dk dk2
          have hz6 : z4 ≤ wr.heap.size := by have := Mc.out.size; omega
          have hgz : ∀ g, (Value.slice gad i gcap).ownBlock = some g → z3 ≤ g ∧ g < z4 := fun g hg => ⟨(Li.out.lb g hg).1, by have := (Li.out.long.lt g hg).2; omega⟩
          have OL := Li.out.long.mod Mc.out (fun g hg e => by have := hgz g hg; have := Ht0z.out g e; omega)
          with_reducible refine wp_region_list ?_
          iterate 3
           (with_reducible refine wpList_plain rfl ?_); intro K hK; go_simp; (with_reducible refine hK _ _ ?_); clear hK K; try simp only [Act.put,nA,nB,nC]
          refine wpList_appW1 wr 32 _ rfl rfl _ _ rfl B (.slice gad i gcap) vs rfl OL _ rfl (by rw [hvs]; omega) (by omega) ?_
          intro v7 w7 o7 m7 n7
          try simp only [Act.put,nA,nB,nC]
          have hv1 : (vs ++ [Value.slice lad xl lcap]).length = i + 1 := by rw [List.length_append, hvs]; rfl
          have L7 : Hid (LS w7 B z3 v7 ts (vs ++ [Value.slice lad xl lcap]) Ts (i + 1)) := ls_next Li.out hap.out Ht0.out Hm.out Mc.out (by have := HZ4.out; omega) hz4 hvs Lc.out Oc.out RDc.out o7 m7 n7 Ht0z.out (fun j hj k hk => by have := (R3.out j hj).lt k hk; omega)
          have M7 : Hid (Mod (fun k => InRows ts k) w3 w7) := (Mi.out.trans (Mc.out.mono (fun k hk e => ⟨i, hi1, by rw [Ht0.out]; exact e⟩)) (fun k hk e => e)).trans m7 (fun k hk e => by have := (Li.out.lb k e).1; omega)
          clear o7 m7 n7 OL hgz Li Mc Oc RDc Lc
          (with_reducible refine wpList_plain rfl ?_); intro K hK; go_simp; (with_reducible refine hK _ _ ?_); clear hK K; try simp only [Act.put,nA,nB,nC]
          go_wp2_with fail
          exact ⟨⟨i + 1, _, by omega, hv1, L7, M7, by go_num⟩, by simp [intOf]; omega⟩
      case neg =>
       have dk : decide (i < n) = false := decide_eq_false hlt
       have dk2 : decide ((i : Int) < (n : Int)) = false := decide_eq_false (by omega)
       have hin : i = n := by omega
       subst hin
       have T4 : Hid (OwnW wr B (.slice tad i tcap) ts) := T3.out.mod Mi.out (fun k hk e => (htq.out k e).2 hk)
       have M4 := Lib.hid (M3.out.then Mi.out)
       obtain ⟨gad, gcap, hgv, hgg⟩ := Li.out.long.shape
       rw [hvs] at hgv hgg
       subst hgv
       have Hgg := Lib.hid hgg
       have Hvs := Lib.hid hvs
       clear hgg hvs
       go_upto_region 24 with fail
       clear dk dk2 c6 M3 Mi T3 R3 P2
       obtain ⟨w4, hw4⟩ : ∃ W, wr = W := ⟨_, rfl⟩
       rw [hw4] at P3 Li T4 M4 ⊢
       clear hw4
       go_loopw [10] (fun iv wr => ∃ (k : Nat), k ≤ i ∧ Hid (Below w4.heap.size w4 wr) ∧ iv = .int .i64 (k : Int)) (fun iv _ => i - (intOf iv).toNat)
       case atStart => exact ⟨0, Nat.zero_le _, Below.refl _ _, rfl⟩
       case round =>
        obtain ⟨j, hj, Bj, rfl⟩ := hrel
        have P4 : Hid (WH wr q cs) := heap_below P3.out Bj.out (heap_lt P3.out)
        have c6 : wr.cell? ⟨q, 6, none⟩ = some (.slice tad i tcap) := by rw [heap_cell P4.out, List.getElem?_toArray]; exact h6.out
        by_cases hlt3 : j < i
        case pos =>
         as_aux_lemma =>
          have dk : decide (j < i) = true := decide_eq_true hlt3
          have dk2 : decide ((j : Int) < (i : Int)) = true := decide_eq_true (by omega)
          have ii : (j : Int) < (i : Int) := by omega
          have hj1 : j < ts.length := by have := HN.out; omega
          have hj2 : j < vs.length := by have := Hvs.out; omega
          obtain ⟨tg, rfl⟩ := Htg.out (by omega)
          obtain ⟨lg, rfl⟩ := Hgg.out (by omega)
          have ct := (T4.out.below Bj.out (fun g hg => (T4.out.lt g hg).2)).cell j hj1
          have cl := (Li.out.long.below Bj.out (fun g hg => (Li.out.long.lt g hg).2)).cell j hj2
          obtain ⟨m, hm⟩ : ∃ m, (Ts j).length = m := ⟨_, rfl⟩
          have hmx : m ≤ 1048576 := by have := hln.out j; omega
          have G4 := Li.out.done' j hlt3 hj2 hj1
          rw [hm] at G4
          obtain ⟨ta, tc, htv, htr⟩ := G4.told
          obtain ⟨la, lc, hlv, hlr⟩ := G4.long.shape
          have hlm : (List.replicate m (mkB 1 j) ++ List.replicate 40 (mkB 2 j)).length = m + 40 := by simp
          have hlt' : (List.replicate m (mkB 1 j)).length = m := by simp
          rw [hlm] at hlv hlr
          rw [hlt'] at htv
          obtain ⟨xl, hxl⟩ : ∃ x, m + 40 = x := ⟨_, rfl⟩
          rw [hxl] at hlv hlr
          obtain ⟨gl, rfl⟩ := hlr (by omega)
          rw [htv] at ct
          rw [hlv] at cl
          have HRt : Hid (∀ k, k < m → ∃ g, ta = some ⟨g, 0, none⟩ ∧ w4.rangeAt g (k * 32) ((mkB 1 j).map bv) ∧ g < w4.heap.size) := fun k hk => by
           obtain ⟨g, e, hgl, hr⟩ := htr (by rw [hlt']; omega)
           have h1 := hr k (by rw [hlt']; exact hk)
           rw [List.getElem_replicate] at h1
           exact ⟨g, e, h1, hgl⟩
          have hlo := G4.long
          rw [hlv] at hlo
          have HRl : Hid (∀ k, k < m → w4.rangeAt gl (k * 32) ((mkB 1 j).map bv)) := fun k hk => by
           have h1 := hlo.range (all_mk m 40 j) k (by rw [hlm]; omega)
           rw [List.getElem_append_left (by rw [hlt']; exact hk), List.getElem_replicate] at h1
           exact h1
          have HRm : Hid (∀ k, m ≤ k → k < xl → w4.rangeAt gl (k * 32) ((mkB 2 j).map bv)) := fun k hk hk2 => by
           have h1 := hlo.range (all_mk m 40 j) k (by rw [hlm]; omega)
           rw [List.getElem_append_right (by rw [hlt']; exact hk), List.getElem_replicate] at h1
           exact h1
          have Hgl : Hid (gl < w4.heap.size) := (hlo.lt gl rfl).2
          have hxb : xl ≤ 1048616 := by omega
          have Hxl := Lib.hid hxl
          clear hm G4 htv htr hlv hlr hlm hlt' hlo hxl
          have Hct := Lib.hid ct
          have Hcl := Lib.hid cl
          go_upto_region 28 with fail
          clear dk dk2
          clear c6 ct cl
          obtain ⟨w5, hw5⟩ : ∃ W, wr = W := ⟨_, rfl⟩
          rw [hw5] at P4 Bj Hct Hcl ⊢
          clear hw5
          go_loopw [12] (fun kv wr => ∃ (k : Nat), k ≤ xl ∧ Hid (Below w5.heap.size w5 wr) ∧ kv = .int .i64 (k : Int)) (fun kv _ => xl - (intOf kv).toNat)
          case atStart => exact ⟨0, Nat.zero_le _, Below.refl _ _, rfl⟩
          case round =>
           obtain ⟨k, hk, Bk, rfl⟩ := hrel
           have P5 : Hid (WH wr q cs) := heap_below P4.out Bk.out (heap_lt P4.out)
           have c6 : wr.cell? ⟨q, 6, none⟩ = some (.slice (some ⟨tg, 0, none⟩) i tcap) := by rw [heap_cell P5.out, List.getElem?_toArray]; exact h6.out
           have ct := cellB Bk.out (World.block_lt_of_cell? _ _ Hct.out) Hct.out
           have cl := cellB Bk.out (World.block_lt_of_cell? _ _ Hcl.out) Hcl.out
           have hw45 : w4.heap.size ≤ w5.heap.size := Bj.out.size
           by_cases hlt4 : k < xl
           case pos =>
            as_aux_lemma =>
             have dk : decide (k < xl) = true := decide_eq_true hlt4
             have dk2 : decide ((k : Int) < (xl : Int)) = true := decide_eq_true (by omega)
             have ik : (k : Int) < (xl : Int) := by omega
             have cv := wrapM j
             have cv2 := wrapMd j
             have B5 := Lib.hid (Bj.out.trans (Bk.out.mono hw45))
             by_cases hkm : k < m
             case pos =>
              have d3 : decide (k < m) = true := decide_eq_true hkm
              have d4 : decide ((k : Int) < (m : Int)) = true := decide_eq_true (by omega)
              have d5 : decide (m ≤ k) = false := decide_eq_false (by omega)
              have d6 : decide ((m : Int) ≤ (k : Int)) = false := decide_eq_false (by omega)
              have ik2 : (k : Int) < (m : Int) := by omega
              obtain ⟨gt, rfl, rt, hgt⟩ := HRt.out k hkm
              have rl := HRl.out k hkm
              have rt5 := range_block rt (B5.out.block gt hgt)
              have rl5 := range_block rl (B5.out.block gl Hgl.out)
              have hq := neD (mkB 1 j) (mkB 1 j) rfl rfl
              rw [beq_self_eq_true] at hq
              have hqg := neGuardD (mkB 1 j) (mkB 1 j)
              clear rt rl
              go_upto_region 30 with fail
              clear dk dk2
              refine wp_region_held_drew (S := fun W => W.cell? ⟨lg, j, none⟩ = some (.slice (some ⟨gl, 0, none⟩) xl lc) ∧ W.cell? ⟨q, 6, none⟩ = some (.slice (some ⟨tg, 0, none⟩) i tcap) ∧ W.cell? ⟨tg, j, none⟩ = some (.slice (some ⟨gt, 0, none⟩) m tc) ∧ W.rangeAt gl (k * 32) ((mkB 1 j).map bv) ∧ W.rangeAt gt (k * 32) ((mkB 1 j).map bv)) (by kernel_rfl) ⟨cl, c6, ct, rl5, rt5⟩ (fun hHeld => ?_)
              refine' tQ 0 ⟨some 133, .move (.tmp 12), 3, "law.go:157", #[], none⟩ rfl (by kernel_rfl) (Or.inl ⟨by rfl, _⟩) _; rotate_left; · (intro s h; (try dsimp only at h); go_simp; try with_reducible rfl)
              try simp only [Act.put,nA,nB,nC]
              refine' tQ 1 ⟨some 134, .move (.tmp 11), 3, "law.go:157", #[], none⟩ rfl (by kernel_rfl) (Or.inl ⟨by rfl, _⟩) _; rotate_left; · (intro s h; (try dsimp only at h); go_simp; try with_reducible rfl)
              try simp only [Act.put,nA,nB,nC]
              refine' tQ 2 ⟨some 135, .binOp .lss 3 (.tmp 133) (.tmp 134) 3, 4, "law.go:157", #[⟨0, .data⟩, ⟨1, .data⟩], none⟩ rfl (by kernel_rfl) (Or.inl ⟨by rfl, _⟩) _; rotate_left; · (intro s h; (try dsimp only at h); go_simp; try with_reducible rfl)
              try simp only [Act.put,nA,nB,nC]
              refine' tQ 3 ⟨some 136, .move (.tmp 135), 4, "law.go:157", #[⟨2, .data⟩], none⟩ rfl (by kernel_rfl) (Or.inl ⟨by rfl, _⟩) _; rotate_left; · (intro s h; (try dsimp only at h); go_simp; try with_reducible rfl)
              try simp only [Act.put,nA,nB,nC]
              refine' tQ 4 ⟨some 137, .move (.tmp 6), 69, "law.go:157", #[⟨3, .guard⟩], some (3, true)⟩ rfl (by kernel_rfl) (Or.inl ⟨by rfl, _⟩) _; rotate_left; · (intro s h; (try dsimp only at h); go_simp; try with_reducible rfl)
              try simp only [Act.put,nA,nB,nC]
              refine' tQ 5 ⟨some 138, .move (.tmp 10), 3, "law.go:157", #[⟨3, .guard⟩], some (3, true)⟩ rfl (by kernel_rfl) (Or.inl ⟨by rfl, _⟩) _; rotate_left; · (intro s h; (try dsimp only at h); go_simp; try with_reducible rfl)
              try simp only [Act.put,nA,nB,nC]
              refine' tQ 6 ⟨some 139, .indexAddr 69 (.tmp 137) (.tmp 138), 0, "law.go:157", #[⟨4, .data⟩, ⟨5, .data⟩, ⟨3, .guard⟩], some (3, true)⟩ rfl (by kernel_rfl) (Or.inl ⟨by rfl, _⟩) _; rotate_left; · (intro s h; (try dsimp only at h); go_simp; try with_reducible rfl)
              try simp only [Act.put,nA,nB,nC]
              refine' tQ 7 ⟨some 140, .load 32 (.tmp 139), 32, "law.go:157", #[⟨6, .data⟩, ⟨3, .guard⟩], some (3, true)⟩ rfl (by kernel_rfl) (Or.inl ⟨by rfl, _⟩) _; rotate_left; · (intro s h; (try dsimp only at h); go_simp; try with_reducible rfl)
              try simp only [Act.put,nA,nB,nC]
              refine' tQ 8 ⟨some 141, .move (.tmp 12), 3, "law.go:157", #[⟨3, .guard⟩], some (3, true)⟩ rfl (by kernel_rfl) (Or.inl ⟨by rfl, _⟩) _; rotate_left; · (intro s h; (try dsimp only at h); go_simp; try with_reducible rfl)
              try simp only [Act.put,nA,nB,nC]
              refine' tQ 9 ⟨some 142, .indexAddr 32 (.tmp 140) (.tmp 141), 0, "law.go:157", #[⟨7, .data⟩, ⟨8, .data⟩, ⟨3, .guard⟩], some (3, true)⟩ rfl (by kernel_rfl) (Or.inl ⟨by rfl, _⟩) _; rotate_left; · (intro s h; (try dsimp only at h); go_simp; try with_reducible rfl)
              try simp only [Act.put,nA,nB,nC]
              refine' tQ 10 ⟨some 143, .load 23 (.tmp 142), 23, "law.go:157", #[⟨9, .data⟩, ⟨3, .guard⟩], some (3, true)⟩ rfl (by kernel_rfl) (yieldsIf_loadRng (by rfl) _ rfl gl (k * 32) rfl (mkB 1 j) (mkB_len 1 j) (fun W hW => hW.2.2.2.1)) _
              try simp only [Act.put,nA,nB,nC]
              refine' tQ 11 ⟨some 144, .move (.tmp 10), 3, "law.go:157", #[⟨3, .guard⟩], some (3, true)⟩ rfl (by kernel_rfl) (Or.inl ⟨by rfl, _⟩) _; rotate_left; · (intro s h; (try dsimp only at h); go_simp; try with_reducible rfl)
              try simp only [Act.put,nA,nB,nC]
              refine' tQ 12 ⟨some 145, .convert 3 5 (.tmp 144), 5, "law.go:157", #[⟨11, .data⟩, ⟨3, .guard⟩], some (3, true)⟩ rfl (by kernel_rfl) (Or.inl ⟨by rfl, _⟩) _; rotate_left; · (intro s h; (try dsimp only at h); go_simp; try with_reducible rfl)
              try simp only [Act.put,nA,nB,nC]
              refine' tQ 13 ⟨some 146, .move (.tmp 10), 3, "law.go:157", #[⟨3, .guard⟩], some (3, true)⟩ rfl (by kernel_rfl) (Or.inl ⟨by rfl, _⟩) _; rotate_left; · (intro s h; (try dsimp only at h); go_simp; try with_reducible rfl)
              try simp only [Act.put,nA,nB,nC]
              refine' tQ 14 ⟨some 147, .binOp .shr 3 (.tmp 146) (.const (.int .u64 8)) 117, 3, "law.go:157", #[⟨13, .data⟩, ⟨3, .guard⟩], some (3, true)⟩ rfl (by kernel_rfl) (Or.inl ⟨by rfl, _⟩) _; rotate_left; · (intro s h; (try dsimp only at h); go_simp; try with_reducible rfl)
              try simp only [Act.put,nA,nB,nC]
              refine' tQ 15 ⟨some 148, .convert 3 5 (.tmp 147), 5, "law.go:157", #[⟨14, .data⟩, ⟨3, .guard⟩], some (3, true)⟩ rfl (by kernel_rfl) (Or.inl ⟨by rfl, _⟩) _; rotate_left; · (intro s h; (try dsimp only at h); go_simp; try with_reducible rfl)
              try simp only [Act.put,nA,nB,nC]
              refine' tQ 16 ⟨some 149, .build 23 #[(0, .const (.int .u8 1)), (1, .tmp 145), (2, .tmp 148)], 23, "law.go:157", #[⟨12, .data⟩, ⟨15, .data⟩, ⟨3, .guard⟩], some (3, true)⟩ rfl (by kernel_rfl) (yieldsIf_built (by rfl) 23 _ rfl _ (by simp; exact ⟨rfl, rfl, rfl⟩) _ (built_mkB 1 j)) _
              try simp only [Act.put,nA,nB,nC]
              refine' tQ 17 ⟨some 150, .binOp .neq 23 (.tmp 143) (.tmp 149) 23, 4, "law.go:157", #[⟨10, .data⟩, ⟨16, .data⟩, ⟨3, .guard⟩], some (3, true)⟩ rfl (by kernel_rfl) (Or.inl ⟨by rfl, _⟩) _; rotate_left; · (intro s h; (try dsimp only at h); go_simp; try with_reducible rfl)
              try simp only [Act.put,nA,nB,nC]
              refine' tQ 18 ⟨some 151, .move (.tmp 150), 4, "law.go:157", #[⟨17, .data⟩, ⟨3, .chain⟩, ⟨3, .guard⟩], some (3, true)⟩ rfl (by kernel_rfl) (Or.inl ⟨by rfl, _⟩) _; rotate_left; · (intro s h; (try dsimp only at h); go_simp; try with_reducible rfl)
              try simp only [Act.put,nA,nB,nC]
              refine' tQ 19 ⟨some 152, .move (.tmp 0), 66, "law.go:157", #[⟨18, .guard⟩], some (18, false)⟩ rfl (by kernel_rfl) (Or.inl ⟨by rfl, _⟩) _; rotate_left; · (intro s h; (try dsimp only at h); go_simp; try with_reducible rfl)
              try simp only [Act.put,nA,nB,nC]
              refine' tQ 20 ⟨some 153, .nilCheck (.tmp 152), 0, "law.go:157", #[⟨19, .data⟩, ⟨18, .guard⟩], some (18, false)⟩ rfl (by kernel_rfl) (Or.inl ⟨by rfl, _⟩) _; rotate_left; · (intro s h; (try dsimp only at h); go_simp; try with_reducible rfl)
              try simp only [Act.put,nA,nB,nC]
              refine' tQ 21 ⟨some 154, .fieldAddr 71 (.tmp 153) 2, 0, "law.go:157", #[⟨20, .data⟩, ⟨18, .guard⟩], some (18, false)⟩ rfl (by kernel_rfl) (Or.inl ⟨by rfl, _⟩) _; rotate_left; · (intro s h; (try dsimp only at h); go_simp; try with_reducible rfl)
              try simp only [Act.put,nA,nB,nC]
              refine' tQ 22 ⟨some 155, .load 69 (.tmp 154), 69, "law.go:157", #[⟨21, .data⟩, ⟨18, .guard⟩], some (18, false)⟩ rfl (by kernel_rfl) (Or.inl ⟨by rfl, _⟩) _; rotate_left; · (intro s h; (try dsimp only at h); go_simp; try with_reducible rfl)
              try simp only [Act.put,nA,nB,nC]
              refine' tQ 23 ⟨some 156, .move (.tmp 10), 3, "law.go:157", #[⟨18, .guard⟩], some (18, false)⟩ rfl (by kernel_rfl) (Or.inl ⟨by rfl, _⟩) _; rotate_left; · (intro s h; (try dsimp only at h); go_simp; try with_reducible rfl)
              try simp only [Act.put,nA,nB,nC]
              refine' tQ 24 ⟨some 157, .indexAddr 69 (.tmp 155) (.tmp 156), 0, "law.go:157", #[⟨22, .data⟩, ⟨23, .data⟩, ⟨18, .guard⟩], some (18, false)⟩ rfl (by kernel_rfl) (Or.inl ⟨by rfl, _⟩) _; rotate_left; · (intro s h; (try dsimp only at h); go_simp; try with_reducible rfl)
              try simp only [Act.put,nA,nB,nC]
              refine' tQ 25 ⟨some 158, .load 32 (.tmp 157), 32, "law.go:157", #[⟨24, .data⟩, ⟨18, .guard⟩], some (18, false)⟩ rfl (by kernel_rfl) (Or.inl ⟨by rfl, _⟩) _; rotate_left; · (intro s h; (try dsimp only at h); go_simp; try with_reducible rfl)
              try simp only [Act.put,nA,nB,nC]
              refine' tQ 26 ⟨some 159, .move (.tmp 12), 3, "law.go:157", #[⟨18, .guard⟩], some (18, false)⟩ rfl (by kernel_rfl) (Or.inl ⟨by rfl, _⟩) _; rotate_left; · (intro s h; (try dsimp only at h); go_simp; try with_reducible rfl)
              try simp only [Act.put,nA,nB,nC]
              refine' tQ 27 ⟨some 160, .indexAddr 32 (.tmp 158) (.tmp 159), 0, "law.go:157", #[⟨25, .data⟩, ⟨26, .data⟩, ⟨18, .guard⟩], some (18, false)⟩ rfl (by kernel_rfl) (Or.inl ⟨by rfl, _⟩) _; rotate_left; · (intro s h; (try dsimp only at h); go_simp; try with_reducible rfl)
              try simp only [Act.put,nA,nB,nC]
              refine' tQ 28 ⟨some 161, .load 23 (.tmp 160), 23, "law.go:157", #[⟨27, .data⟩, ⟨18, .guard⟩], some (18, false)⟩ rfl (by kernel_rfl) (yieldsIf_loadRng (by rfl) _ rfl gt (k * 32) rfl (mkB 1 j) (mkB_len 1 j) (fun W hW => hW.2.2.2.2)) _
              try simp only [Act.put,nA,nB,nC]
              refine' tQ 29 ⟨some 162, .move (.tmp 6), 69, "law.go:157", #[⟨18, .guard⟩], some (18, false)⟩ rfl (by kernel_rfl) (Or.inl ⟨by rfl, _⟩) _; rotate_left; · (intro s h; (try dsimp only at h); go_simp; try with_reducible rfl)
              try simp only [Act.put,nA,nB,nC]
              refine' tQ 30 ⟨some 163, .move (.tmp 10), 3, "law.go:157", #[⟨18, .guard⟩], some (18, false)⟩ rfl (by kernel_rfl) (Or.inl ⟨by rfl, _⟩) _; rotate_left; · (intro s h; (try dsimp only at h); go_simp; try with_reducible rfl)
              try simp only [Act.put,nA,nB,nC]
              refine' tQ 31 ⟨some 164, .indexAddr 69 (.tmp 162) (.tmp 163), 0, "law.go:157", #[⟨29, .data⟩, ⟨30, .data⟩, ⟨18, .guard⟩], some (18, false)⟩ rfl (by kernel_rfl) (Or.inl ⟨by rfl, _⟩) _; rotate_left; · (intro s h; (try dsimp only at h); go_simp; try with_reducible rfl)
              try simp only [Act.put,nA,nB,nC]
              refine' tQ 32 ⟨some 165, .load 32 (.tmp 164), 32, "law.go:157", #[⟨31, .data⟩, ⟨18, .guard⟩], some (18, false)⟩ rfl (by kernel_rfl) (Or.inl ⟨by rfl, _⟩) _; rotate_left; · (intro s h; (try dsimp only at h); go_simp; try with_reducible rfl)
              try simp only [Act.put,nA,nB,nC]
              refine' tQ 33 ⟨some 166, .move (.tmp 12), 3, "law.go:157", #[⟨18, .guard⟩], some (18, false)⟩ rfl (by kernel_rfl) (Or.inl ⟨by rfl, _⟩) _; rotate_left; · (intro s h; (try dsimp only at h); go_simp; try with_reducible rfl)
              try simp only [Act.put,nA,nB,nC]
              refine' tQ 34 ⟨some 167, .indexAddr 32 (.tmp 165) (.tmp 166), 0, "law.go:157", #[⟨32, .data⟩, ⟨33, .data⟩, ⟨18, .guard⟩], some (18, false)⟩ rfl (by kernel_rfl) (Or.inl ⟨by rfl, _⟩) _; rotate_left; · (intro s h; (try dsimp only at h); go_simp; try with_reducible rfl)
              try simp only [Act.put,nA,nB,nC]
              refine' tQ 35 ⟨some 168, .load 23 (.tmp 167), 23, "law.go:157", #[⟨34, .data⟩, ⟨18, .guard⟩], some (18, false)⟩ rfl (by kernel_rfl) (yieldsIf_loadRng (by rfl) _ rfl gl (k * 32) rfl (mkB 1 j) (mkB_len 1 j) (fun W hW => hW.2.2.2.1)) _
              try simp only [Act.put,nA,nB,nC]
              refine' tQ 36 ⟨some 169, .binOp .neq 23 (.tmp 161) (.tmp 168) 23, 4, "law.go:157", #[⟨28, .data⟩, ⟨35, .data⟩, ⟨18, .guard⟩], some (18, false)⟩ rfl (by kernel_rfl) (Or.inl ⟨by rfl, _⟩) _; rotate_left; · (intro s h; (try dsimp only at h); go_simp; try with_reducible rfl)
              try simp only [Act.put,nA,nB,nC]
              refine' tQ 37 ⟨some 170, .pick (.tmp 151) (.const (.bool true)) (.tmp 169), 4, "law.go:157", #[⟨18, .data⟩, ⟨36, .data⟩, ⟨3, .guard⟩], some (3, true)⟩ rfl (by kernel_rfl) (Or.inl ⟨by rfl, _⟩) _; rotate_left; · (intro s h; (try dsimp only at h); go_simp; try with_reducible rfl)
              try simp only [Act.put,nA,nB,nC]
              refine' tQ 38 ⟨some 171, .pick (.tmp 136) (.tmp 170) (.const (.bool false)), 4, "law.go:157", #[⟨3, .data⟩, ⟨37, .data⟩], none⟩ rfl (by kernel_rfl) (Or.inl ⟨by rfl, _⟩) _; rotate_left; · (intro s h; (try dsimp only at h); go_simp; try with_reducible rfl)
              try simp only [Act.put,nA,nB,nC]
              refine' tQ 39 ⟨some 172, .move (.tmp 171), 4, "law.go:157", #[⟨38, .data⟩, ⟨18, .chain⟩], none⟩ rfl (by kernel_rfl) (Or.inl ⟨by rfl, _⟩) _; rotate_left; · (intro s h; (try dsimp only at h); go_simp; try with_reducible rfl)
              try simp only [Act.put,nA,nB,nC]
              refine' tQ 40 ⟨some 173, .move (.tmp 12), 3, "law.go:157", #[⟨39, .guard⟩], some (39, false)⟩ rfl (by kernel_rfl) (Or.inl ⟨by rfl, _⟩) _; rotate_left; · (intro s h; (try dsimp only at h); go_simp; try with_reducible rfl)
              try simp only [Act.put,nA,nB,nC]
              refine' tQ 41 ⟨some 174, .move (.tmp 11), 3, "law.go:157", #[⟨39, .guard⟩], some (39, false)⟩ rfl (by kernel_rfl) (Or.inl ⟨by rfl, _⟩) _; rotate_left; · (intro s h; (try dsimp only at h); go_simp; try with_reducible rfl)
              try simp only [Act.put,nA,nB,nC]
              refine' tQ 42 ⟨some 175, .binOp .geq 3 (.tmp 173) (.tmp 174) 3, 4, "law.go:157", #[⟨40, .data⟩, ⟨41, .data⟩, ⟨39, .guard⟩], some (39, false)⟩ rfl (by kernel_rfl) (Or.inl ⟨by rfl, _⟩) _; rotate_left; · (intro s h; (try dsimp only at h); go_simp; try with_reducible rfl)
              try simp only [Act.put,nA,nB,nC]
              refine' tQ 43 ⟨some 176, .move (.tmp 175), 4, "law.go:157", #[⟨42, .data⟩, ⟨39, .chain⟩, ⟨39, .guard⟩], some (39, false)⟩ rfl (by kernel_rfl) (Or.inl ⟨by rfl, _⟩) _; rotate_left; · (intro s h; (try dsimp only at h); go_simp; try with_reducible rfl)
              try simp only [Act.put,nA,nB,nC]
              refine' tQ 44 ⟨some 177, .move (.tmp 6), 69, "law.go:157", #[⟨43, .guard⟩], some (43, true)⟩ rfl (by kernel_rfl) (Or.inr ⟨by rfl, rfl⟩) _
              try simp only [Act.put,nA,nB,nC]
              refine' tQ 45 ⟨some 178, .move (.tmp 10), 3, "law.go:157", #[⟨43, .guard⟩], some (43, true)⟩ rfl (by kernel_rfl) (Or.inr ⟨by rfl, rfl⟩) _
              try simp only [Act.put,nA,nB,nC]
              refine' tQ 46 ⟨some 179, .indexAddr 69 (.tmp 177) (.tmp 178), 0, "law.go:157", #[⟨44, .data⟩, ⟨45, .data⟩, ⟨43, .guard⟩], some (43, true)⟩ rfl (by kernel_rfl) (Or.inr ⟨by rfl, rfl⟩) _
              try simp only [Act.put,nA,nB,nC]
              refine' tQ 47 ⟨some 180, .load 32 (.tmp 179), 32, "law.go:157", #[⟨46, .data⟩, ⟨43, .guard⟩], some (43, true)⟩ rfl (by kernel_rfl) (Or.inr ⟨by rfl, rfl⟩) _
              try simp only [Act.put,nA,nB,nC]
              refine' tQ 48 ⟨some 181, .move (.tmp 12), 3, "law.go:157", #[⟨43, .guard⟩], some (43, true)⟩ rfl (by kernel_rfl) (Or.inr ⟨by rfl, rfl⟩) _
              try simp only [Act.put,nA,nB,nC]
              refine' tQ 49 ⟨some 182, .indexAddr 32 (.tmp 180) (.tmp 181), 0, "law.go:157", #[⟨47, .data⟩, ⟨48, .data⟩, ⟨43, .guard⟩], some (43, true)⟩ rfl (by kernel_rfl) (Or.inr ⟨by rfl, rfl⟩) _
              try simp only [Act.put,nA,nB,nC]
              refine' tQ 50 ⟨some 183, .load 23 (.tmp 182), 23, "law.go:157", #[⟨49, .data⟩, ⟨43, .guard⟩], some (43, true)⟩ rfl (by kernel_rfl) (Or.inr ⟨by rfl, rfl⟩) _
              try simp only [Act.put,nA,nB,nC]
              refine' tQ 51 ⟨some 184, .move (.tmp 10), 3, "law.go:157", #[⟨43, .guard⟩], some (43, true)⟩ rfl (by kernel_rfl) (Or.inr ⟨by rfl, rfl⟩) _
              try simp only [Act.put,nA,nB,nC]
              refine' tQ 52 ⟨some 185, .convert 3 5 (.tmp 184), 5, "law.go:157", #[⟨51, .data⟩, ⟨43, .guard⟩], some (43, true)⟩ rfl (by kernel_rfl) (Or.inr ⟨by rfl, rfl⟩) _
              try simp only [Act.put,nA,nB,nC]
              refine' tQ 53 ⟨some 186, .move (.tmp 10), 3, "law.go:157", #[⟨43, .guard⟩], some (43, true)⟩ rfl (by kernel_rfl) (Or.inr ⟨by rfl, rfl⟩) _
              try simp only [Act.put,nA,nB,nC]
              refine' tQ 54 ⟨some 187, .binOp .shr 3 (.tmp 186) (.const (.int .u64 8)) 117, 3, "law.go:157", #[⟨53, .data⟩, ⟨43, .guard⟩], some (43, true)⟩ rfl (by kernel_rfl) (Or.inr ⟨by rfl, rfl⟩) _
              try simp only [Act.put,nA,nB,nC]
              refine' tQ 55 ⟨some 188, .convert 3 5 (.tmp 187), 5, "law.go:157", #[⟨54, .data⟩, ⟨43, .guard⟩], some (43, true)⟩ rfl (by kernel_rfl) (Or.inr ⟨by rfl, rfl⟩) _
              try simp only [Act.put,nA,nB,nC]
              refine' tQ 56 ⟨some 189, .build 23 #[(0, .const (.int .u8 2)), (1, .tmp 185), (2, .tmp 188)], 23, "law.go:157", #[⟨52, .data⟩, ⟨55, .data⟩, ⟨43, .guard⟩], some (43, true)⟩ rfl (by kernel_rfl) (Or.inr ⟨by rfl, rfl⟩) _
              try simp only [Act.put,nA,nB,nC]
              refine' tQ 57 ⟨some 190, .binOp .neq 23 (.tmp 183) (.tmp 189) 23, 4, "law.go:157", #[⟨50, .data⟩, ⟨56, .data⟩, ⟨43, .guard⟩], some (43, true)⟩ rfl (by kernel_rfl) (Or.inr ⟨by rfl, rfl⟩) _
              try simp only [Act.put,nA,nB,nC]
              refine' tQ 58 ⟨some 191, .pick (.tmp 176) (.tmp 190) (.const (.bool false)), 4, "law.go:157", #[⟨43, .data⟩, ⟨57, .data⟩, ⟨39, .guard⟩], some (39, false)⟩ rfl (by kernel_rfl) (Or.inl ⟨by rfl, _⟩) _; rotate_left; · (intro s h; (try dsimp only at h); go_simp; try with_reducible rfl)
              try simp only [Act.put,nA,nB,nC]
              refine' tQ 59 ⟨some 192, .pick (.tmp 172) (.const (.bool true)) (.tmp 191), 4, "law.go:157", #[⟨39, .data⟩, ⟨58, .data⟩], none⟩ rfl (by kernel_rfl) (Or.inl ⟨by rfl, _⟩) _; rotate_left; · (intro s h; (try dsimp only at h); go_simp; try with_reducible rfl)
              try simp only [Act.put,nA,nB,nC]
              refine wpAnyH_done (by kernel_rfl) ?_ _
              clear hHeld hq hqg rl5 rt5 c6 ct cl cv cv2
              have B6 : Hid (Below w5.heap.size w5 wr.drew) := Bk.out.drew
              clear Bk B5 P5
              go_wp2_with fail
              exact ⟨⟨k + 1, by omega, B6, by go_num⟩, by simp [intOf]; omega⟩
             case neg =>
              have d3 : decide (k < m) = false := decide_eq_false hkm
              have d4 : decide ((k : Int) < (m : Int)) = false := decide_eq_false (by omega)
              have d5 : decide (m ≤ k) = true := decide_eq_true (by omega)
              have d6 : decide ((m : Int) ≤ (k : Int)) = true := decide_eq_true (by omega)
              have rl := HRm.out k (by omega) hlt4
              have rl5 := range_block rl (B5.out.block gl Hgl.out)
              have hq := neD (mkB 2 j) (mkB 2 j) rfl rfl
              rw [beq_self_eq_true] at hq
              have hqg := neGuardD (mkB 2 j) (mkB 2 j)
              clear rl
              go_upto_region 30 with fail
              clear dk dk2
              refine wp_region_held_drew (S := fun W => W.cell? ⟨lg, j, none⟩ = some (.slice (some ⟨gl, 0, none⟩) xl lc) ∧ W.rangeAt gl (k * 32) ((mkB 2 j).map bv)) (by kernel_rfl) ⟨cl, rl5⟩ (fun hHeld => ?_)
              refine' tQ 0 ⟨some 133, .move (.tmp 12), 3, "law.go:157", #[], none⟩ rfl (by kernel_rfl) (Or.inl ⟨by rfl, _⟩) _; rotate_left; · (intro s h; (try dsimp only at h); go_simp; try with_reducible rfl)
              try simp only [Act.put,nA,nB,nC]
              refine' tQ 1 ⟨some 134, .move (.tmp 11), 3, "law.go:157", #[], none⟩ rfl (by kernel_rfl) (Or.inl ⟨by rfl, _⟩) _; rotate_left; · (intro s h; (try dsimp only at h); go_simp; try with_reducible rfl)
              try simp only [Act.put,nA,nB,nC]
              refine' tQ 2 ⟨some 135, .binOp .lss 3 (.tmp 133) (.tmp 134) 3, 4, "law.go:157", #[⟨0, .data⟩, ⟨1, .data⟩], none⟩ rfl (by kernel_rfl) (Or.inl ⟨by rfl, _⟩) _; rotate_left; · (intro s h; (try dsimp only at h); go_simp; try with_reducible rfl)
              try simp only [Act.put,nA,nB,nC]
              refine' tQ 3 ⟨some 136, .move (.tmp 135), 4, "law.go:157", #[⟨2, .data⟩], none⟩ rfl (by kernel_rfl) (Or.inl ⟨by rfl, _⟩) _; rotate_left; · (intro s h; (try dsimp only at h); go_simp; try with_reducible rfl)
              try simp only [Act.put,nA,nB,nC]
              refine' tQ 4 ⟨some 137, .move (.tmp 6), 69, "law.go:157", #[⟨3, .guard⟩], some (3, true)⟩ rfl (by kernel_rfl) (Or.inr ⟨by rfl, rfl⟩) _
              try simp only [Act.put,nA,nB,nC]
              refine' tQ 5 ⟨some 138, .move (.tmp 10), 3, "law.go:157", #[⟨3, .guard⟩], some (3, true)⟩ rfl (by kernel_rfl) (Or.inr ⟨by rfl, rfl⟩) _
              try simp only [Act.put,nA,nB,nC]
              refine' tQ 6 ⟨some 139, .indexAddr 69 (.tmp 137) (.tmp 138), 0, "law.go:157", #[⟨4, .data⟩, ⟨5, .data⟩, ⟨3, .guard⟩], some (3, true)⟩ rfl (by kernel_rfl) (Or.inr ⟨by rfl, rfl⟩) _
              try simp only [Act.put,nA,nB,nC]
              refine' tQ 7 ⟨some 140, .load 32 (.tmp 139), 32, "law.go:157", #[⟨6, .data⟩, ⟨3, .guard⟩], some (3, true)⟩ rfl (by kernel_rfl) (Or.inr ⟨by rfl, rfl⟩) _
              try simp only [Act.put,nA,nB,nC]
              refine' tQ 8 ⟨some 141, .move (.tmp 12), 3, "law.go:157", #[⟨3, .guard⟩], some (3, true)⟩ rfl (by kernel_rfl) (Or.inr ⟨by rfl, rfl⟩) _
              try simp only [Act.put,nA,nB,nC]
              refine' tQ 9 ⟨some 142, .indexAddr 32 (.tmp 140) (.tmp 141), 0, "law.go:157", #[⟨7, .data⟩, ⟨8, .data⟩, ⟨3, .guard⟩], some (3, true)⟩ rfl (by kernel_rfl) (Or.inr ⟨by rfl, rfl⟩) _
              try simp only [Act.put,nA,nB,nC]
              refine' tQ 10 ⟨some 143, .load 23 (.tmp 142), 23, "law.go:157", #[⟨9, .data⟩, ⟨3, .guard⟩], some (3, true)⟩ rfl (by kernel_rfl) (Or.inr ⟨by rfl, rfl⟩) _
              try simp only [Act.put,nA,nB,nC]
              refine' tQ 11 ⟨some 144, .move (.tmp 10), 3, "law.go:157", #[⟨3, .guard⟩], some (3, true)⟩ rfl (by kernel_rfl) (Or.inr ⟨by rfl, rfl⟩) _
              try simp only [Act.put,nA,nB,nC]
              refine' tQ 12 ⟨some 145, .convert 3 5 (.tmp 144), 5, "law.go:157", #[⟨11, .data⟩, ⟨3, .guard⟩], some (3, true)⟩ rfl (by kernel_rfl) (Or.inr ⟨by rfl, rfl⟩) _
              try simp only [Act.put,nA,nB,nC]
              refine' tQ 13 ⟨some 146, .move (.tmp 10), 3, "law.go:157", #[⟨3, .guard⟩], some (3, true)⟩ rfl (by kernel_rfl) (Or.inr ⟨by rfl, rfl⟩) _
              try simp only [Act.put,nA,nB,nC]
              refine' tQ 14 ⟨some 147, .binOp .shr 3 (.tmp 146) (.const (.int .u64 8)) 117, 3, "law.go:157", #[⟨13, .data⟩, ⟨3, .guard⟩], some (3, true)⟩ rfl (by kernel_rfl) (Or.inr ⟨by rfl, rfl⟩) _
              try simp only [Act.put,nA,nB,nC]
              refine' tQ 15 ⟨some 148, .convert 3 5 (.tmp 147), 5, "law.go:157", #[⟨14, .data⟩, ⟨3, .guard⟩], some (3, true)⟩ rfl (by kernel_rfl) (Or.inr ⟨by rfl, rfl⟩) _
              try simp only [Act.put,nA,nB,nC]
              refine' tQ 16 ⟨some 149, .build 23 #[(0, .const (.int .u8 1)), (1, .tmp 145), (2, .tmp 148)], 23, "law.go:157", #[⟨12, .data⟩, ⟨15, .data⟩, ⟨3, .guard⟩], some (3, true)⟩ rfl (by kernel_rfl) (Or.inr ⟨by rfl, rfl⟩) _
              try simp only [Act.put,nA,nB,nC]
              refine' tQ 17 ⟨some 150, .binOp .neq 23 (.tmp 143) (.tmp 149) 23, 4, "law.go:157", #[⟨10, .data⟩, ⟨16, .data⟩, ⟨3, .guard⟩], some (3, true)⟩ rfl (by kernel_rfl) (Or.inr ⟨by rfl, rfl⟩) _
              try simp only [Act.put,nA,nB,nC]
              refine' tQ 18 ⟨some 151, .move (.tmp 150), 4, "law.go:157", #[⟨17, .data⟩, ⟨3, .chain⟩, ⟨3, .guard⟩], some (3, true)⟩ rfl (by kernel_rfl) (Or.inr ⟨by rfl, rfl⟩) _
              try simp only [Act.put,nA,nB,nC]
              refine' tQ 19 ⟨some 152, .move (.tmp 0), 66, "law.go:157", #[⟨18, .guard⟩], some (18, false)⟩ rfl (by kernel_rfl) (Or.inr ⟨by rfl, rfl⟩) _
              try simp only [Act.put,nA,nB,nC]
              refine' tQ 20 ⟨some 153, .nilCheck (.tmp 152), 0, "law.go:157", #[⟨19, .data⟩, ⟨18, .guard⟩], some (18, false)⟩ rfl (by kernel_rfl) (Or.inr ⟨by rfl, rfl⟩) _
              try simp only [Act.put,nA,nB,nC]
              refine' tQ 21 ⟨some 154, .fieldAddr 71 (.tmp 153) 2, 0, "law.go:157", #[⟨20, .data⟩, ⟨18, .guard⟩], some (18, false)⟩ rfl (by kernel_rfl) (Or.inr ⟨by rfl, rfl⟩) _
              try simp only [Act.put,nA,nB,nC]
              refine' tQ 22 ⟨some 155, .load 69 (.tmp 154), 69, "law.go:157", #[⟨21, .data⟩, ⟨18, .guard⟩], some (18, false)⟩ rfl (by kernel_rfl) (Or.inr ⟨by rfl, rfl⟩) _
              try simp only [Act.put,nA,nB,nC]
              refine' tQ 23 ⟨some 156, .move (.tmp 10), 3, "law.go:157", #[⟨18, .guard⟩], some (18, false)⟩ rfl (by kernel_rfl) (Or.inr ⟨by rfl, rfl⟩) _
              try simp only [Act.put,nA,nB,nC]
              refine' tQ 24 ⟨some 157, .indexAddr 69 (.tmp 155) (.tmp 156), 0, "law.go:157", #[⟨22, .data⟩, ⟨23, .data⟩, ⟨18, .guard⟩], some (18, false)⟩ rfl (by kernel_rfl) (Or.inr ⟨by rfl, rfl⟩) _
              try simp only [Act.put,nA,nB,nC]
              refine' tQ 25 ⟨some 158, .load 32 (.tmp 157), 32, "law.go:157", #[⟨24, .data⟩, ⟨18, .guard⟩], some (18, false)⟩ rfl (by kernel_rfl) (Or.inr ⟨by rfl, rfl⟩) _
              try simp only [Act.put,nA,nB,nC]
              refine' tQ 26 ⟨some 159, .move (.tmp 12), 3, "law.go:157", #[⟨18, .guard⟩], some (18, false)⟩ rfl (by kernel_rfl) (Or.inr ⟨by rfl, rfl⟩) _
              try simp only [Act.put,nA,nB,nC]
              refine' tQ 27 ⟨some 160, .indexAddr 32 (.tmp 158) (.tmp 159), 0, "law.go:157", #[⟨25, .data⟩, ⟨26, .data⟩, ⟨18, .guard⟩], some (18, false)⟩ rfl (by kernel_rfl) (Or.inr ⟨by rfl, rfl⟩) _
              try simp only [Act.put,nA,nB,nC]
              refine' tQ 28 ⟨some 161, .load 23 (.tmp 160), 23, "law.go:157", #[⟨27, .data⟩, ⟨18, .guard⟩], some (18, false)⟩ rfl (by kernel_rfl) (Or.inr ⟨by rfl, rfl⟩) _
              try simp only [Act.put,nA,nB,nC]
              refine' tQ 29 ⟨some 162, .move (.tmp 6), 69, "law.go:157", #[⟨18, .guard⟩], some (18, false)⟩ rfl (by kernel_rfl) (Or.inr ⟨by rfl, rfl⟩) _
              try simp only [Act.put,nA,nB,nC]
              refine' tQ 30 ⟨some 163, .move (.tmp 10), 3, "law.go:157", #[⟨18, .guard⟩], some (18, false)⟩ rfl (by kernel_rfl) (Or.inr ⟨by rfl, rfl⟩) _
              try simp only [Act.put,nA,nB,nC]
              refine' tQ 31 ⟨some 164, .indexAddr 69 (.tmp 162) (.tmp 163), 0, "law.go:157", #[⟨29, .data⟩, ⟨30, .data⟩, ⟨18, .guard⟩], some (18, false)⟩ rfl (by kernel_rfl) (Or.inr ⟨by rfl, rfl⟩) _
              try simp only [Act.put,nA,nB,nC]
              refine' tQ 32 ⟨some 165, .load 32 (.tmp 164), 32, "law.go:157", #[⟨31, .data⟩, ⟨18, .guard⟩], some (18, false)⟩ rfl (by kernel_rfl) (Or.inr ⟨by rfl, rfl⟩) _
              try simp only [Act.put,nA,nB,nC]
              refine' tQ 33 ⟨some 166, .move (.tmp 12), 3, "law.go:157", #[⟨18, .guard⟩], some (18, false)⟩ rfl (by kernel_rfl) (Or.inr ⟨by rfl, rfl⟩) _
              try simp only [Act.put,nA,nB,nC]
              refine' tQ 34 ⟨some 167, .indexAddr 32 (.tmp 165) (.tmp 166), 0, "law.go:157", #[⟨32, .data⟩, ⟨33, .data⟩, ⟨18, .guard⟩], some (18, false)⟩ rfl (by kernel_rfl) (Or.inr ⟨by rfl, rfl⟩) _
              try simp only [Act.put,nA,nB,nC]
              refine' tQ 35 ⟨some 168, .load 23 (.tmp 167), 23, "law.go:157", #[⟨34, .data⟩, ⟨18, .guard⟩], some (18, false)⟩ rfl (by kernel_rfl) (Or.inr ⟨by rfl, rfl⟩) _
              try simp only [Act.put,nA,nB,nC]
              refine' tQ 36 ⟨some 169, .binOp .neq 23 (.tmp 161) (.tmp 168) 23, 4, "law.go:157", #[⟨28, .data⟩, ⟨35, .data⟩, ⟨18, .guard⟩], some (18, false)⟩ rfl (by kernel_rfl) (Or.inr ⟨by rfl, rfl⟩) _
              try simp only [Act.put,nA,nB,nC]
              refine' tQ 37 ⟨some 170, .pick (.tmp 151) (.const (.bool true)) (.tmp 169), 4, "law.go:157", #[⟨18, .data⟩, ⟨36, .data⟩, ⟨3, .guard⟩], some (3, true)⟩ rfl (by kernel_rfl) (Or.inr ⟨by rfl, rfl⟩) _
              try simp only [Act.put,nA,nB,nC]
              refine' tQ 38 ⟨some 171, .pick (.tmp 136) (.tmp 170) (.const (.bool false)), 4, "law.go:157", #[⟨3, .data⟩, ⟨37, .data⟩], none⟩ rfl (by kernel_rfl) (Or.inl ⟨by rfl, _⟩) _; rotate_left; · (intro s h; (try dsimp only at h); go_simp; try with_reducible rfl)
              try simp only [Act.put,nA,nB,nC]
              refine' tQ 39 ⟨some 172, .move (.tmp 171), 4, "law.go:157", #[⟨38, .data⟩, ⟨18, .chain⟩], none⟩ rfl (by kernel_rfl) (Or.inl ⟨by rfl, _⟩) _; rotate_left; · (intro s h; (try dsimp only at h); go_simp; try with_reducible rfl)
              try simp only [Act.put,nA,nB,nC]
              refine' tQ 40 ⟨some 173, .move (.tmp 12), 3, "law.go:157", #[⟨39, .guard⟩], some (39, false)⟩ rfl (by kernel_rfl) (Or.inl ⟨by rfl, _⟩) _; rotate_left; · (intro s h; (try dsimp only at h); go_simp; try with_reducible rfl)
              try simp only [Act.put,nA,nB,nC]
              refine' tQ 41 ⟨some 174, .move (.tmp 11), 3, "law.go:157", #[⟨39, .guard⟩], some (39, false)⟩ rfl (by kernel_rfl) (Or.inl ⟨by rfl, _⟩) _; rotate_left; · (intro s h; (try dsimp only at h); go_simp; try with_reducible rfl)
              try simp only [Act.put,nA,nB,nC]
              refine' tQ 42 ⟨some 175, .binOp .geq 3 (.tmp 173) (.tmp 174) 3, 4, "law.go:157", #[⟨40, .data⟩, ⟨41, .data⟩, ⟨39, .guard⟩], some (39, false)⟩ rfl (by kernel_rfl) (Or.inl ⟨by rfl, _⟩) _; rotate_left; · (intro s h; (try dsimp only at h); go_simp; try with_reducible rfl)
              try simp only [Act.put,nA,nB,nC]
              refine' tQ 43 ⟨some 176, .move (.tmp 175), 4, "law.go:157", #[⟨42, .data⟩, ⟨39, .chain⟩, ⟨39, .guard⟩], some (39, false)⟩ rfl (by kernel_rfl) (Or.inl ⟨by rfl, _⟩) _; rotate_left; · (intro s h; (try dsimp only at h); go_simp; try with_reducible rfl)
              try simp only [Act.put,nA,nB,nC]
              refine' tQ 44 ⟨some 177, .move (.tmp 6), 69, "law.go:157", #[⟨43, .guard⟩], some (43, true)⟩ rfl (by kernel_rfl) (Or.inl ⟨by rfl, _⟩) _; rotate_left; · (intro s h; (try dsimp only at h); go_simp; try with_reducible rfl)
              try simp only [Act.put,nA,nB,nC]
              refine' tQ 45 ⟨some 178, .move (.tmp 10), 3, "law.go:157", #[⟨43, .guard⟩], some (43, true)⟩ rfl (by kernel_rfl) (Or.inl ⟨by rfl, _⟩) _; rotate_left; · (intro s h; (try dsimp only at h); go_simp; try with_reducible rfl)
              try simp only [Act.put,nA,nB,nC]
              refine' tQ 46 ⟨some 179, .indexAddr 69 (.tmp 177) (.tmp 178), 0, "law.go:157", #[⟨44, .data⟩, ⟨45, .data⟩, ⟨43, .guard⟩], some (43, true)⟩ rfl (by kernel_rfl) (Or.inl ⟨by rfl, _⟩) _; rotate_left; · (intro s h; (try dsimp only at h); go_simp; try with_reducible rfl)
              try simp only [Act.put,nA,nB,nC]
              refine' tQ 47 ⟨some 180, .load 32 (.tmp 179), 32, "law.go:157", #[⟨46, .data⟩, ⟨43, .guard⟩], some (43, true)⟩ rfl (by kernel_rfl) (Or.inl ⟨by rfl, _⟩) _; rotate_left; · (intro s h; (try dsimp only at h); go_simp; try with_reducible rfl)
              try simp only [Act.put,nA,nB,nC]
              refine' tQ 48 ⟨some 181, .move (.tmp 12), 3, "law.go:157", #[⟨43, .guard⟩], some (43, true)⟩ rfl (by kernel_rfl) (Or.inl ⟨by rfl, _⟩) _; rotate_left; · (intro s h; (try dsimp only at h); go_simp; try with_reducible rfl)
              try simp only [Act.put,nA,nB,nC]
              refine' tQ 49 ⟨some 182, .indexAddr 32 (.tmp 180) (.tmp 181), 0, "law.go:157", #[⟨47, .data⟩, ⟨48, .data⟩, ⟨43, .guard⟩], some (43, true)⟩ rfl (by kernel_rfl) (Or.inl ⟨by rfl, _⟩) _; rotate_left; · (intro s h; (try dsimp only at h); go_simp; try with_reducible rfl)
              try simp only [Act.put,nA,nB,nC]
              refine' tQ 50 ⟨some 183, .load 23 (.tmp 182), 23, "law.go:157", #[⟨49, .data⟩, ⟨43, .guard⟩], some (43, true)⟩ rfl (by kernel_rfl) (yieldsIf_loadRng (by rfl) _ rfl gl (k * 32) rfl (mkB 2 j) (mkB_len 2 j) (fun W hW => hW.2)) _
              try simp only [Act.put,nA,nB,nC]
              refine' tQ 51 ⟨some 184, .move (.tmp 10), 3, "law.go:157", #[⟨43, .guard⟩], some (43, true)⟩ rfl (by kernel_rfl) (Or.inl ⟨by rfl, _⟩) _; rotate_left; · (intro s h; (try dsimp only at h); go_simp; try with_reducible rfl)
              try simp only [Act.put,nA,nB,nC]
              refine' tQ 52 ⟨some 185, .convert 3 5 (.tmp 184), 5, "law.go:157", #[⟨51, .data⟩, ⟨43, .guard⟩], some (43, true)⟩ rfl (by kernel_rfl) (Or.inl ⟨by rfl, _⟩) _; rotate_left; · (intro s h; (try dsimp only at h); go_simp; try with_reducible rfl)
              try simp only [Act.put,nA,nB,nC]
              refine' tQ 53 ⟨some 186, .move (.tmp 10), 3, "law.go:157", #[⟨43, .guard⟩], some (43, true)⟩ rfl (by kernel_rfl) (Or.inl ⟨by rfl, _⟩) _; rotate_left; · (intro s h; (try dsimp only at h); go_simp; try with_reducible rfl)
              try simp only [Act.put,nA,nB,nC]
              refine' tQ 54 ⟨some 187, .binOp .shr 3 (.tmp 186) (.const (.int .u64 8)) 117, 3, "law.go:157", #[⟨53, .data⟩, ⟨43, .guard⟩], some (43, true)⟩ rfl (by kernel_rfl) (Or.inl ⟨by rfl, _⟩) _; rotate_left; · (intro s h; (try dsimp only at h); go_simp; try with_reducible rfl)
              try simp only [Act.put,nA,nB,nC]
              refine' tQ 55 ⟨some 188, .convert 3 5 (.tmp 187), 5, "law.go:157", #[⟨54, .data⟩, ⟨43, .guard⟩], some (43, true)⟩ rfl (by kernel_rfl) (Or.inl ⟨by rfl, _⟩) _; rotate_left; · (intro s h; (try dsimp only at h); go_simp; try with_reducible rfl)
              try simp only [Act.put,nA,nB,nC]
              refine' tQ 56 ⟨some 189, .build 23 #[(0, .const (.int .u8 2)), (1, .tmp 185), (2, .tmp 188)], 23, "law.go:157", #[⟨52, .data⟩, ⟨55, .data⟩, ⟨43, .guard⟩], some (43, true)⟩ rfl (by kernel_rfl) (yieldsIf_built (by rfl) 23 _ rfl _ (by simp; exact ⟨rfl, rfl, rfl⟩) _ (built_mkB 2 j)) _
              try simp only [Act.put,nA,nB,nC]
              refine' tQ 57 ⟨some 190, .binOp .neq 23 (.tmp 183) (.tmp 189) 23, 4, "law.go:157", #[⟨50, .data⟩, ⟨56, .data⟩, ⟨43, .guard⟩], some (43, true)⟩ rfl (by kernel_rfl) (Or.inl ⟨by rfl, _⟩) _; rotate_left; · (intro s h; (try dsimp only at h); go_simp; try with_reducible rfl)
              try simp only [Act.put,nA,nB,nC]
              refine' tQ 58 ⟨some 191, .pick (.tmp 176) (.tmp 190) (.const (.bool false)), 4, "law.go:157", #[⟨43, .data⟩, ⟨57, .data⟩, ⟨39, .guard⟩], some (39, false)⟩ rfl (by kernel_rfl) (Or.inl ⟨by rfl, _⟩) _; rotate_left; · (intro s h; (try dsimp only at h); go_simp; try with_reducible rfl)
              try simp only [Act.put,nA,nB,nC]
              refine' tQ 59 ⟨some 192, .pick (.tmp 172) (.const (.bool true)) (.tmp 191), 4, "law.go:157", #[⟨39, .data⟩, ⟨58, .data⟩], none⟩ rfl (by kernel_rfl) (Or.inl ⟨by rfl, _⟩) _; rotate_left; · (intro s h; (try dsimp only at h); go_simp; try with_reducible rfl)
              try simp only [Act.put,nA,nB,nC]
              refine wpAnyH_done (by kernel_rfl) ?_ _
              clear hHeld hq hqg rl5 c6 ct cl cv cv2
              have B6 : Hid (Below w5.heap.size w5 wr.drew) := Bk.out.drew
              clear Bk B5 P5
              go_wp2_with fail
              exact ⟨⟨k + 1, by omega, B6, by go_num⟩, by simp [intOf]; omega⟩
           case neg =>
            as_aux_lemma =>
             have dk : decide (k < xl) = false := decide_eq_false hlt4
             have dk2 : decide ((k : Int) < (xl : Int)) = false := decide_eq_false (by omega)
             have B6 := Lib.hid (Bj.out.trans (Bk.out.mono hw45))
             go_wp2_with fail
             exact ⟨⟨j + 1, by omega, B6, by go_num⟩, by simp [intOf]; omega⟩
        case neg =>
         as_aux_lemma =>
          have dk : decide (j < i) = false := decide_eq_false hlt3
          have dk2 : decide ((j : Int) < (i : Int)) = false := decide_eq_false (by omega)
          have M9 := Lib.hid (M4.out.then (Mod.of _ Bj.out))
          go_wp2_with fail
          go_ret
          exact ⟨rfl, M9.out⟩
end Go.Proofs.Ytihbhpggpnmifaa
