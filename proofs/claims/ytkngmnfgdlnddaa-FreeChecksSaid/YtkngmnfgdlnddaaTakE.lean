/-
  Rows of batches of the call's own; what lists keeps while it runs.
-/
import Derived.Test.YtkngmnfgdlnddaaTakD
import Derived.Test.YtkngmnfgdlnddaaTakP
import Derived.Test.YtkngmnfgdlnddaaAnyT
namespace Go.Proofs.Ytkngmnfgdlnddaa
open Go.RowKit Go.Lib Hw Go.Maps
set_option linter.unusedVariables false

/-- a batch's cells -/
def bpair (b : Nat × Value) : List Value := [uN b.1, b.2]
def brow (bs : List (Nat × Value)) : List Value := bs.flatMap bpair
theorem brow_len : ∀ bs : List (Nat × Value), (brow bs).length = bs.length * 2
  | [] => rfl
  | b :: r => by
    show (bpair b ++ brow r).length = _
    rw [List.length_append, brow_len r, List.length_cons]
    show 2 + _ = _
    omega
theorem brow_at : ∀ (bs : List (Nat × Value)) (i : Nat) (h : i < bs.length), (brow bs)[i * 2]? = some (uN bs[i].1) ∧ (brow bs)[i * 2 + 1]? = some bs[i].2
  | b :: r, 0, h => ⟨rfl, rfl⟩
  | b :: r, i + 1, h => by
    have h1 := brow_at r i (by simpa using h)
    show (bpair b ++ brow r)[(i + 1) * 2]? = _ ∧ (bpair b ++ brow r)[(i + 1) * 2 + 1]? = _
    have e : (i + 1) * 2 = (bpair b).length + i * 2 := by show _ = 2 + _; omega
    rw [e, List.getElem?_append_right (by omega), Nat.add_assoc, List.getElem?_append_right (by omega), Nat.add_sub_cancel_left, Nat.add_sub_cancel_left]
    exact h1
/-- a row of batches of the call's own -/
def OwnC (w : World) (B : Nat) (v : Value) (bs : List (Nat × Value)) : Prop := w.ownsRow B 64 2 v bs.length (brow bs)
theorem info_C : (Try.prog.info? 64).map (fun i => (i.zero, i.size, i.bytes)) = some (some (.agg #[.int .u32 0, .slice none 0 0]), 2, 32) := by kernel_rfl
theorem OwnC.nil (w : World) (B : Nat) : OwnC w B (.slice none 0 0) [] := World.ownsRow_nil w B _ 2
theorem OwnC.lt {w : World} {B : Nat} {v : Value} {bs : List (Nat × Value)} (h : OwnC w B v bs) : ∀ g, v.ownBlock = some g → B ≤ g ∧ g < w.heap.size := World.ownsRow.lt h
theorem OwnC.heap {w w' : World} {B : Nat} {v : Value} {bs : List (Nat × Value)} (h : OwnC w B v bs) (hk : ∀ g, v.ownBlock = some g → w'.heap[g]? = w.heap[g]?) : OwnC w' B v bs := by
  refine ⟨h.1, ?_⟩
  rcases h.2 with hn | ⟨g, cap, cur, rfl, hB, hg, r⟩
  · exact .inl hn
  · exact .inr ⟨g, cap, cur, rfl, hB, (hk g rfl).trans hg, r⟩
theorem OwnC.mod {w w' : World} {S : Nat → Prop} {B : Nat} {v : Value} {bs : List (Nat × Value)} (h : OwnC w B v bs) (m : Mod S w w') (hd : ∀ k, v.ownBlock = some k → ¬ S k) : OwnC w' B v bs :=
  h.heap (fun g hg => m.block g (h.lt g hg).2 (hd g hg))
theorem OwnC.below {w w' : World} {B C : Nat} {v : Value} {bs : List (Nat × Value)} (h : OwnC w B v bs) (hb : Below C w w') (hC : ∀ g, v.ownBlock = some g → g < C) : OwnC w' B v bs := h.heap (fun g hg => hb.block g (hC g hg))
theorem OwnC.shape {w : World} {B : Nat} {v : Value} {bs : List (Nat × Value)} (h : OwnC w B v bs) : ∃ ad cap, v = .slice ad bs.length cap ∧ bs.length ≤ cap ∧ cap ≤ 9223372036854775807 ∧ (0 < bs.length → ∃ g, ad = some ⟨g, 0, none⟩) := by
  rcases h.2 with ⟨rfl, h0⟩ | ⟨g, cap, cur, rfl, _, _, hc, hm, _⟩
  · exact ⟨none, 0, by rw [h0], by omega, by decide, fun h => by omega⟩
  · exact ⟨_, cap, rfl, hc, by rw [maxLen_eq] at hm; exact hm, fun _ => ⟨g, rfl⟩⟩
theorem OwnC.cell {w : World} {B g n cap : Nat} {bs : List (Nat × Value)} (h : OwnC w B (.slice (some ⟨g, 0, none⟩) n cap) bs) (i : Nat) (hi : i < bs.length) : w.cell? ⟨g, i * 2, none⟩ = some (uN bs[i].1) ∧ w.cell? ⟨g, i * 2 + 1, none⟩ = some bs[i].2 := by
  have h1 := World.ownsRow.cells (w := w) h (g := g) rfl (i * 2) _ (brow_at bs i hi).1
  have h2 := World.ownsRow.cells (w := w) h (g := g) rfl (i * 2 + 1) _ (brow_at bs i hi).2
  have hadd : ∀ j, (⟨g, 0, none⟩ : Addr).add j = ⟨g, j, none⟩ := fun j => by unfold Addr.add; split <;> simp_all
  rw [hadd] at h1 h2
  exact ⟨h1, h2⟩
theorem OwnC.free {w : World} {B g n cap : Nat} {bs : List (Nat × Value)} (h : OwnC w B (.slice (some ⟨g, 0, none⟩) n cap) bs) (o : Nat) : w.frozen? ⟨g, o, none⟩ = false := by
  rcases h.2 with ⟨h1, _⟩ | ⟨g2, cap, cur, h1, _, hg, _⟩
  · cases h1
  · cases h1; exact heap_free hg o
theorem brow_set : ∀ (bs : List (Nat × Value)) (i : Nat) (u : Value), i < bs.length → (brow bs).set (i * 2 + 1) u = brow (bs.set i ((bs.getD i (0, undef)).1, u))
  | b :: r, 0, u, h => rfl
  | b :: r, i + 1, u, h => by
    have h1 := brow_set r i u (by simpa using h)
    show (uN b.1 :: b.2 :: brow r).set ((i + 1) * 2 + 1) u = uN b.1 :: b.2 :: brow (r.set i _)
    rw [show (i + 1) * 2 + 1 = (i * 2 + 1) + 1 + 1 by omega, List.set_cons_succ, List.set_cons_succ, h1]
    rfl
/-- another list of numbers in a batch -/
theorem OwnC.set {w : World} {B g n cap : Nat} {bs : List (Nat × Value)} (h : OwnC w B (.slice (some ⟨g, 0, none⟩) n cap) bs) (i : Nat) (hi : i < bs.length) (u : Value) : OwnC (w.setCell ⟨g, i * 2 + 1, none⟩ u) B (.slice (some ⟨g, 0, none⟩) n cap) (bs.set i (bs[i].1, u)) := by
  refine ⟨by rw [brow_len, List.length_set], ?_⟩
  rcases h.2 with ⟨h1, _⟩ | ⟨g2, cap2, cur, h1, hB, hg, hc, hm, hs, ht⟩
  · cases h1
  cases h1
  rw [List.length_set]
  refine .inr ⟨g, cap, _, rfl, hB, heap_set hg u, hc, hm, by rw [Array.size_setIfInBounds]; exact hs, ?_⟩
  have e : bs.set i (bs[i].1, u) = bs.set i ((bs.getD i (0, undef)).1, u) := by simp [List.getD, hi]
  rw [e, ← brow_set bs i u hi, ← ht, Array.toList_setIfInBounds, List.take_set]
/-- append(bs, b): one batch that lies at a block's head -/
theorem wp_appC {o : Oper} {a : Act} {K : Act → World → Prop} {Q : Exit → Act → World → Prop} (W : World) (b : Nat × Value) (hb1 : b.2.oneCell' = true) (s y : Operand) (ho : o.op = .call { callee := .builtin .append, args := #[s, y], argTypes := #[44, 44] })
    (B : Nat) (v : Value) (bs : List (Nat × Value)) (hs : a.eval s = v) (hown : OwnC W B v bs) (g c : Nat) (hy : a.eval y = .slice (some ⟨g, 0, none⟩) 1 c) (hn : W.heap[g]? = some (.cells (bpair b).toArray 64 (0, 0)))
    (hlen : bs.length ≤ 1000000000000) (hB : B ≤ W.heap.size)
    (h : ∀ v' w', OwnC w' B v' (bs ++ [b]) → Mod (fun k => v.ownBlock = some k) W w' → From W v v' → K (a.put o.dst v') w') : o.wp Try.prog a W K Q := by
  obtain ⟨i, hi, hz0, hz1, hz2⟩ := info_parts info_C
  refine wp_append_lies W s y 44 ho B 64 i (.agg #[.int .u32 0, .slice none 0 0]) 2 32 Try.underlying44 hi hz0 hz1 hz2 rfl (by decide) v bs.length (brow bs) hs hown ⟨g, 0, none⟩ 1 c (bpair b) hy rfl ?_ (fun u hu => ?_) (by decide) (by rw [maxLen_eq]; omega) (by omega) hB W.heap.size rfl ?_
  · intro j u hu
    have hadd : (⟨g, 0, none⟩ : Addr).add j = ⟨g, j, none⟩ := by unfold Addr.add; split <;> simp_all
    rw [hadd, heap_cell hn, List.getElem?_toArray]
    exact hu
  · rcases List.mem_cons.1 hu with rfl | hu
    · rfl
    · rw [List.mem_singleton.1 hu]; exact hb1
  · intro g' cap w' h1 h2 h3 _
    refine h _ w' ?_ (Mod.grown h2 (fun k e => e)) (fun k hk => ?_)
    · unfold OwnC
      have e : brow (bs ++ [b]) = brow bs ++ bpair b := by simp [brow]
      rw [List.length_append, e]
      exact h1
    · have hk' : g' = k := by simpa [Value.ownBlock] using hk
      subst hk'
      exact h3.imp id (fun e => Nat.le_of_eq e.symm)
/-- what lists keeps -/
structure LI (w : World) (N LC FC TC T hb lb most : Nat) (tv chv : Value) (P : Nat) (u1 u2 lv : Value) (s : Sets) (op pg : Nat) (bs : List (Nat × Value)) (wr : World) : Prop where
  v : LV wr LC FC TC T N u1 u2 (setL P s.L) (setL P s.C)
  t : TB wr T tv lv op pg hb lb most chv
  c : OwnC wr N lv bs
  m : Mod (fun k => k = T) w wr
  a : ∀ g, lv.ownBlock = some g → g ≠ LC ∧ g ≠ FC ∧ g ≠ TC ∧ u1.ownBlock ≠ some g ∧ u2.ownBlock ≠ some g
  lc : N ≤ LC
  fc : N ≤ FC
  tc : N ≤ TC
  tn : T < N
  hn : hb < N
  ln : lb < N
  nw : w.heap.size = N
section
variable {w wr wr2 : World} {N LC FC TC T hb lb most P op pg : Nat} {tv chv u1 u2 u3 lv : Value} {s s2 : Sets} {bs : List (Nat × Value)}
theorem LI.size (h : LI w N LC FC TC T hb lb most tv chv P u1 u2 lv s op pg bs wr) : N ≤ wr.heap.size := by
  have := h.m.size
  have := h.nw
  omega
theorem LI.drew (h : LI w N LC FC TC T hb lb most tv chv P u1 u2 lv s op pg bs wr) : LI w N LC FC TC T hb lb most tv chv P u1 u2 lv s op pg bs wr.drew :=
  ⟨h.v.mod ((Mod.refl (fun _ => False) wr).drew) id id id (fun _ _ h => h) (fun _ _ h => h), h.t, h.c, h.m.drew, h.a, h.lc, h.fc, h.tc, h.tn, h.hn, h.ln, h.nw⟩
theorem LI.drewN (h : LI w N LC FC TC T hb lb most tv chv P u1 u2 lv s op pg bs wr) (q : Nat) : LI w N LC FC TC T hb lb most tv chv P u1 u2 lv s op pg bs (wr.drewN q) :=
  ⟨h.v.mod (mod_drewN (fun _ => False) wr q) id id id (fun _ _ h => h) (fun _ _ h => h), h.t, h.c, h.m.then (mod_drewN _ wr q), h.a, h.lc, h.fc, h.tc, h.tn, h.hn, h.ln, h.nw⟩
/-- new blocks alone -/
theorem LI.low (h : LI w N LC FC TC T hb lb most tv chv P u1 u2 lv s op pg bs wr) (b : Below wr.heap.size wr wr2) : LI w N LC FC TC T hb lb most tv chv P u1 u2 lv s op pg bs wr2 :=
  ⟨h.v.mod (Mod.of (fun _ => False) b) id id id (fun _ _ h => h) (fun _ _ h => h), h.t.mod (Mod.of (fun _ => False) b) id, h.c.mod (Mod.of (fun _ => False) b) (fun _ _ h => h), h.m.then (Mod.of _ b), h.a, h.lc, h.fc, h.tc, h.tn, h.hn, h.ln, h.nw⟩
theorem LI.ls (h : LI w N LC FC TC T hb lb most tv chv P u1 u2 lv s op pg bs wr) (k : Nat) (hk : k < N) : ¬ LS LC FC u1 u2 k := by
  rintro (e | e | e | e)
  · have := h.lc; omega
  · have := h.fc; omega
  · have := (h.v.o1.lt k e).1; omega
  · have := (h.v.o2.lt k e).1; omega
/-- loose and left have turned -/
theorem LI.turn (h : LI w N LC FC TC T hb lb most tv chv P u1 u2 lv s op pg bs wr) {u1' u2' : Value} (m : Mod (LS LC FC u1 u2) wr wr2) (v : LV wr2 LC FC TC T N u1' u2' (setL P s2.L) (setL P s2.C)) (f1 : From wr u1 u1') (f2 : From wr u2 u2') : LI w N LC FC TC T hb lb most tv chv P u1' u2' lv s2 op pg bs wr2 := by
  have hl : ∀ g, lv.ownBlock = some g → ¬ LS LC FC u1 u2 g := fun g hg => by
    have ha := h.a g hg
    rintro (e | e | e | e)
    · exact ha.1 e
    · exact ha.2.1 e
    · exact ha.2.2.2.1 e
    · exact ha.2.2.2.2 e
  refine ⟨v, h.t.mod m (h.ls T h.tn), h.c.mod m hl, h.m.trans m (fun i hi e => absurd e (h.ls i (by have := h.nw; omega))), fun g hg => ?_, h.lc, h.fc, h.tc, h.tn, h.hn, h.ln, h.nw⟩
  have ha := h.a g hg
  have hz := (h.c.lt g hg).2
  refine ⟨ha.1, ha.2.1, ha.2.2.1, fun e => ?_, fun e => ?_⟩
  · rcases f1 g e with e2 | e2
    · exact ha.2.2.2.1 e2
    · omega
  · rcases f2 g e with e2 | e2
    · exact ha.2.2.2.2 e2
    · omega
/-- the plan's own block has turned: how many are opened -/
theorem LI.opened (h : LI w N LC FC TC T hb lb most tv chv P u1 u2 lv s op pg bs wr) (op2 : Nat) (u : Value) (hu : u = .int .i64 (op2 : Int)) : LI w N LC FC TC T hb lb most tv chv P u1 u2 lv s op2 pg bs (wr.setCell ⟨T, 2, none⟩ u) := by
  have m2 := Mod.set (S := fun k => k = T) (o := 2) wr rfl u
  have hn := h.tn
  exact ⟨h.v.mod m2 (by have := h.lc; omega) (by have := h.fc; omega) (by have := h.tc; omega) (fun g hg => by have := (h.v.o1.lt g hg).1; omega) (fun g hg => by have := (h.v.o2.lt g hg).1; omega), h.t.set2 u op2 hu, h.c.mod m2 (fun g hg => by have := (h.c.lt g hg).1; omega), h.m.then m2, h.a, h.lc, h.fc, h.tc, h.tn, h.hn, h.ln, h.nw⟩
/-- the end was taken -/
theorem LI.ended (h : LI w N LC FC TC T hb lb most tv chv P u1 u2 lv s op pg bs wr) {pg2 : Nat} (m2 : Mod (fun k => k = T) wr wr2) (ht : TB wr2 T tv lv op pg2 hb lb most chv) : LI w N LC FC TC T hb lb most tv chv P u1 u2 lv s op pg2 bs wr2 := by
  have hn := h.tn
  exact ⟨h.v.mod m2 (by have := h.lc; omega) (by have := h.fc; omega) (by have := h.tc; omega) (fun g hg => by have := (h.v.o1.lt g hg).1; omega) (fun g hg => by have := (h.v.o2.lt g hg).1; omega), ht, h.c.mod m2 (fun g hg => by have := (h.c.lt g hg).1; omega), h.m.then m2, h.a, h.lc, h.fc, h.tc, h.tn, h.hn, h.ln, h.nw⟩
/-- one list page more -/
theorem LI.put (h : LI w N LC FC TC T hb lb most tv chv P u1 u2 lv s op pg bs wr) {lv2 : Value} {bs2 : List (Nat × Value)} (hc : OwnC wr2 N lv2 bs2) (m : Mod (fun k => lv.ownBlock = some k) wr wr2) (hf : From wr lv lv2) : LI w N LC FC TC T hb lb most tv chv P u1 u2 lv2 s op pg bs2 (wr2.setCell ⟨T, 1, none⟩ lv2) := by
  have hn := h.tn
  have m2 := Mod.set (S := fun k => k = T) (o := 1) wr2 rfl lv2
  have v2 : LV wr2 LC FC TC T N u1 u2 (setL P s.L) (setL P s.C) := h.v.mod m (fun e => (h.a LC e).1 rfl) (fun e => (h.a FC e).2.1 rfl) (fun e => (h.a TC e).2.2.1 rfl) (fun g hg e => (h.a g e).2.2.2.1 hg) (fun g hg e => (h.a g e).2.2.2.2 hg)
  have t2 : TB wr2 T tv lv op pg hb lb most chv := h.t.mod m (fun e => by have := (h.c.lt T e).1; omega)
  refine ⟨v2.mod m2 (by have := h.lc; omega) (by have := h.fc; omega) (by have := h.tc; omega) (fun g hg => by have := (v2.o1.lt g hg).1; omega) (fun g hg => by have := (v2.o2.lt g hg).1; omega), t2.set1 lv2, hc.mod m2 (fun g hg => by have := (hc.lt g hg).1; omega), ?_, fun g hg => ?_, h.lc, h.fc, h.tc, h.tn, h.hn, h.ln, h.nw⟩
  · exact (h.m.trans m (fun i hi e => by have := (h.c.lt i e).1; have := h.nw; omega)).then m2
  · rcases hf g hg with e | e
    · exact h.a g e
    · refine ⟨fun e2 => ?_, fun e2 => ?_, fun e2 => ?_, fun e2 => ?_, fun e2 => ?_⟩
      · have := heap_lt h.v.c1; omega
      · have := heap_lt h.v.c2; omega
      · have := heap_lt h.v.ct; omega
      · have := (h.v.o1.lt g e2).2; omega
      · have := (h.v.o2.lt g e2).2; omega
end
end Go.Proofs.Ytkngmnfgdlnddaa
