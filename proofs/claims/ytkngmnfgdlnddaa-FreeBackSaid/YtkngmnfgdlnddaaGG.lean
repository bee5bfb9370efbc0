/-
  The plain law of a plan.
-/
import Derived.Test.YtkngmnfgdlnddaaGF
set_option linter.unusedSimpArgs false
set_option linter.unusedVariables false
namespace Go.Proofs.Ytkngmnfgdlnddaa
open Go.RowKit Go.Lib Hw Go.Maps
set_option linter.unusedVariables false

structure PlanV where
  trees : List Nat
  lists : List (Nat × List Nat)
  opened : Nat
  pages : Nat
def argB (a b : Int) (pages : Nat) (trees : Int) (most : Nat) : Bool := mayB a b && (decide (2 ≤ pages) && (decide (pages ≤ 65536) && (decide (pages ≤ most) && (decide (most ≤ 65536) && decide (0 ≤ trees)))))
def heldS (held : List Nat) (z : Nat) : Bool := held.contains z
def leftS (chain : List (Nat × List Nat)) (z : Nat) : Bool := chain.any (fun c => c.2.contains z)
def plan2 (E : Int) (chain : List (Nat × List Nat)) (pages : Nat) (held : List Nat) (trees : Nat) (rel : List Nat) (most : Nat) : Int ⊕ PlanV :=
  match treesF (heldS held) most chain trees ⟨0, leftS chain, [], 0, pages⟩ with
  | none => .inl 5
  | some s => match listF s.left (heldS held) most E.toNat pages chain ⟨openN s.left (heldS held) chain rel s.opened, s.opened, s.pages, []⟩ with
    | none => .inl 5
    | some t => .inr ⟨s.trees, dealL E.toNat (setL pages t.s.L) t.lists, t.opened, t.pages⟩
def planF (a b : Int) (chain : List (Nat × List Nat)) (pages : Nat) (held : List Nat) (trees : Int) (rel : List Nat) (most : Nat) : Int ⊕ PlanV :=
  if argB a b pages trees most = true then
    match seenGo (entI a b) pages chain [] with
    | none => .inl 90
    | some acc => match numsGo pages rel acc with
      | none => .inl 90
      | some _ => plan2 (entI a b) chain pages held trees.toNat rel most
  else .inl 2
theorem numsGo_some {pages : Nat} : ∀ (xs acc r : List Nat), numsGo pages xs acc = some r → r = xs.reverse ++ acc ∧ (Met pages acc → Met pages r) ∧ ∀ x ∈ xs, 2 ≤ x ∧ x < pages
  | [], acc, r, h => by
    rw [numsGo] at h
    cases h
    exact ⟨rfl, id, fun x h => by simp at h⟩
  | x :: xs, acc, r, h => by
    rw [numsGo] at h
    by_cases hf : freshB (fun z => acc.contains z) pages x = true
    · rw [if_pos hf] at h
      obtain ⟨h1, h2, h3⟩ := numsGo_some xs _ r h
      refine ⟨by rw [h1]; simp, fun hm => h2 (hm.cons hf), fun y hy => ?_⟩
      rcases List.mem_cons.1 hy with rfl | hy
      · unfold freshB at hf
        simp only [Bool.and_eq_true, decide_eq_true_eq] at hf
        exact hf.2
      · exact h3 y hy
    · rw [if_neg hf] at h
      cases h
theorem seenGo_some {E : Int} {pages : Nat} : ∀ (cs : List (Nat × List Nat)) (acc r : List Nat), seenGo E pages cs acc = some r → r = (flat cs).reverse ++ acc ∧ (Met pages acc → Met pages r) ∧ (∀ x ∈ flat cs, 2 ≤ x ∧ x < pages) ∧ ∀ c ∈ cs, (c.2.length : Int) ≤ E ∧ risB c.2 = true
  | [], acc, r, h => by
    rw [seenGo] at h
    cases h
    exact ⟨rfl, id, fun x h => by simp [flat] at h, fun c h => by simp at h⟩
  | c :: cs, acc, r, h => by
    rw [seenGo] at h
    by_cases hb : batchOk E pages c acc = true
    · rw [if_pos hb] at h
      cases hn : numsGo pages c.2 (c.1 :: acc) with
      | none => rw [hn] at h; cases h
      | some a =>
        rw [hn] at h
        obtain ⟨h1, h2, h3⟩ := numsGo_some _ _ _ hn
        obtain ⟨h4, h5, h6, h7⟩ := seenGo_some cs a r h
        unfold batchOk at hb
        simp only [Bool.and_eq_true, decide_eq_true_eq] at hb
        have hf : freshB (fun z => acc.contains z) pages c.1 = true := hb.1
        have e : flat (c :: cs) = (c.1 :: c.2) ++ flat cs := List.flatMap_cons
        refine ⟨by rw [h4, h1, e]; simp, fun hm => h5 (h2 (hm.cons hf)), fun x hx => ?_, fun d hd => ?_⟩
        · rw [e] at hx
          rcases List.mem_append.1 hx with hx | hx
          · rcases List.mem_cons.1 hx with rfl | hx
            · unfold freshB at hf
              simp only [Bool.and_eq_true, decide_eq_true_eq] at hf
              exact hf.2
            · exact h3 x hx
          · exact h6 x hx
        · rcases List.mem_cons.1 hd with rfl | hd
          · exact hb.2
          · exact h7 d hd
    · rw [if_neg hb] at h
      cases h
theorem good_of {E : Int} {pages : Nat} {chain : List (Nat × List Nat)} {rel acc acc2 : List Nat} (h : seenGo E pages chain [] = some acc) (h2 : numsGo pages rel acc = some acc2) : Good pages chain rel := by
  obtain ⟨h3, h4, h5, _⟩ := seenGo_some chain [] acc h
  obtain ⟨h6, h7, h8⟩ := numsGo_some rel acc acc2 h2
  have hm := h7 (h4 ⟨List.nodup_nil, fun x h => by simp at h⟩)
  rw [h6, h3, List.append_nil, ← List.reverse_append] at hm
  refine ⟨hm.1.perm (List.reverse_perm _), fun x hx => hm.2 x (List.mem_reverse.2 hx)⟩
theorem left_mem {chain : List (Nat × List Nat)} {z : Nat} (h : leftS chain z = true) : z ∈ flat chain := by
  unfold leftS at h
  obtain ⟨c, hc, hz⟩ := List.any_eq_true.1 h
  exact List.mem_flatMap.2 ⟨c, hc, List.mem_cons_of_mem _ (List.contains_iff_mem.1 hz)⟩
theorem scanF_some {m : Nat → Bool} : ∀ (cs : List (Nat × List Nat)) (k a no : Nat), scanF m cs k = (a, some no) → k ≤ a ∧ a < k + cs.length ∧ m no = true
  | [], k, a, no, h => by rw [scanF] at h; cases h
  | c :: r, k, a, no, h => by
    rw [scanF] at h
    cases hf : c.2.find? m with
    | some y =>
      rw [hf] at h
      cases h
      exact ⟨Nat.le_refl _, by rw [List.length_cons]; omega, List.find?_some hf⟩
    | none =>
      rw [hf] at h
      obtain ⟨h1, h2, h3⟩ := scanF_some r (k + 1) a no h
      exact ⟨by omega, by rw [List.length_cons]; omega, h3⟩
/-- what holds of a state of trees all along -/
structure TOk (most p0 len : Nat) (s : TS) : Prop where
  inv : TInv s
  op : s.opened ≤ len
  at_ : s.at_ ≤ len
  lo : p0 ≤ s.pages
  hi : s.pages ≤ most
theorem treeF_ok {held : Nat → Bool} {most p0 : Nat} {chain : List (Nat × List Nat)} {s s2 : TS} (h : TOk most p0 chain.length s) (ht : treeF held most chain s = some s2) : TOk most p0 chain.length s2 := by
  cases hs : scanF (mayF s.left held) (chain.drop s.at_) s.at_ with
  | mk a o =>
    have hle := scanF_le (m := mayF s.left held) (chain.drop s.at_) s.at_
    rw [hs, List.length_drop] at hle
    have hat := h.at_
    simp only at hle
    cases o with
    | some no =>
      rw [treeF_yes hs] at ht
      cases ht
      obtain ⟨h1, h2, h3⟩ := scanF_some _ _ _ _ hs
      rw [List.length_drop] at h2
      have h4 : s.left no = true := by unfold mayF at h3; exact (Bool.and_eq_true_iff.1 h3).1
      exact ⟨h.inv.take a no h4, by show a + 1 ≤ _; omega, by show a ≤ _; omega, h.lo, h.hi⟩
    | none =>
      rw [treeF_no hs] at ht
      by_cases hp : s.pages < most
      · rw [if_pos hp] at ht
        cases ht
        exact ⟨h.inv.grow a, h.op, by show a ≤ _; omega, Nat.le_succ_of_le h.lo, hp⟩
      · rw [if_neg hp] at ht
        cases ht
theorem treesF_ok {held : Nat → Bool} {most p0 : Nat} {chain : List (Nat × List Nat)} : ∀ (n : Nat) (s s2 : TS), TOk most p0 chain.length s → treesF held most chain n s = some s2 → TOk most p0 chain.length s2
  | 0, s, s2, h, ht => by rw [treesF] at ht; cases ht; exact h
  | n + 1, s, s2, h, ht => by
    rw [treesF] at ht
    cases h1 : treeF held most chain s with
    | none => rw [h1] at ht; cases ht
    | some s3 => rw [h1] at ht; exact treesF_ok n s3 s2 (treeF_ok h h1) ht
theorem tok_start {E : Int} {pages most : Nat} {chain : List (Nat × List Nat)} {rel acc acc2 : List Nat} (h : seenGo E pages chain [] = some acc) (h2 : numsGo pages rel acc = some acc2) (hm : pages ≤ most) : TOk most pages chain.length ⟨0, leftS chain, [], 0, pages⟩ := by
  have hg := good_of h h2
  exact ⟨⟨⟨List.nodup_nil, fun x h => by simp at h⟩, fun x hx => ⟨hg.2 x (List.mem_append_left _ (left_mem hx)), by simp⟩⟩, Nat.zero_le _, Nat.zero_le _, Nat.le_refl _, hm⟩
end Go.Proofs.Ytkngmnfgdlnddaa

