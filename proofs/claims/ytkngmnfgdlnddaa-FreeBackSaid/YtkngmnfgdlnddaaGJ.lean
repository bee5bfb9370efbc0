/-
  Plain laws of a plan: what holds all along while it is made. Plan, as the laws ask it; the walk of FreeFew. A number in a list; the numbers that a plan takes. The walk of FreeWanted.
-/
import Derived.Test.YtkngmnfgdlnddaaGG
import Derived.Test.YtkngmnfgdlnddaaGH
set_option linter.unusedSimpArgs false
set_option linter.unusedVariables false
namespace Go.Proofs.Ytkngmnfgdlnddaa
open Go.RowKit Go.Lib Hw Go.Maps
set_option linter.unusedSimpArgs false
set_option linter.unusedVariables false

theorem planF_inl {a b : Int} {chain : List (Nat × List Nat)} {pages most : Nat} {held rel : List Nat} {trees k : Int} (h : planF a b chain pages held trees rel most = .inl k) : k = 2 ∨ k = 5 ∨ k = 90 := by
  unfold planF at h
  split at h
  · split at h
    · cases h; exact .inr (.inr rfl)
    · split at h
      · cases h; exact .inr (.inr rfl)
      · unfold plan2 at h
        split at h
        · cases h; exact .inr (.inl rfl)
        · split at h
          · cases h; exact .inr (.inl rfl)
          · cases h
  · cases h; exact .inl rfl
/-- what a plan that is told was made of -/
structure PMade (a b : Int) (chain : List (Nat × List Nat)) (pages : Nat) (held : List Nat) (trees : Int) (rel : List Nat) (most : Nat) (p : PlanV) (s : TS) (t : LSt) : Prop where
  arg : argB a b pages trees most = true
  seen : ∃ acc, seenGo (entI a b) pages chain [] = some acc ∧ ∃ acc2, numsGo pages rel acc = some acc2
  st : treesF (heldS held) most chain trees.toNat ⟨0, leftS chain, [], 0, pages⟩ = some s
  lt : listF s.left (heldS held) most (entI a b).toNat pages chain ⟨openN s.left (heldS held) chain rel s.opened, s.opened, s.pages, []⟩ = some t
  eq : p = ⟨s.trees, dealL (entI a b).toNat (setL pages t.s.L) t.lists, t.opened, t.pages⟩
theorem planF_inr {a b : Int} {chain : List (Nat × List Nat)} {pages most : Nat} {held rel : List Nat} {trees : Int} {p : PlanV} (h : planF a b chain pages held trees rel most = .inr p) : ∃ s t, PMade a b chain pages held trees rel most p s t := by
  unfold planF at h
  split at h
  · rename_i ha
    split at h
    · cases h
    · rename_i acc h1
      split at h
      · cases h
      · rename_i acc2 h2
        unfold plan2 at h
        split at h
        · cases h
        · rename_i s h3
          split at h
          · cases h
          · rename_i t h4
            cases h
            exact ⟨s, t, ha, ⟨acc, h1, acc2, h2⟩, h3, h4, rfl⟩
  · cases h
theorem listG_ind {left held : Nat → Bool} {most n P : Nat} {chain : List (Nat × List Nat)} (I : LSt → Prop) (hI : ∀ t t2, I t → moreL n P t = true → stepL left held most P chain t = some t2 → I t2) : ∀ (k : Nat) (t t2 : LSt), I t → listG left held most n P chain k t = some t2 → I t2
  | 0, t, t2, h, e => by rw [listG] at e; cases e; exact h
  | k + 1, t, t2, h, e => by
    rw [listG] at e
    by_cases hm : moreL n P t = true
    · rw [if_pos hm] at e
      cases hs : stepL left held most P chain t with
      | none => rw [hs] at e; cases e
      | some t3 => rw [hs] at e; exact listG_ind I hI k t3 t2 (hI t t3 h hm hs) e
    · rw [if_neg hm] at e
      cases e
      exact h
theorem treesF_ind {held : Nat → Bool} {most : Nat} {chain : List (Nat × List Nat)} (I : TS → Prop) (hI : ∀ s s2, I s → treeF held most chain s = some s2 → I s2) : ∀ (n : Nat) (s s2 : TS), I s → treesF held most chain n s = some s2 → I s2
  | 0, s, s2, h, e => by rw [treesF] at e; cases e; exact h
  | n + 1, s, s2, h, e => by
    rw [treesF] at e
    cases h1 : treeF held most chain s with
    | none => rw [h1] at e; cases e
    | some s3 => rw [h1] at e; exact treesF_ind I hI n s3 s2 (hI s s3 h h1) e
theorem treesF_len {held : Nat → Bool} {most : Nat} {chain : List (Nat × List Nat)} : ∀ (n : Nat) (s s2 : TS), treesF held most chain n s = some s2 → s2.trees.length = s.trees.length + n
  | 0, s, s2, e => by rw [treesF] at e; cases e; rfl
  | n + 1, s, s2, e => by
    rw [treesF] at e
    cases h1 : treeF held most chain s with
    | none => rw [h1] at e; cases e
    | some s3 =>
      rw [h1] at e
      have h2 := treesF_len n s3 s2 e
      have h3 : s3.trees.length = s.trees.length + 1 := by
        unfold treeF at h1
        split at h1
        · cases h1; simp [TS.take]
        · split at h1
          · cases h1; simp [TS.grow]
          · cases h1
      omega
theorem scanF_no {m : Nat → Bool} : ∀ (cs : List (Nat × List Nat)) (k a : Nat) (o : Option Nat), scanF m cs k = (a, o) → k ≤ a ∧ a ≤ k + cs.length ∧ (∀ c ∈ cs.take (a - k), ∀ z ∈ c.2, m z = false) ∧ (o = none → a = k + cs.length)
  | [], k, a, o, h => by
    rw [scanF] at h
    cases h
    exact ⟨Nat.le_refl _, Nat.le_refl _, fun c hc => by simp at hc, fun _ => rfl⟩
  | c :: r, k, a, o, h => by
    rw [scanF] at h
    cases hf : c.2.find? m with
    | some y =>
      rw [hf] at h
      cases h
      exact ⟨Nat.le_refl _, by omega, fun d hd => by simp at hd, fun h => by cases h⟩
    | none =>
      rw [hf] at h
      obtain ⟨h1, h2, h3, h4⟩ := scanF_no r (k + 1) a o h
      refine ⟨by omega, by rw [List.length_cons]; omega, fun d hd z hz => ?_, fun e => by rw [List.length_cons, h4 e]; omega⟩
      have e : a - k = (a - (k + 1)) + 1 := by omega
      rw [e, List.take_succ_cons] at hd
      rcases List.mem_cons.1 hd with rfl | hd
      · have := List.find?_eq_none.1 hf z hz
        simpa using this
      · exact h3 d hd z hz
/-- the trees' state: what is behind `at_` is used up; the count grew only where all is -/
structure TW (held : Nat → Bool) (chain : List (Nat × List Nat)) (p0 most : Nat) (s : TS) : Prop where
  op : s.opened ≤ s.at_ + 1
  len : s.opened ≤ chain.length
  at_ : s.at_ ≤ chain.length
  no : ∀ c ∈ chain.take s.at_, ∀ z ∈ c.2, mayF s.left held z = false
  gr : s.pages ≠ p0 → s.at_ = chain.length
  lf : ∀ z, s.left z = true ↔ (leftS chain z = true ∧ z ∉ s.trees)
  lt : ∀ z, leftS chain z = true → z < p0
  tr : ∀ x ∈ s.trees, x < p0 → leftS chain x = true ∧ held x = false
  lo : p0 ≤ s.pages
  tk : ∀ x ∈ s.trees, x < p0 → ∃ c ∈ chain.take s.opened, x ∈ c.2
theorem scan_yes {m : Nat → Bool} : ∀ (cs : List (Nat × List Nat)) (k a no : Nat), scanF m cs k = (a, some no) → ∃ h : a - k < cs.length, no ∈ (cs[a - k]).2
  | [], k, a, no, h => by rw [scanF] at h; cases h
  | c :: r, k, a, no, h => by
    have hle := (scanF_no _ _ _ _ h).1
    rw [scanF] at h
    cases hf : c.2.find? m with
    | some y =>
      rw [hf] at h
      cases h
      exact ⟨by simp, by simpa using List.mem_of_find?_eq_some hf⟩
    | none =>
      rw [hf] at h
      have h1 := (scanF_no _ _ _ _ h).1
      obtain ⟨h2, h3⟩ := scan_yes r (k + 1) a no h
      have e : a - k = (a - (k + 1)) + 1 := by omega
      refine ⟨by rw [List.length_cons]; omega, ?_⟩
      simp only [e, List.getElem_cons_succ]
      exact h3
theorem treeF_tw {held : Nat → Bool} {most p0 : Nat} {chain : List (Nat × List Nat)} {s s2 : TS} (h : TW held chain p0 most s) (ht : treeF held most chain s = some s2) : TW held chain p0 most s2 := by
  cases hs : scanF (mayF s.left held) (chain.drop s.at_) s.at_ with
  | mk a o =>
    obtain ⟨h1, h2, h3, h4⟩ := scanF_no _ _ _ _ hs
    rw [List.length_drop] at h2 h4
    have hat := h.at_
    have hop := h.op
    have hno : ∀ c ∈ chain.take a, ∀ z ∈ c.2, mayF s.left held z = false := fun c hc z hz => by
      have e : chain.take a = chain.take s.at_ ++ (chain.drop s.at_).take (a - s.at_) := by
        rw [← List.take_add, show s.at_ + (a - s.at_) = a by omega]
      rw [e] at hc
      rcases List.mem_append.1 hc with hc | hc
      · exact h.no c hc z hz
      · exact h3 c hc z hz
    cases o with
    | some no =>
      rw [treeF_yes hs] at ht
      cases ht
      obtain ⟨g1, g2, g3⟩ := scanF_some _ _ _ _ hs
      rw [List.length_drop] at g2
      obtain ⟨y1, y2⟩ := scan_yes _ _ _ _ hs
      rw [List.getElem_drop] at y2
      have g4 : s.left no = true ∧ held no = false := by
        unfold mayF at g3
        simpa using g3
      have hal : a < chain.length := by omega
      have y3 : no ∈ (chain[a]).2 := by
        have e : s.at_ + (a - s.at_) = a := by omega
        simpa only [e] using y2
      refine ⟨Nat.le_refl _, by show a + 1 ≤ _; omega, by show a ≤ _; omega, fun c hc z hz => ?_, fun e => ?_, fun z => ?_, h.lt, fun x hx hp => ?_, h.lo, fun x hx hp => ?_⟩
      · have := hno c hc z hz
        unfold mayF at this ⊢
        simp only [TS.take]
        cases hl : s.left z with
        | false => simp
        | true => rw [hl] at this; simpa using fun _ => this
      · have := h.gr e
        omega
      · simp only [TS.take, Bool.and_eq_true, Bool.not_eq_true', decide_eq_false_iff_not, List.mem_append, List.mem_singleton, not_or]
        rw [h.lf z]
        constructor
        · rintro ⟨q1, q2, q3⟩; exact ⟨q2, q3, q1⟩
        · rintro ⟨q1, q2, q3⟩; exact ⟨q3, q1, q2⟩
      · rcases List.mem_append.1 hx with hx | hx
        · exact h.tr x hx hp
        · rw [List.mem_singleton.1 hx]
          exact ⟨((h.lf no).1 g4.1).1, g4.2⟩
      · rcases List.mem_append.1 hx with hx | hx
        · obtain ⟨c, hc, hz⟩ := h.tk x hx hp
          refine ⟨c, ?_, hz⟩
          exact List.mem_of_mem_take (i := s.opened) (by rw [List.take_take, Nat.min_eq_left (by show s.opened ≤ a + 1; omega)]; exact hc)
        · rw [List.mem_singleton.1 hx]
          exact ⟨chain[a], List.mem_take_iff_getElem.2 ⟨a, by show a < min (a + 1) _; omega, rfl⟩, y3⟩
    | none =>
      rw [treeF_no hs] at ht
      by_cases hp : s.pages < most
      · rw [if_pos hp] at ht
        cases ht
        have hae := h4 rfl
        refine ⟨by show s.opened ≤ a + 1; omega, h.len, by show a ≤ _; omega, fun c hc z hz => hno c hc z hz, fun _ => by show a = _; omega, fun z => ?_, h.lt, fun x hx hp => ?_, Nat.le_succ_of_le h.lo, fun x hx hp => ?_⟩
        · simp only [TS.grow, List.mem_append, List.mem_singleton, not_or]
          rw [h.lf z]
          constructor
          · rintro ⟨q1, q2⟩
            have := h.lt z q1
            have := h.lo
            exact ⟨q1, q2, by omega⟩
          · rintro ⟨q1, q2, q3⟩; exact ⟨q1, q2⟩
        · rcases List.mem_append.1 hx with hx | hx
          · exact h.tr x hx hp
          · have := List.mem_singleton.1 hx
            have := h.lo
            omega
        · rcases List.mem_append.1 hx with hx | hx
          · exact h.tk x hx hp
          · have := List.mem_singleton.1 hx
            have := h.lo
            omega
      · rw [if_neg hp] at ht
        cases ht
theorem tw_start {held : Nat → Bool} {chain : List (Nat × List Nat)} {rel : List Nat} {pages most : Nat} (hg : Good pages chain rel) : TW held chain pages most ⟨0, leftS chain, [], 0, pages⟩ :=
  ⟨Nat.zero_le _, Nat.zero_le _, Nat.zero_le _, fun c hc => by simp at hc, fun e => absurd rfl e, fun z => by simp, fun z hz => hg.2 z (List.mem_append_left _ (left_mem hz)), fun x hx => by simp at hx, Nat.le_refl _, fun x hx => by simp at hx⟩
theorem mem_leftS {chain : List (Nat × List Nat)} {c : Nat × List Nat} {z : Nat} (hc : c ∈ chain) (hz : z ∈ c.2) : leftS chain z = true := List.any_eq_true.2 ⟨c, hc, List.contains_iff_mem.2 hz⟩
/-- the list pages' state -/
structure LW (left held : Nat → Bool) (P p0 most : Nat) (chain : List (Nat × List Nat)) (rel : List Nat) (t : LSt) : Prop where
  sinv : SInv chain rel t.opened t.s
  op : t.opened ≤ chain.length
  lo : p0 ≤ t.pages
  hi : t.pages ≤ most
  ls : ∀ x ∈ t.lists, x < t.pages ∧ (P ≤ x → t.opened = chain.length)
  cn : ∀ c ∈ chain.take t.opened, ∀ z ∈ c.2, mayF left held z = true → t.s.C z = true ∨ z ∈ t.lists
  cm : ∀ z, t.s.C z = true → mayF left held z = true
  gr : t.pages ≠ p0 → t.opened = chain.length ∧ setL P t.s.C = []
  lm : ∀ x ∈ t.lists, x < P → mayF left held x = true
theorem stepL_lw {left held : Nat → Bool} {most P p0 : Nat} {chain : List (Nat × List Nat)} {rel : List Nat} {t t2 : LSt} (hP : P ≤ p0) (h : LW left held P p0 most chain rel t) (hs : stepL left held most P chain t = some t2) : LW left held P p0 most chain rel t2 := by
  have hop := h.op
  have hlo := h.lo
  have hhi := h.hi
  unfold stepL at hs
  cases hC : setL P t.s.C with
  | cons x r =>
    rw [hC] at hs
    cases hs
    have hx : x < P ∧ t.s.C x = true := setL_mem.1 (by rw [hC]; exact List.mem_cons_self ..)
    refine ⟨h.sinv.drop x, h.op, h.lo, h.hi, fun y hy => ?_, fun c hc z hz hm => ?_, fun z hz => h.cm z (Bool.and_eq_true_iff.1 hz).1, fun e => ?_, fun y hy hp => ?_⟩
    · rcases List.mem_append.1 hy with hy | hy
      · exact h.ls y hy
      · rw [List.mem_singleton.1 hy]
        exact ⟨by show x < t.pages; omega, fun h => by omega⟩
    · rcases h.cn c hc z hz hm with h1 | h1
      · by_cases e : z = x
        · exact .inr (List.mem_append_right _ (by rw [e]; exact List.mem_cons_self ..))
        · exact .inl (by simp [dropS, h1, e])
      · exact .inr (List.mem_append_left _ h1)
    · have := (h.gr e).2
      rw [hC] at this
      cases this
    · rcases List.mem_append.1 hy with hy | hy
      · exact h.lm y hy hp
      · rw [List.mem_singleton.1 hy]
        exact h.cm x hx.2
  | nil =>
    rw [hC] at hs
    cases hc : chain[t.opened]? with
    | some c =>
      rw [hc] at hs
      cases hs
      obtain ⟨hj, hc2⟩ := List.getElem?_eq_some_iff.1 hc
      subst hc2
      refine ⟨SInv.open (P := P) h.sinv left held hj, hj, h.lo, h.hi, fun y hy => ?_, fun d hd z hz hm => ?_, fun z hz => ?_, fun e => ?_, h.lm⟩
      · exact ⟨(h.ls y hy).1, fun h2 => by have := (h.ls y hy).2 h2; omega⟩
      · rw [show (LSt.mk (openB left held t.s chain[t.opened]) (t.opened + 1) t.pages t.lists).opened = t.opened + 1 from rfl, List.take_succ_eq_append_getElem hj] at hd
        rcases List.mem_append.1 hd with hd | hd
        · rcases h.cn d hd z hz hm with h1 | h1
          · exact .inl (by simp [openB, h1])
          · exact .inr h1
        · rw [List.mem_singleton.1 hd] at hz
          exact .inl (by simp [openB, hm, hz])
      · simp only [openB, Bool.or_eq_true, Bool.and_eq_true] at hz
        rcases hz with h1 | h1
        · exact h.cm z h1
        · exact h1.2
      · have := (h.gr e).1
        omega
    | none =>
      rw [hc] at hs
      have hj := List.getElem?_eq_none_iff.1 hc
      by_cases hp : t.pages < most
      · dsimp only at hs
        rw [if_pos hp] at hs
        cases hs
        have heq : t.opened = chain.length := by omega
        refine ⟨h.sinv, h.op, by show p0 ≤ t.pages + 1; omega, hp, fun y hy => ?_, fun d hd z hz hm => ?_, h.cm, fun _ => ⟨heq, hC⟩, fun y hy hp => ?_⟩
        · rcases List.mem_append.1 hy with hy | hy
          · exact ⟨by have := (h.ls y hy).1; show y < t.pages + 1; omega, (h.ls y hy).2⟩
          · rw [List.mem_singleton.1 hy]
            exact ⟨Nat.lt_succ_self _, fun _ => heq⟩
        · rcases h.cn d hd z hz hm with h1 | h1
          · exact .inl h1
          · exact .inr (List.mem_append_left _ h1)
        · rcases List.mem_append.1 hy with hy | hy
          · exact h.lm y hy hp
          · have := List.mem_singleton.1 hy
            omega
      · dsimp only at hs
        rw [if_neg hp] at hs
        cases hs
theorem openN_C {left held : Nat → Bool} {chain : List (Nat × List Nat)} {rel : List Nat} (z : Nat) : ∀ (j : Nat), j ≤ chain.length → ((openN left held chain rel j).C z = true ↔ mayF left held z = true ∧ ∃ c ∈ chain.take j, z ∈ c.2)
  | 0, _ => by
    show (false = true ↔ _)
    simp
  | j + 1, h => by
    rw [openN_succ (by omega), List.take_succ_eq_append_getElem (by omega)]
    simp only [openB, Bool.or_eq_true, Bool.and_eq_true, List.contains_iff_mem, List.mem_append, List.mem_singleton]
    rw [openN_C z j (by omega)]
    constructor
    · rintro (⟨h1, c, h2, h3⟩ | ⟨h1, h2⟩)
      · exact ⟨h1, c, .inl h2, h3⟩
      · exact ⟨h2, _, .inr rfl, h1⟩
    · rintro ⟨h1, c, h2 | h2, h3⟩
      · exact .inl ⟨h1, c, h2, h3⟩
      · subst h2; exact .inr ⟨h3, h1⟩
theorem lw_start {left held : Nat → Bool} {P p0 most : Nat} {chain : List (Nat × List Nat)} {rel : List Nat} {j : Nat} (hj : j ≤ chain.length) (hm : p0 ≤ most) : LW left held P p0 most chain rel ⟨openN left held chain rel j, j, p0, []⟩ :=
  ⟨openN_inv (P := P) j hj, hj, Nat.le_refl _, hm, fun x hx => by simp at hx, fun c hc z hz hm => .inl ((openN_C z j hj).2 ⟨hm, c, hc, hz⟩), fun z hz => ((openN_C z j hj).1 hz).1, fun e => absurd rfl e, fun x hx => by simp at hx⟩
theorem dealL_fst (n : Nat) : ∀ (ps xs : List Nat), (dealL n xs ps).map (·.1) = ps
  | [], _ => rfl
  | p :: r, xs => by rw [dealL, List.map_cons, dealL_fst n r]
theorem dealL_mem (n : Nat) : ∀ (ps xs : List Nat) (c : Nat × List Nat), c ∈ dealL n xs ps → c.1 ∈ ps ∧ ∀ z ∈ c.2, z ∈ xs
  | [], _, c, h => by simp [dealL] at h
  | p :: r, xs, c, h => by
    rw [dealL] at h
    rcases List.mem_cons.1 h with rfl | h
    · exact ⟨List.mem_cons_self .., fun z hz => List.mem_of_mem_take hz⟩
    · obtain ⟨h1, h2⟩ := dealL_mem n r _ c h
      exact ⟨List.mem_cons_of_mem _ h1, fun z hz => List.mem_of_mem_drop (h2 z hz)⟩
/-- all that holds of a plan that is told -/
structure PFacts (a b : Int) (chain : List (Nat × List Nat)) (pages : Nat) (held : List Nat) (rel : List Nat) (most : Nat) (s : TS) (t : LSt) : Prop where
  may : mayB a b = true
  p2 : 2 ≤ pages
  pm : pages ≤ most
  m6 : most ≤ 65536
  good : Good pages chain rel
  low : ∀ x ∈ flat chain ++ rel, 2 ≤ x
  few : ∀ c ∈ chain, (c.2.length : Int) ≤ entI a b ∧ risB c.2 = true
  tw : TW (heldS held) chain pages most s
  tok : TOk most pages chain.length s
  lw : LW s.left (heldS held) pages s.pages most chain rel t
theorem PMade.facts {a b : Int} {chain : List (Nat × List Nat)} {pages most : Nat} {held rel : List Nat} {trees : Int} {p : PlanV} {s : TS} {t : LSt} (h : PMade a b chain pages held trees rel most p s t) : PFacts a b chain pages held rel most s t := by
  have ha := h.arg
  unfold argB at ha
  simp only [Bool.and_eq_true, decide_eq_true_eq] at ha
  obtain ⟨acc, h1, acc2, h2⟩ := h.seen
  have hg := good_of h1 h2
  obtain ⟨_, _, h5, h6⟩ := seenGo_some chain [] acc h1
  obtain ⟨_, _, h8⟩ := numsGo_some rel acc acc2 h2
  have tok := treesF_ok _ _ _ (tok_start h1 h2 ha.2.2.2.1) h.st
  have tw := treesF_ind (TW (heldS held) chain pages most) (fun s s2 => treeF_tw) _ _ _ (tw_start hg) h.st
  have lw := listG_ind (LW s.left (heldS held) pages s.pages most chain rel) (fun t t2 hl _ hs => stepL_lw tok.lo hl hs) _ _ _ (lw_start tok.op tok.hi) h.lt
  refine ⟨ha.1, ha.2.1, ha.2.2.2.1, ha.2.2.2.2.1, hg, fun x hx => ?_, h6, tw, tok, lw⟩
  rcases List.mem_append.1 hx with hx | hx
  · exact (h5 x hx).1
  · exact (h8 x hx).1
theorem setL_sub {P : Nat} {L : Nat → Bool} {ys : List Nat} (h : ∀ z, z < P → L z = true → z ∈ ys) : (setL P L).length ≤ ys.length :=
  nodup_le (setL P L) ys (setL_nodup P L) (fun z hz => h z (setL_mem.1 hz).1 (setL_mem.1 hz).2)
/-- few list pages -/
structure FW (left : Nat → Bool) (E P : Nat) (chain : List (Nat × List Nat)) (rel : List Nat) (t : LSt) : Prop where
  sinv : SInv chain rel t.opened t.s
  op : t.opened ≤ chain.length
  l : ∀ z, z < P → t.s.L z = true → z ∈ rel ∨ z ∈ (chain.take t.opened).map (·.1) ∨ t.s.C z = true
  c : (setL P t.s.C).length ≤ E
  k : t.lists.length = 0 ∨ (t.lists.length - 1) * E < rel.length + t.opened + E
  z : t.opened = 0 → rel = [] → t.lists = []
theorem FW.lt {left : Nat → Bool} {E P : Nat} {chain : List (Nat × List Nat)} {rel : List Nat} {t : LSt} (h : FW left E P chain rel t) : (setL P t.s.L).length ≤ rel.length + t.opened + (setL P t.s.C).length := by
  have h1 := setL_sub (P := P) (L := t.s.L) (ys := rel ++ ((chain.take t.opened).map (·.1) ++ setL P t.s.C)) (fun z hz hL => by
    rcases h.l z hz hL with h2 | h2 | h2
    · exact List.mem_append_left _ h2
    · exact List.mem_append_right _ (List.mem_append_left _ h2)
    · exact List.mem_append_right _ (List.mem_append_right _ (setL_mem.2 ⟨hz, h2⟩)))
  have hop := h.op
  simp only [List.length_append, List.length_map, List.length_take] at h1
  omega
theorem FW.nz {left : Nat → Bool} {E P : Nat} {chain : List (Nat × List Nat)} {rel : List Nat} {t : LSt} (h : FW left E P chain rel t) (h0 : t.opened = 0) (hr : rel = []) : setL P t.s.L = [] := by
  refine List.eq_nil_iff_forall_not_mem.2 (fun z hz => ?_)
  rcases h.sinv.1 z (setL_mem.1 hz).2 with h1 | h1
  · rw [hr] at h1; simp at h1
  · rw [h0] at h1; simp [flat] at h1
theorem stepL_fw {left held : Nat → Bool} {E most P : Nat} {chain : List (Nat × List Nat)} {rel : List Nat} {t t2 : LSt} (hh : ∀ z, held z = false) (hE : ∀ c ∈ chain, c.2.length ≤ E) (h : FW left E P chain rel t) (hm : moreL E P t = true) (hs : stepL left held most P chain t = some t2) : FW left E P chain rel t2 := by
  have hlt := h.lt
  have hc0 := h.c
  have hm2 := of_decide_eq_true hm
  have hop := h.op
  have hnz : t.opened = 0 → rel = [] → False := fun h0 hr => by
    rw [h.nz h0 hr] at hm2
    exact Nat.not_lt_zero _ hm2
  unfold stepL at hs
  cases hC : setL P t.s.C with
  | cons x r =>
    rw [hC] at hs
    cases hs
    refine ⟨h.sinv.drop x, h.op, fun z hz hL => ?_, ?_, .inr ?_, fun h0 hr => absurd (hnz h0 hr) id⟩
    · simp only [dropS, Bool.and_eq_true] at hL ⊢
      rcases h.l z hz hL.1 with h1 | h1 | h1
      · exact .inl h1
      · exact .inr (.inl h1)
      · exact .inr (.inr ⟨h1, hL.2⟩)
    · refine Nat.le_trans (setL_sub (fun z hz hc => ?_)) hc0
      exact setL_mem.2 ⟨hz, (Bool.and_eq_true_iff.1 hc).1⟩
    · show ((t.lists ++ [x]).length - 1) * E < _
      rw [List.length_append, List.length_singleton, Nat.add_sub_cancel]
      show _ < rel.length + t.opened + E
      omega
  | nil =>
    rw [hC] at hs
    cases hc : chain[t.opened]? with
    | some c =>
      rw [hc] at hs
      cases hs
      obtain ⟨hj, hc2⟩ := List.getElem?_eq_some_iff.1 hc
      subst hc2
      refine ⟨SInv.open (P := P) h.sinv left held hj, hj, fun z hz hL => ?_, ?_, ?_, fun h0 _ => by cases h0⟩
      · show _ ∨ z ∈ (chain.take (t.opened + 1)).map (·.1) ∨ _
        rw [List.take_succ_eq_append_getElem hj, List.map_append]
        simp only [openB, Bool.or_eq_true, Bool.and_eq_true, decide_eq_true_eq] at hL ⊢
        rcases hL with h1 | h1 | h1
        · rcases h.l z hz h1 with h2 | h2 | h2
          · exact .inl h2
          · exact .inr (.inl (List.mem_append_left _ h2))
          · exact .inr (.inr (.inl h2))
        · exact .inr (.inl (List.mem_append_right _ (by rw [h1]; exact List.mem_cons_self ..)))
        · refine .inr (.inr (.inr ⟨h1.1, ?_⟩))
          unfold mayF
          rw [h1.2, hh z]
          rfl
      · refine Nat.le_trans (setL_sub (ys := chain[t.opened].2) (fun z hz hc => ?_)) (hE _ (List.getElem_mem hj))
        simp only [openB, Bool.or_eq_true, Bool.and_eq_true, List.contains_iff_mem] at hc
        rcases hc with h1 | h1
        · have := setL_mem.2 ⟨hz, h1⟩
          rw [hC] at this
          simp at this
        · exact h1.1
      · rcases h.k with h1 | h1
        · exact .inl h1
        · exact .inr (by show (t.lists.length - 1) * E < rel.length + (t.opened + 1) + E; omega)
    | none =>
      rw [hc] at hs
      by_cases hp : t.pages < most
      · dsimp only at hs
        rw [if_pos hp] at hs
        cases hs
        refine ⟨h.sinv, h.op, h.l, h.c, .inr ?_, fun h0 hr => absurd (hnz h0 hr) id⟩
        show ((t.lists ++ [t.pages]).length - 1) * E < _
        rw [List.length_append, List.length_singleton, Nat.add_sub_cancel]
        show _ < rel.length + t.opened + E
        omega
      · dsimp only at hs
        rw [if_neg hp] at hs
        cases hs
theorem openN_L {left held : Nat → Bool} {chain : List (Nat × List Nat)} {rel : List Nat} (z : Nat) : ∀ (j : Nat), j ≤ chain.length → ((openN left held chain rel j).L z = true ↔ z ∈ rel ∨ z ∈ (chain.take j).map (·.1) ∨ (left z = true ∧ ∃ c ∈ chain.take j, z ∈ c.2))
  | 0, _ => by
    show (rel.contains z = true ↔ _)
    simp [List.contains_iff_mem]
  | j + 1, h => by
    rw [openN_succ (by omega), List.take_succ_eq_append_getElem (by omega), List.map_append]
    simp only [openB, Bool.or_eq_true, Bool.and_eq_true, decide_eq_true_eq, List.contains_iff_mem, List.mem_append, List.mem_singleton, List.map_cons, List.map_nil]
    rw [openN_L z j (by omega)]
    constructor
    · rintro ((h1 | h1 | ⟨h1, c, h2, h3⟩) | h1 | ⟨h1, h2⟩)
      · exact .inl h1
      · exact .inr (.inl (.inl h1))
      · exact .inr (.inr ⟨h1, c, .inl h2, h3⟩)
      · exact .inr (.inl (.inr h1))
      · exact .inr (.inr ⟨h2, _, .inr rfl, h1⟩)
    · rintro (h1 | (h1 | h1) | ⟨h1, c, h2 | h2, h3⟩)
      · exact .inl (.inl h1)
      · exact .inl (.inr (.inl h1))
      · exact .inr (.inl h1)
      · exact .inl (.inr (.inr ⟨h1, c, h2, h3⟩))
      · subst h2; exact .inr (.inr ⟨h3, h1⟩)
theorem fw_start {left held : Nat → Bool} {E P p0 : Nat} {chain : List (Nat × List Nat)} {rel : List Nat} {j at_ : Nat} (hh : ∀ z, held z = false) (hE : ∀ c ∈ chain, c.2.length ≤ E) (hj : j ≤ chain.length) (hja : j ≤ at_ + 1) (hno : ∀ c ∈ chain.take at_, ∀ z ∈ c.2, mayF left held z = false) : FW left E P chain rel ⟨openN left held chain rel j, j, p0, []⟩ := by
  refine ⟨openN_inv (P := P) j hj, hj, fun z _ hL => ?_, ?_, .inl rfl, fun _ _ => rfl⟩
  · rcases (openN_L z j hj).1 hL with h1 | h1 | ⟨h1, h2⟩
    · exact .inl h1
    · exact .inr (.inl h1)
    · exact .inr (.inr ((openN_C z j hj).2 ⟨by unfold mayF; rw [h1, hh z]; rfl, h2⟩))
  · by_cases h0 : at_ < chain.length
    · refine Nat.le_trans (setL_sub (ys := chain[at_].2) (fun z _ hC => ?_)) (hE _ (List.getElem_mem h0))
      obtain ⟨h1, c, h2, h3⟩ := (openN_C z j hj).1 hC
      have h4 : c ∈ chain.take (at_ + 1) := List.mem_of_mem_take (i := j) (by rw [List.take_take, Nat.min_eq_left hja]; exact h2)
      rw [List.take_succ_eq_append_getElem h0] at h4
      rcases List.mem_append.1 h4 with h4 | h4
      · rw [hno c h4 z h3] at h1; cases h1
      · rw [List.mem_singleton.1 h4] at h3; exact h3
    · have : setL P (openN left held chain rel j).C = [] := List.eq_nil_iff_forall_not_mem.2 (fun z hz => by
        obtain ⟨h1, c, h2, h3⟩ := (openN_C z j hj).1 (setL_mem.1 hz).2
        rw [hno c (by rw [List.take_of_length_le (by omega)]; exact List.mem_of_mem_take h2) z h3] at h1
        cases h1)
      show (setL P (openN left held chain rel j).C).length ≤ E
      rw [this]
      exact Nat.zero_le _
theorem ent_rng {a b : Int} (h : mayB a b = true) : 1 ≤ (entI a b).toNat ∧ (entI a b).toNat ≤ 2038 ∧ ((entI a b).toNat : Int) = entI a b := by
  have h1 := entI_bd a b
  have h2 : 246 ≤ entI a b := by
    rw [entI_true h]
    split
    · decide
    · split
      · decide
      · split <;> decide
  omega
theorem few_plain {a b : Int} {chain : List (Nat × List Nat)} {pages most : Nat} {rel : List Nat} {trees : Int} {p : PlanV} (h : planF a b chain pages [] trees rel most = .inr p) :
    p.lists.length ≤ 1 + (rel.length + p.opened + (entI a b).toNat - 1) / (entI a b).toNat ∧ (rel.length + p.opened = 0 → p.lists.length = 0) ∧ rel.length ≤ 65536 ∧ p.opened ≤ 65536 ∧ p.lists.length ≤ 200000 := by
  obtain ⟨s, t, hm⟩ := planF_inr h
  have f := hm.facts
  obtain ⟨e1, e2, e3⟩ := ent_rng f.may
  have hE : ∀ c ∈ chain, c.2.length ≤ (entI a b).toNat := fun c hc => by have := (f.few c hc).1; omega
  have fw := listG_ind (FW s.left (entI a b).toNat pages chain rel) (fun t t2 hl hm hs => stepL_fw (fun z => by simp [heldS]) hE hl hm hs) _ _ _ (fw_start (held := heldS []) (fun z => by simp [heldS]) hE f.tok.op f.tw.op f.tw.no) hm.lt
  have hp : p.lists.length = t.lists.length := by rw [hm.eq]; simp [dealL_len]
  have ho : p.opened = t.opened := by rw [hm.eq]
  have hr := (f.good.relN).2.2
  have hp6 := f.pm
  have hm6 := f.m6
  have hch : chain.length ≤ pages := by
    have h1 := (List.nodup_append.1 f.good.1).1
    have h2 := nodup_le (flat chain) (List.range pages) h1 (fun x hx => List.mem_range.2 (f.good.2 x (List.mem_append_left _ hx)))
    rw [List.length_range] at h2
    refine Nat.le_trans ?_ h2
    unfold flat
    clear h1 h2 fw hp ho hE hm f h
    induction chain with
    | nil => simp
    | cons c r ih => rw [List.flatMap_cons, List.length_append, List.length_cons, List.length_cons]; omega
  have hto := fw.op
  rw [hp, ho]
  have hk : t.lists.length ≤ 1 + (rel.length + t.opened + (entI a b).toNat - 1) / (entI a b).toNat := by
    rcases fw.k with h1 | h1
    · rw [h1]; exact Nat.zero_le _
    · have : t.lists.length - 1 ≤ (rel.length + t.opened + (entI a b).toNat - 1) / (entI a b).toNat := (Nat.le_div_iff_mul_le (by omega)).2 (by omega)
      omega
  refine ⟨hk, fun h0 => ?_, by omega, by omega, ?_⟩
  · have := fw.z (by omega) (List.eq_nil_of_length_eq_zero (by omega))
    rw [this]
    rfl
  · refine Nat.le_trans hk ?_
    have : (rel.length + t.opened + (entI a b).toNat - 1) / (entI a b).toNat ≤ rel.length + t.opened := by
      refine (Nat.div_le_iff_le_mul_add_pred (by omega)).2 ?_
      have := Nat.le_mul_of_pos_left (rel.length + t.opened) (show 0 < (entI a b).toNat by omega)
      omega
    omega
end Go.Proofs.Ytkngmnfgdlnddaa

namespace Go.Proofs.Ytkngmnfgdlnddaa
open Go.RowKit Go.Lib Hw Go.Maps
set_option linter.unusedSimpArgs false
set_option linter.unusedVariables false

/-- an answer of Plan's, laid out -/
def ToldP (w' : World) (r : Int ⊕ PlanV) (ad : Option Addr) (n1 c1 : Nat) (ad2 : Option Addr) (n2 c2 op pg : Nat) (k : Int) : Prop :=
  match r with
  | .inl j => k = j ∧ j ≠ 0 ∧ n1 = 0 ∧ n2 = 0 ∧ op = 0 ∧ pg = 0
  | .inr p => k = 0 ∧ n1 = p.trees.length ∧ n2 = p.lists.length ∧ op = p.opened ∧ pg = p.pages ∧ URow w' (.slice ad n1 c1) p.trees ∧ CRow w' (.slice ad2 n2 c2) p.lists
theorem plan_small {a b : Int} {chain : List (Nat × List Nat)} {pages most : Nat} {held rel : List Nat} {trees : Int} {p : PlanV} (h : planF a b chain pages held trees rel most = .inr p) :
    (∀ c ∈ p.lists, c.1 < 65536 ∧ ∀ z ∈ c.2, z < 65536) ∧ (∀ x ∈ p.trees, x < p.pages) ∧ p.pages ≤ 65536 ∧ pages ≤ p.pages ∧ p.opened ≤ chain.length := by
  obtain ⟨s, t, hm⟩ := planF_inr h
  have f := hm.facts
  have hlo := f.lw.lo
  have hhi := f.lw.hi
  have hm6 := f.m6
  have hpm := f.pm
  have hsl := f.tok.lo
  rw [hm.eq]
  refine ⟨fun c hc => ?_, fun x hx => ?_, by show t.pages ≤ _; omega, by show _ ≤ t.pages; omega, f.lw.op⟩
  · obtain ⟨h1, h2⟩ := dealL_mem _ _ _ c hc
    refine ⟨by have := (f.lw.ls _ h1).1; omega, fun z hz => ?_⟩
    have := (setL_mem.1 (h2 z hz)).1
    omega
  · have := f.tok.inv.1.2 x hx
    show x < t.pages
    omega
theorem Plan_told (a b : Int) (pages most : Nat) (trees : Int) (chv hv rv : Value) (chain : List (Nat × List Nat)) (held rel : List Nat) (w : World) (hch : CRow w chv chain) (hhe : URow w hv held) (hre : URow w rv rel) (hp : pages < 4294967296) (hm : most < 4294967296) (htr : trees ≤ 9223372036854775807) :
    Calls Try.prog 31 #[.agg #[.int .i64 a, .int .i64 b], .agg #[chv, .int .u32 (pages : Int), hv, .int .i64 trees, rv, .int .u32 (most : Int)]] w fun e w' => ∃ ad n1 c1 ad2 n2 c2 op pg k, e = .returned (.tuple #[.agg #[.slice ad n1 c1, .slice ad2 n2 c2, .int .i64 ((op : Nat) : Int), .int .u32 ((pg : Nat) : Int)], .int .i64 k]) ∧ ToldP w' (planF a b chain pages held trees rel most) ad n1 c1 ad2 n2 c2 op pg k ∧ Below w.heap.size w w' := by
  have h := Plan_any a b pages most trees chv hv rv chain held rel w hch hhe hre hp hm htr
  refine h.mono ?_
  cases hr : planF a b chain pages held trees rel most with
  | inl j =>
    rintro e w' ⟨hb, he⟩
    have hj : j ≠ 0 := by rcases planF_inl hr with rfl | rfl | rfl <;> decide
    exact ⟨none, 0, 0, none, 0, 0, 0, 0, j, he, ⟨rfl, hj, rfl, rfl, rfl, rfl⟩, hb⟩
  | inr p =>
    rintro e w' ⟨hb, tv, lv, bs, N1, he, _, ho, _, hc, hd⟩
    obtain ⟨g1, g2, g3, g4, g5⟩ := plan_small hr
    have hr1 : URow w' tv p.trees := ho.row (by intro z hz; have := g2 z hz; omega)
    have hcr : CRow w' lv p.lists := hd.row hc (fun c hc => ⟨by have := (g1 c hc).1; omega, fun z hz => by have := (g1 c hc).2 z hz; omega⟩)
    obtain ⟨ad, cp, h1, _⟩ := hr1.form
    obtain ⟨ad2, cp2, h2, _⟩ := hcr.form
    subst h1 h2
    exact ⟨ad, _, cp, ad2, _, cp2, p.opened, p.pages, 0, he, ⟨rfl, rfl, rfl, rfl, rfl, hr1, hcr⟩, hb⟩
set_option maxRecDepth 5000 in
set_option maxHeartbeats 16000000 in
theorem FreeFew_walk (v nv : Value) (w : World) (hv : IsFrame v) (hn : IsNeed w nv) : Calls Try.prog 8 #[v, nv] w fun e w' => e = .returned (.bool true) ∧ Below w.heap.size w w' := by
  obtain ⟨a, b, rfl, ha, hb⟩ := hv
  obtain ⟨chv, hdv, rv, cs, held, rel, pages, most, trees, rfl, hch, hhe, hre, hp, hm, ht1, ht2⟩ := hn
  obtain ⟨cad, ccap, hcv, hx1⟩ := hch.1.form
  obtain ⟨had, hcap, hhv, hx2⟩ := hhe.1.form
  obtain ⟨rad, rcap, hrv, hx3⟩ := hre.1.form
  clear hx1 hx2 hx3
  subst hcv hhv hrv
  have HC := Lib.hid hch.1
  have HR := Lib.hid hre.1
  clear hch hhe ha hb ht1
  have HZ := Lib.hid hre.2
  clear hre
  obtain ⟨R, hR⟩ : ∃ R, planF a b cs pages [] trees rel most = R := ⟨_, rfl⟩
  have HRR := Lib.hid hR
  clear hR
  obtain ⟨N, hN⟩ : ∃ N, w.heap.size = N := ⟨_, rfl⟩
  have HN := Lib.hid hN
  rw [hN]
  clear hN
  obtain ⟨nc, hnc⟩ : ∃ k, cs.length = k := ⟨_, rfl⟩
  obtain ⟨nr, hnr⟩ : ∃ k, rel.length = k := ⟨_, rfl⟩
  have HNR := Lib.hid hnr
  rw [hnc] at HC ⊢
  rw [hnr] at HR HZ ⊢
  clear hnc hnr
  go_enter Try.func8, Try.ntmps8
  go_upto_region 0 with fail
  with_reducible refine wp_region_list ?_
  refine wpList_boxB rfl _ _ rfl N HN.out #[.int .i64 a, .int .i64 b] rfl ?_
  intro w1 e1 b1 z1
  (try simp only [Act.put, nA, nB, nC])
  obtain ⟨M, hM⟩ : ∃ M, w1.heap.size = M := ⟨_, rfl⟩
  have HM : Hid (M = N + 1) := by show _ = _; rw [← hM]; omega
  refine wpList_boxB rfl _ _ rfl M hM #[.slice cad nc ccap, .int .u32 (pages : Int), .slice had held.length hcap, .int .i64 trees, .slice rad nr rcap, .int .u32 (most : Int)] rfl ?_
  intro w2 e2 b2 z2
  (try simp only [Act.put, nA, nB, nC])
  (with_reducible refine wpList_plain rfl ?_); intro K hK; go_simp; (with_reducible refine hK _ _ ?_); clear hK K; try simp only [Act.put, nA, nB, nC]
  have B2 : Hid (Below N w w2) := b1.trans (b2.mono (by have := HM.out; omega))
  have e3 := heap_below e1 b2 (by have := HM.out; omega)
  have Z2 : Hid (M < w2.heap.size) := heap_lt e2
  clear e1 b1 b2 z1 z2 hM
  go_upto_region 1 with fail
  with_reducible refine wp_region_list ?_
  with_reducible refine wpList_plain rfl ?_
  intro K hK
  go_simp
  refine (awake_any w2).mono ?_; rintro e w3 ⟨rfl, b3⟩
  first | with_reducible refine hK _ _ ?_ | refine hK _ _ ?_
  clear hK K
  (try simp only [Act.put, nA, nB, nC])
  (with_reducible refine wpList_plain rfl ?_); intro K hK; go_simp; (with_reducible refine hK _ _ ?_); clear hK K; try simp only [Act.put, nA, nB, nC]
  have B3 : Hid (Below N w w3) := B2.out.trans (b3.mono (by have := HM.out; have := Z2.out; omega))
  have hz3 : M < w3.heap.size := by have := b3.size; have := Z2.out; omega
  have E2 := heap_below e2 b3 Z2.out
  have E3 := heap_below e3 b3 (by have := HM.out; have := Z2.out; omega)
  have c2 := heap_cell E2 (o := 2)
  have f2 := heap_free E2 2
  clear b3 e2 e3 B2 Z2
  go_upto_region 3 with fail
  with_reducible refine wp_region_list ?_
  (with_reducible refine wpList_plain rfl ?_); intro K hK; go_simp; (with_reducible refine hK _ _ ?_); clear hK K; try simp only [Act.put, nA, nB, nC]
  (with_reducible refine wpList_plain rfl ?_); intro K hK; go_simp; (with_reducible refine hK _ _ ?_); clear hK K; try simp only [Act.put, nA, nB, nC]
  obtain ⟨w4, hw4⟩ : ∃ W, w3.setCell ⟨M, 2, none⟩ (.slice none 0 0) = W := ⟨_, rfl⟩
  have F2 : w4.heap[M]? = some (.cells #[.slice cad nc ccap, .int .u32 (pages : Int), .slice none 0 0, .int .i64 trees, .slice rad nr rcap, .int .u32 (most : Int)] 46 (0, 0)) := by rw [← hw4]; exact heap_set (o := 2) E2 (.slice none 0 0)
  have B4 : Hid (Below N w w4) := by rw [← hw4]; exact B3.out.setCell (p := ⟨M, 2, none⟩) (by have := HM.out; show N ≤ M; omega) _
  have F3 : w4.heap[N]? = some (.cells #[.int .i64 a, .int .i64 b] 23 (0, 0)) := by rw [← hw4]; exact heap_setOther E3 (by have := HM.out; show N ≠ M; omega) _
  have hz4 : M < w4.heap.size := heap_lt F2
  rw [hw4]
  clear hw4 c2 f2 E2 E3 B3 hz3
  have c0 := heap_cell F3 (o := 0)
  have c1 := heap_cell F3 (o := 1)
  have d0 := heap_cell F2 (o := 0)
  have d1 := heap_cell F2 (o := 1)
  have d2 := heap_cell F2 (o := 2)
  have d3 := heap_cell F2 (o := 3)
  have d4 := heap_cell F2 (o := 4)
  have d5 := heap_cell F2 (o := 5)
  have HP : Hid (Calls Try.prog 31 #[.agg #[.int .i64 a, .int .i64 b], .agg #[.slice cad nc ccap, .int .u32 (pages : Int), .slice none 0 0, .int .i64 trees, .slice rad nr rcap, .int .u32 (most : Int)]] w4 fun e w' => ∃ ad n1 c1 ad2 n2 c2 op pg k, e = .returned (.tuple #[.agg #[.slice ad n1 c1, .slice ad2 n2 c2, .int .i64 ((op : Nat) : Int), .int .u32 ((pg : Nat) : Int)], .int .i64 k]) ∧ ToldP w' R ad n1 c1 ad2 n2 c2 op pg k ∧ Below w4.heap.size w4 w') := by
    have h := Plan_told a b pages most trees _ (.slice none 0 0) _ cs [] rel w4 (HC.out.below (by rw [HN.out]; exact B4.out)) (URow.nil _) (HR.out.below (by rw [HN.out]; exact B4.out)) hp hm ht2
    rw [HRR.out] at h
    exact h
  have F2H := Lib.hid F2
  have F3H := Lib.hid F3
  clear F2 F3
  go_upto_region 4 with fail
  with_reducible refine wp_region_list ?_
  (with_reducible refine wpList_plain rfl ?_); intro K hK; go_simp; (with_reducible refine hK _ _ ?_); clear hK K; try simp only [Act.put, nA, nB, nC]
  (with_reducible refine wpList_plain rfl ?_); intro K hK; go_simp; (with_reducible refine hK _ _ ?_); clear hK K; try simp only [Act.put, nA, nB, nC]
  with_reducible refine wpList_plain rfl ?_
  intro K hK
  go_simp
  refine HP.out.mono ?_; rintro e w5 ⟨ad, n1, k1, ad2, n2, k2, op, pg, k, rfl, told, b5⟩
  first | with_reducible refine hK _ _ ?_ | refine hK _ _ ?_
  clear hK K
  (try simp only [Act.put, nA, nB, nC])
  have TD := Lib.hid told
  have B5 : Hid (Below N w w5) := B4.out.trans (b5.mono (by have := HM.out; omega))
  have F2 := heap_below F2H.out b5 hz4
  have F3 := heap_below F3H.out b5 (by have := HM.out; omega)
  have G2 := Lib.hid F2
  have G3 := Lib.hid F3
  have hz5 : M < w5.heap.size := heap_lt F2
  clear told b5 F2 F3 F2H F3H HP c0 c1 d0 d1 d2 d3 d4 d5 B4 hz4
  (with_reducible refine wpList_plain rfl ?_); intro K hK; go_simp; (with_reducible refine hK _ _ ?_); clear hK K; try simp only [Act.put, nA, nB, nC]
  (with_reducible refine wpList_plain rfl ?_); intro K hK; go_simp; (with_reducible refine hK _ _ ?_); clear hK K; try simp only [Act.put, nA, nB, nC]
  (with_reducible refine wpList_plain rfl ?_); intro K hK; go_simp; (with_reducible refine hK _ _ ?_); clear hK K; try simp only [Act.put, nA, nB, nC]
  obtain ⟨T, hT⟩ : ∃ k, w5.heap.size = k := ⟨_, rfl⟩
  refine wpList_allocB rfl 48 rfl T hT (.agg #[.slice none 0 0, .slice none 0 0, .int .i64 0, .int .u32 0]) (fun _ => by kernel_rfl) ?_
  intro w6 e6 b6 z6
  (try simp only [Act.put, nA, nB, nC])
  refine wpList_storeB rfl 48 _ _ rfl T #[.slice ad n1 k1, .slice ad2 n2 k2, .int .i64 (op : Int), .int .u32 (pg : Int)] rfl rfl 48 _ e6 (by kernel_rfl) rfl (by simp [Value.oneCell']) ?_
  intro w7 e7 m7
  (try simp only [Act.put, nA, nB, nC])
  (with_reducible refine wpList_plain rfl ?_); intro K hK; go_simp; (with_reducible refine hK _ _ ?_); clear hK K; try simp only [Act.put, nA, nB, nC]
  have b7 : Below w5.heap.size w5 w7 := by rw [hT]; exact b6.trans (m7.below (n := T) (fun k hk e => by omega) (by omega))
  have B7 : Hid (Below N w w7) := B5.out.trans (b7.mono (by have := HM.out; omega))
  have F2 := heap_below G2.out b7 hz5
  have F3 := heap_below G3.out b7 (by have := HM.out; omega)
  have G2 := Lib.hid F2
  have G3 := Lib.hid F3
  have hz7 : M < w7.heap.size := heap_lt F2
  have E7 := Lib.hid e7
  have hzT : T < w7.heap.size := heap_lt e7
  clear F2 F3 e6 e7 b6 z6 m7 b7 B5 hT
  by_cases hk : k = 0
  case neg =>
    have hk2 : (k != 0) = true := by simpa using hk
    clear hk
    go_wp2_with fail
    go_ret
    exact ⟨rfl, B7.out⟩
  case pos =>
    subst hk
    obtain ⟨E, hE⟩ : ∃ E : Nat, (entI a b).toNat = E := ⟨_, rfl⟩
    have HE0 := Lib.hid hE
    have HF : Hid (1 ≤ E ∧ E ≤ 2038 ∧ entI a b = (E : Int) ∧ n2 ≤ 1 + (nr + op + E - 1) / E ∧ (nr + op = 0 → n2 = 0) ∧ nr ≤ 65536 ∧ op ≤ 65536 ∧ n2 ≤ 200000) := by
      have ht := TD.out
      have hr := HRR.out
      have hnr := HNR.out
      cases R with
      | inl j => obtain ⟨h1, h2, _⟩ := ht; exact absurd h1.symm h2
      | inr p =>
        obtain ⟨_, _, h2, h3, _⟩ := ht
        obtain ⟨s, t, hm⟩ := planF_inr hr
        obtain ⟨g1, g2, g3⟩ := ent_rng hm.facts.may
        have h := few_plain hr
        rw [hE] at h g1 g2 g3
        rw [hnr, ← h2, ← h3] at h
        exact ⟨g1, g2, g3.symm, h.1, h.2.1, h.2.2.1, h.2.2.2.1, h.2.2.2.2⟩
    clear hE TD HRR HNR HZ
    obtain ⟨r, hr⟩ : ∃ r, nr + op = r := ⟨_, rfl⟩
    have a1 : (nr : Int) + (op : Int) = (r : Int) := by omega
    have a2 : IntKind.i64.wrap (r : Int) = (r : Int) := IntWalk.i64_in _ (by have h1 := HF.out.2.2.2.2.2.1; have h2 := HF.out.2.2.2.2.2.2.1; omega)
    have HRO := Lib.hid hr
    clear hr
    have d4 := heap_cell G2.out (o := 4)
    have t2 := heap_cell E7.out (o := 2)
    go_upto_region 7 with fail
    with_reducible refine wp_region_list ?_
    (with_reducible refine wpList_plain rfl ?_); intro K hK; go_simp; (with_reducible refine hK _ _ ?_); clear hK K; try simp only [Act.put, nA, nB, nC]
    (with_reducible refine wpList_plain rfl ?_); intro K hK; go_simp; (with_reducible refine hK _ _ ?_); clear hK K; try simp only [Act.put, nA, nB, nC]
    (with_reducible refine wpList_plain rfl ?_); intro K hK; go_simp; (with_reducible refine hK _ _ ?_); clear hK K; try simp only [Act.put, nA, nB, nC]
    (with_reducible refine wpList_plain rfl ?_); intro K hK; go_simp; (with_reducible refine hK _ _ ?_); clear hK K; try simp only [Act.put, nA, nB, nC]
    (with_reducible refine wpList_plain rfl ?_); intro K hK; go_simp; (with_reducible refine hK _ _ ?_); clear hK K; try simp only [Act.put, nA, nB, nC]
    (with_reducible refine wpList_plain rfl ?_); intro K hK; go_simp; (with_reducible refine hK _ _ ?_); clear hK K; try simp only [Act.put, nA, nB, nC]
    (with_reducible refine wpList_plain rfl ?_); intro K hK; go_simp; (with_reducible refine hK _ _ ?_); clear hK K; try simp only [Act.put, nA, nB, nC]
    clear a1 a2 d4 t2
    have c0 := heap_cell G3.out (o := 0)
    have c1 := heap_cell G3.out (o := 1)
    go_upto_region 8 with fail
    with_reducible refine wp_region_list ?_
    (with_reducible refine wpList_plain rfl ?_); intro K hK; go_simp; (with_reducible refine hK _ _ ?_); clear hK K; try simp only [Act.put, nA, nB, nC]
    with_reducible refine wpList_plain rfl ?_
    intro K hK
    go_simp
    refine (Entries_any a b w7).mono ?_; rintro e w8 ⟨rfl, b8⟩; rw [HF.out.2.2.1]
    first | with_reducible refine hK _ _ ?_ | refine hK _ _ ?_
    clear hK K
    (try simp only [Act.put, nA, nB, nC])
    (with_reducible refine wpList_plain rfl ?_); intro K hK; go_simp; (with_reducible refine hK _ _ ?_); clear hK K; try simp only [Act.put, nA, nB, nC]
    have B8 : Hid (Below N w w8) := B7.out.trans (b8.mono (by have := HM.out; omega))
    have E8 := Lib.hid (heap_below E7.out b8 hzT)
    clear c0 c1 B7 E7 b8 G2 G3
    have t1 := heap_cell E8.out (o := 1)
    obtain ⟨f1, f2, _, f4, f5, f6, f7, f8⟩ := HF.out
    have f9 := HRO.out
    obtain ⟨x, hx⟩ : ∃ x, r + E = x := ⟨_, rfl⟩
    obtain ⟨y, hy⟩ : ∃ y, x - 1 = y := ⟨_, rfl⟩
    obtain ⟨q, hq⟩ : ∃ q, y / E = q := ⟨_, rfl⟩
    obtain ⟨q1, hq1⟩ : ∃ z, 1 + q = z := ⟨_, rfl⟩
    have hqy : q ≤ y := by rw [← hq]; exact Nat.div_le_self _ _
    have a1 : (r : Int) + (E : Int) = (x : Int) := by omega
    have a2 : IntKind.i64.wrap (x : Int) = (x : Int) := IntWalk.i64_in _ (by omega)
    have a3 : (x : Int) - 1 = (y : Int) := by omega
    have a4 : IntKind.i64.wrap (y : Int) = (y : Int) := IntWalk.i64_in _ (by omega)
    have a5 : (y : Int).tdiv (E : Int) = (q : Int) := by rw [← hq]; exact (Int.ofNat_tdiv y E).symm
    have a6 : IntKind.i64.wrap (q : Int) = (q : Int) := IntWalk.i64_in _ (by omega)
    have a7 : 1 + (q : Int) = (q1 : Int) := by omega
    have a8 : IntKind.i64.wrap (q1 : Int) = (q1 : Int) := IntWalk.i64_in _ (by omega)
    have a9 : decide (n2 ≤ q1) = true := decide_eq_true (by rw [f9, hx, hy, hq, hq1] at f4; exact f4)
    have a10 : (E : Int) ≠ 0 := by omega
    have a12 : ¬ 0 < r → n2 = 0 := fun h => f5 (by omega)
    have A12 := Lib.hid a12
    clear hx hy hq hq1 hqy f1 f2 f4 f5 f6 f7 f8 f9 a12
    by_cases h0 : 0 < r
    · have a11 : decide (0 < r) = true := decide_eq_true h0
      clear h0
      go_upto_region 9 with fail
      go_quiet (fail)
      have HB : Hid (Below N w (w8.drewN nq)) := B8.out.trans ((below_dN w8 nq).mono (by have h1 := B8.out.size; rw [HN.out] at h1; exact h1))
      clear a1 a2 a3 a4 a5 a6 a7 a8 a9 a10 a11
      go_wp2_with fail
      go_ret
      exact ⟨rfl, HB.out⟩
    · have a11 : decide (0 < r) = false := decide_eq_false h0
      have a12 : n2 = 0 := A12.out h0
      clear h0
      go_upto_region 9 with fail
      go_quiet (fail)
      have HB : Hid (Below N w (w8.drewN nq)) := B8.out.trans ((below_dN w8 nq).mono (by have h1 := B8.out.size; rw [HN.out] at h1; exact h1))
      clear a1 a2 a3 a4 a5 a6 a7 a8 a9 a10 a11 a12
      go_wp2_with fail
      go_ret
      exact ⟨rfl, HB.out⟩
end Go.Proofs.Ytkngmnfgdlnddaa

namespace Go.Proofs.Ytkngmnfgdlnddaa
open Go.RowKit Go.Lib Hw Go.Maps
set_option linter.unusedVariables false

set_option maxHeartbeats 4000000 in
theorem has_any (v : Value) (xs : List Nat) (x : Nat) (w : World) (hv : Hid (URow w v xs)) : Calls Try.prog 37 #[v, .int .u32 (x : Int)] w (SamePost (xs.contains x) w) := by
  obtain ⟨ad, c, hv1, hl, hx1⟩ := hv.out.form
  clear hx1
  subst hv1
  obtain ⟨R, hR⟩ : ∃ R, SamePost (xs.contains x) w = R := ⟨_, rfl⟩
  have HNo : Hid (∀ W, xs.contains x = false → Below w.heap.size w W → R (.returned (.bool false)) W) := fun W h1 h2 => by
    rw [← hR, h1]
    exact ⟨rfl, h2⟩
  have HYes : Hid (∀ W, xs.contains x = true → Below w.heap.size w W → R (.returned (.bool true)) W) := fun W h1 h2 => by
    rw [← hR, h1]
    exact ⟨rfl, h2⟩
  rw [hR]
  clear hR
  obtain ⟨n, hn⟩ : ∃ n, xs.length = n := ⟨_, rfl⟩
  have HN := Lib.hid hn
  rw [hn] at hv hl ⊢
  clear hn
  go_enter Try.func37, Try.ntmps37
  go_upto_region 2 with fail
  go_loopw [5] (fun iv wr => ∃ (k : Nat), k ≤ n ∧ Hid ((xs.take k).contains x = false) ∧ Hid (Below w.heap.size w wr) ∧ iv = .int .i64 (k : Int)) (fun iv _ => n - (intOf iv).toNat)
  case atStart => exact ⟨0, Nat.zero_le _, by show _ = _; rw [List.take_zero]; rfl, Below.refl _ _, rfl⟩
  case round =>
    obtain ⟨k, hk, HT, HB, rfl⟩ := hrel
    by_cases hlt : k < n
    case neg =>
      have ik : ¬ (k : Int) < (n : Int) := by omega
      have hR := HNo.out wr (by
        have h := HT.out
        rw [List.take_of_length_le (by rw [HN.out]; omega)] at h
        exact h) HB.out
      have HR := Lib.hid hR
      clear hR
      go_wp2_with fail
      exact HR.out
    case pos =>
      have ik : (k : Int) < (n : Int) := by omega
      have hkx : k < xs.length := by rw [HN.out]; exact hlt
      obtain ⟨a1, c1, e1, _, g1⟩ := (hv.out.below HB.out).form
      obtain ⟨b1, o1, e2, hc1⟩ := g1 (by omega)
      have e3 := (Value.slice.inj e1).1
      rw [e2] at e3
      subst e3
      have h1 := hc1 k hkx
      have t1 := List.take_succ_eq_append_getElem hkx
      obtain ⟨y, hy⟩ : ∃ y, xs[k] = y := ⟨_, rfl⟩
      have HY : Hid (y ∈ xs) := by show y ∈ xs; rw [← hy]; exact List.getElem_mem hkx
      rw [hy] at h1 t1
      unfold uN at h1
      have T1 := Lib.hid t1
      clear t1 hy hc1 e1 e2 g1 hkx
      by_cases hxy : y = x
      case neg =>
        have en : decide ((y : Int) = (x : Int)) = false := decide_eq_false (by omega)
        have en2 : ((y : Int) == (x : Int)) = false := by simp; omega
        have HT2 : Hid ((xs.take (k + 1)).contains x = false) := by
          show _ = _
          have h := HT.out
          rw [T1.out]
          rw [Bool.eq_false_iff] at h ⊢
          intro hc
          rcases List.mem_append.1 (List.contains_iff_mem.1 hc) with h2 | h2
          · exact h (List.contains_iff_mem.2 h2)
          · exact hxy (List.mem_singleton.1 h2).symm
        have HB2 : Hid (Below w.heap.size w wr) := HB.out
        go_wp2_with fail
        exact ⟨⟨k + 1, by omega, HT2, HB2, by go_num⟩, by simp [intOf]; omega⟩
      case pos =>
        subst hxy
        have en : ((y : Int) == (y : Int)) = true := by simp
        have hR := HYes.out wr (List.contains_iff_mem.2 HY.out) (HB.out)
        have HR := Lib.hid hR
        clear hR
        go_wp2_with fail
        exact HR.out
set_option maxHeartbeats 8000000 in
theorem took_any (ad : Option Addr) (n1 c1 : Nat) (ad2 : Option Addr) (n2 c2 op pg : Nat) (ts : List Nat) (cs : List (Nat × List Nat)) (w : World) (hts : Hid (URow w (.slice ad n1 c1) ts)) (hcs : Hid (CRow w (.slice ad2 n2 c2) cs)) (hz1 : ts.length ≤ 200000) (hz2 : cs.length ≤ 200000) (hl2 : Hid (n2 = cs.length)) :
    Calls Try.prog 35 #[.agg #[.slice ad n1 c1, .slice ad2 n2 c2, .int .i64 (op : Int), .int .u32 (pg : Int)]] w fun e w' => ∃ v, e = .returned v ∧ OwnO w' w.heap.size v (ts ++ cs.map (·.1)) ∧ Below w.heap.size w w' := by
  obtain ⟨N, hN⟩ : ∃ N, w.heap.size = N := ⟨_, rfl⟩
  have HN := Lib.hid hN
  rw [hN]
  clear hN
  have HZ1 := Lib.hid hz1
  have HZ2 := Lib.hid hz2
  clear hz1 hz2
  go_enter Try.func35, Try.ntmps35
  go_upto_region 0 with fail
  with_reducible refine wp_region_list ?_
  refine wpList_boxB rfl _ _ rfl N HN.out #[.slice ad n1 c1, .slice ad2 n2 c2, .int .i64 (op : Int), .int .u32 (pg : Int)] rfl ?_
  intro w1 e1 b1 z1
  (try simp only [Act.put, nA, nB, nC])
  (with_reducible refine wpList_plain rfl ?_); intro K hK; go_simp; (with_reducible refine hK _ _ ?_); clear hK K; try simp only [Act.put, nA, nB, nC]
  have B1 := Lib.hid b1
  have E1 := Lib.hid e1
  have hz1 : N < w1.heap.size := heap_lt e1
  have c0 := heap_cell e1 (o := 0)
  have HT1 : Hid (URow w1 (.slice ad n1 c1) ts) := hts.out.below (by rw [HN.out]; exact b1)
  clear b1 e1 z1
  go_upto_region 1 with fail
  with_reducible refine wp_region_list ?_
  (with_reducible refine wpList_plain rfl ?_); intro K hK; go_simp; (with_reducible refine hK _ _ ?_); clear hK K; try simp only [Act.put, nA, nB, nC]
  (with_reducible refine wpList_plain rfl ?_); intro K hK; go_simp; (with_reducible refine hK _ _ ?_); clear hK K; try simp only [Act.put, nA, nB, nC]
  refine wpList_appO w1 rfl _ _ rfl (N + 1) (.slice none 0 0) [] rfl (OwnO.nil _ _) _ rfl ts (src_row HT1.out) (by have := HZ1.out; simp; omega) (by omega) ?_
  intro v2 w2 o2 m2 n2x
  rw [List.nil_append] at o2
  obtain ⟨va2, vc2, hv2, hx4, hx5, hx6⟩ := o2.shape
  clear hx4 hx5 hx6
  obtain ⟨vn2, hvn2⟩ : ∃ n, ts.length = n := ⟨_, rfl⟩
  rw [hvn2] at hv2
  subst hv2
  clear hvn2
  (try simp only [Act.put, nA, nB, nC])
  (with_reducible refine wpList_plain rfl ?_); intro K hK; go_simp; (with_reducible refine hK _ _ ?_); clear hK K; try simp only [Act.put, nA, nB, nC]
  have O2 := Lib.hid o2
  have E2 := Lib.hid (m2.heap E1.out (fun e => by cases e))
  have B2 : Hid (Below N w w2) := B1.out.trans (m2.below (n := N) (fun k hk e => by cases e) (by omega))
  have hz2 : N < w2.heap.size := heap_lt E2.out
  clear o2 m2 n2x c0 HT1 B1 E1 hz1
  go_upto_region 3 with fail
  go_loopw [3, 4] (fun lv iv wr => ∃ (k : Nat) (va : Option Addr) (vn vc : Nat), k ≤ n2 ∧ Hid (OwnO wr (N + 1) (.slice va vn vc) (ts ++ (cs.map (·.1)).take k)) ∧ Hid (Below N w wr) ∧ Hid (wr.heap[N]? = some (.cells #[.slice ad n1 c1, .slice ad2 n2 c2, .int .i64 (op : Int), .int .u32 (pg : Int)] 48 (0, 0))) ∧ lv = .slice va vn vc ∧ iv = .int .i64 (k : Int)) (fun _ iv _ => n2 - (intOf iv).toNat)
  case atStart => exact ⟨0, va2, vn2, vc2, Nat.zero_le _, by show OwnO _ _ _ _; rw [List.take_zero, List.append_nil]; exact O2.out, B2, E2, rfl, rfl⟩
  case round =>
    obtain ⟨k, va, vn, vc, hk, HO, HB, HE, rfl, rfl⟩ := hrel
    have d1 := heap_cell HE.out (o := 1)
    by_cases hlt : k < n2
    case neg =>
      have ik : ¬ (k : Int) < (n2 : Int) := by omega
      have HF : Hid (OwnO wr N (.slice va vn vc) (ts ++ cs.map (·.1))) := by
        have h := HO.out
        rw [List.take_of_length_le (by rw [List.length_map]; have := hl2.out; omega)] at h
        exact h.mono (by omega)
      clear hlt
      go_wp2_with fail
      go_ret
      exact ⟨_, rfl, HF.out, HB.out⟩
    case pos =>
      have ik : (k : Int) < (n2 : Int) := by omega
      have hkx : k < cs.length := by have := hl2.out; omega
      obtain ⟨b1, o1, nad, nc, e1, r1, u1, pp1⟩ := (hcs.out.below (by rw [HN.out]; exact HB.out)).at hkx
      subst e1
      have t1 : (cs.map (·.1)).take (k + 1) = (cs.map (·.1)).take k ++ [cs[k].1] := by
        rw [List.take_succ_eq_append_getElem (by rw [List.length_map]; exact hkx), List.getElem_map]
      obtain ⟨⟨x, xl⟩, hx⟩ : ∃ x, cs[k] = x := ⟨_, rfl⟩
      rw [hx] at r1 u1 t1 pp1
      simp only at r1 u1 t1 pp1
      have f1 := r1 0 _ rfl
      unfold uN at f1
      rw [Nat.add_zero] at f1
      have T1 := Lib.hid t1
      clear t1 hx r1 u1 pp1 hkx hlt
      obtain ⟨k2, hk2⟩ : ∃ k2 : Nat, k2 = k + 1 := ⟨_, rfl⟩
      have ew1 : (k : Int) + 1 = (k2 : Int) := by omega
      have ew2 : IntKind.i64.wrap (k2 : Int) = (k2 : Int) := IntWalk.i64_in _ (by have := HZ2.out; have := hl2.out; omega)
      have hk3 : k2 ≤ n2 := by omega
      have hk4 : n2 - k2 < n2 - k := by omega
      have HK2 := Lib.hid hk2
      clear hk2
      go_upto_region 5 with fail
      with_reducible refine wp_region_list ?_
      (with_reducible refine wpList_plain rfl ?_); intro K hK; go_simp; (with_reducible refine hK _ _ ?_); clear hK K; try simp only [Act.put, nA, nB, nC]
      (with_reducible refine wpList_plain rfl ?_); intro K hK; go_simp; (with_reducible refine hK _ _ ?_); clear hK K; try simp only [Act.put, nA, nB, nC]
      (with_reducible refine wpList_plain rfl ?_); intro K hK; go_simp; (with_reducible refine hK _ _ ?_); clear hK K; try simp only [Act.put, nA, nB, nC]
      (with_reducible refine wpList_plain rfl ?_); intro K hK; go_simp; (with_reducible refine hK _ _ ?_); clear hK K; try simp only [Act.put, nA, nB, nC]
      (with_reducible refine wpList_plain rfl ?_); intro K hK; go_simp; (with_reducible refine hK _ _ ?_); clear hK K; try simp only [Act.put, nA, nB, nC]
      (with_reducible refine wpList_plain rfl ?_); intro K hK; go_simp; (with_reducible refine hK _ _ ?_); clear hK K; try simp only [Act.put, nA, nB, nC]
      (with_reducible refine wpList_plain rfl ?_); intro K hK; go_simp; (with_reducible refine hK _ _ ?_); clear hK K; try simp only [Act.put, nA, nB, nC]
      (with_reducible refine wpList_plain rfl ?_); intro K hK; go_simp; (with_reducible refine hK _ _ ?_); clear hK K; try simp only [Act.put, nA, nB, nC]
      have hsz : N < wr.heap.size := heap_lt HE.out
      have hbA : Below wr.heap.size wr (wr.alloc (.cells #[.int .u32 (x : Int)] 27)) := (Below.refl _ _).alloc (Nat.le_refl _) _
      refine wpList_appO _ rfl _ _ rfl (N + 1) (.slice va vn vc) (ts ++ (cs.map (·.1)).take k) rfl (HO.out.below hbA (fun g hg => (HO.out.lt g hg).2)) _ rfl [x] (src_one wr x _) (by have := HZ1.out; have := HZ2.out; simp only [List.length_append, List.length_singleton, List.length_take, List.length_map]; omega) (by have := hbA.size; omega) ?_
      intro v5 w5 o5 m5 n5
      rw [List.append_assoc, ← T1.out] at o5
      obtain ⟨va5, vc5, hv5, hx4, hx5, hx6⟩ := o5.shape
      clear hx4 hx5 hx6
      obtain ⟨vn5, hvn5⟩ : ∃ n, (ts ++ (cs.map (·.1)).take (k + 1)).length = n := ⟨_, rfl⟩
      rw [hvn5] at hv5
      subst hv5
      clear hvn5
      (try simp only [Act.put, nA, nB, nC])
      (with_reducible refine wpList_plain rfl ?_); intro K hK; go_simp; (with_reducible refine hK _ _ ?_); clear hK K; try simp only [Act.put, nA, nB, nC]
      have O5 := Lib.hid o5
      have HB5 : Hid (Below N w w5) := HB.out.trans ((hbA.mono (by omega)).trans (m5.below (n := N) (fun g hg e => by have := (HO.out.lt g e).1; omega) (by have := hbA.size; omega)))
      have HE5 : Hid (w5.heap[N]? = some (.cells #[.slice ad n1 c1, .slice (some ⟨b1, o1, none⟩) n2 c2, .int .i64 (op : Int), .int .u32 (pg : Int)] 48 (0, 0))) := m5.heap (heap_below HE.out hbA hsz) (fun e => by have := (HO.out.lt N e).1; omega)
      clear o5 m5 n5 hbA f1 d1 HO HE HB T1
      go_wp2_with fail
      exact ⟨⟨k2, va5, vn5, vc5, hk3, by rw [HK2.out]; exact O5, HB5, HE5, rfl, rfl⟩, by simp only [intOf, Int.toNat_natCast]; exact hk4⟩
end Go.Proofs.Ytkngmnfgdlnddaa

namespace Go.Proofs.Ytkngmnfgdlnddaa
open Go.RowKit Go.Lib Hw Go.Maps
set_option linter.unusedSimpArgs false
set_option linter.unusedVariables false

theorem ToldP.below {w w' : World} {r : Int ⊕ PlanV} {ad : Option Addr} {n1 c1 : Nat} {ad2 : Option Addr} {n2 c2 op pg : Nat} {k : Int} (h : ToldP w r ad n1 c1 ad2 n2 c2 op pg k) (hb : Below w.heap.size w w') : ToldP w' r ad n1 c1 ad2 n2 c2 op pg k := by
  cases r with
  | inl j => exact h
  | inr p =>
    obtain ⟨h1, h2, h3, h4, h5, h6, h7⟩ := h
    exact ⟨h1, h2, h3, h4, h5, h6.below hb, h7.below hb⟩
theorem wanted_plain {a b : Int} {chain : List (Nat × List Nat)} {pages most : Nat} {held rel : List Nat} {trees : Int} {p : PlanV} (h : planF a b chain pages held trees rel most = .inr p) (hne : p.pages ≠ pages) :
    (∀ c ∈ p.lists, pages ≤ c.1 → p.opened = chain.length) ∧ ∀ c ∈ chain, ∀ z ∈ c.2, held.contains z = true ∨ (p.trees ++ p.lists.map (·.1)).contains z = true := by
  obtain ⟨s, t, hm⟩ := planF_inr h
  have f := hm.facts
  have e1 : p.lists.map (·.1) = t.lists := by rw [hm.eq]; exact dealL_fst _ _ _
  have e2 : p.trees = s.trees := by rw [hm.eq]
  have e3 : p.opened = t.opened := by rw [hm.eq]
  have e4 : p.pages = t.pages := by rw [hm.eq]
  rw [e1, e2, e3]
  rw [e4] at hne
  refine ⟨fun c hc hp => (f.lw.ls c.1 (by rw [← e1]; exact List.mem_map_of_mem hc)).2 hp, fun c hc z hz => ?_⟩
  have hno : mayF s.left (heldS held) z = false → held.contains z = true ∨ z ∈ s.trees := fun h1 => by
    unfold mayF at h1
    cases hh : held.contains z with
    | true => exact .inl rfl
    | false =>
      right
      have h2 : s.left z = false := by
        unfold heldS at h1
        rw [hh] at h1
        simpa using h1
      refine Classical.byContradiction fun h3 => ?_
      have := (f.tw.lf z).2 ⟨mem_leftS hc hz, h3⟩
      rw [h2] at this
      cases this
  by_cases hs : s.pages = pages
  · obtain ⟨h1, h2⟩ := f.lw.gr (by rw [hs]; exact hne)
    cases hm2 : mayF s.left (heldS held) z with
    | false =>
      rcases hno hm2 with h3 | h3
      · exact .inl h3
      · exact .inr (List.contains_iff_mem.2 (List.mem_append_left _ h3))
    | true =>
      rcases f.lw.cn c (by rw [h1, List.take_length]; exact hc) z hz hm2 with h3 | h3
      · have h4 := setL_mem.2 (show z < pages ∧ t.s.C z = true from ⟨f.good.2 z (List.mem_append_left _ (left_mem (mem_leftS hc hz))), h3⟩)
        rw [h2] at h4
        simp at h4
      · exact .inr (List.contains_iff_mem.2 (List.mem_append_right _ h3))
  · have h1 := f.tw.gr hs
    rcases hno (f.tw.no c (by rw [h1, List.take_length]; exact hc) z hz) with h3 | h3
    · exact .inl h3
    · exact .inr (List.contains_iff_mem.2 (List.mem_append_left _ h3))
theorem took_small {a b : Int} {chain : List (Nat × List Nat)} {pages most : Nat} {held rel : List Nat} {trees : Int} {p : PlanV} (h : planF a b chain pages held trees rel most = .inr p) : p.trees.length ≤ 200000 ∧ p.lists.length ≤ 200000 ∧ All4 (p.trees ++ p.lists.map (·.1)) := by
  obtain ⟨g1, g2, g3, g4, g5⟩ := plan_small h
  obtain ⟨s, t, hm⟩ := planF_inr h
  have f := hm.facts
  have e2 : p.trees = s.trees := by rw [hm.eq]
  have e4 : p.pages = t.pages := by rw [hm.eq]
  have h1 := f.tok.inv.1.le
  have h2 := f.tok.hi
  have h3 := f.m6
  refine ⟨by rw [e2]; omega, ?_, fun x hx => ?_⟩
  · have e5 : p.lists.length = t.lists.length := by rw [hm.eq]; simp [dealL_len]
    rw [e5]
    have := listG_ind (fun u => u.lists.length ≤ pages + 1) (fun u u2 hu hmo hs => ?_) _ _ _ (by simp) hm.lt
    · have := f.pm
      omega
    · have h6 := more_lt hmo (ent_rng f.may).1
      unfold stepL at hs
      split at hs
      · cases hs; simp; omega
      · split at hs
        · cases hs; exact hu
        · split at hs
          · cases hs; simp; omega
          · cases hs
  · rcases List.mem_append.1 hx with hx | hx
    · have := g2 x hx; omega
    · obtain ⟨c, hc, rfl⟩ := List.mem_map.1 hx
      have := (g1 c hc).1
      omega
set_option maxRecDepth 5000 in
set_option maxHeartbeats 16000000 in
theorem FreeWanted_walk (v nv : Value) (w : World) (hv : IsFrame v) (hn : IsNeed w nv) : Calls Try.prog 9 #[v, nv] w fun e w' => e = .returned (.bool true) ∧ Below w.heap.size w w' := by
  obtain ⟨a, b, rfl, ha, hb⟩ := hv
  obtain ⟨chv, hdv, rv, cs, held, rel, pages, most, trees, rfl, hch, hhe, hre, hp, hm, ht1, ht2⟩ := hn
  obtain ⟨cad, ccap, hcv, hx1⟩ := hch.1.form
  obtain ⟨had, hcap, hhv, hx2⟩ := hhe.1.form
  obtain ⟨rad, rcap, hrv, hx3⟩ := hre.1.form
  clear hx1 hx2 hx3
  subst hcv hhv hrv
  have HC := Lib.hid hch.1
  have HR := Lib.hid hre.1
  have HH := Lib.hid hhe.1
  clear hch hhe ha hb ht1 hre
  obtain ⟨R, hR⟩ : ∃ R, planF a b cs pages held trees rel most = R := ⟨_, rfl⟩
  have HRR := Lib.hid hR
  clear hR
  obtain ⟨N, hN⟩ : ∃ N, w.heap.size = N := ⟨_, rfl⟩
  have HN := Lib.hid hN
  rw [hN]
  clear hN
  obtain ⟨nc, hnc⟩ : ∃ k, cs.length = k := ⟨_, rfl⟩
  obtain ⟨nr, hnr⟩ : ∃ k, rel.length = k := ⟨_, rfl⟩
  obtain ⟨nh, hnh⟩ : ∃ k, held.length = k := ⟨_, rfl⟩
  have HNC := Lib.hid hnc
  rw [hnc] at HC ⊢
  rw [hnh] at HH ⊢
  rw [hnr] at HR ⊢
  clear hnc hnr hnh
  go_enter Try.func9, Try.ntmps9
  go_upto_region 0 with fail
  with_reducible refine wp_region_list ?_
  refine wpList_boxB rfl _ _ rfl N HN.out #[.int .i64 a, .int .i64 b] rfl ?_
  intro w1 e1 b1 z1
  (try simp only [Act.put, nA, nB, nC])
  obtain ⟨M, hM⟩ : ∃ M, w1.heap.size = M := ⟨_, rfl⟩
  have HM : Hid (M = N + 1) := by show _ = _; rw [← hM]; omega
  refine wpList_boxB rfl _ _ rfl M hM #[.slice cad nc ccap, .int .u32 (pages : Int), .slice had nh hcap, .int .i64 trees, .slice rad nr rcap, .int .u32 (most : Int)] rfl ?_
  intro w2 e2 b2 z2
  (try simp only [Act.put, nA, nB, nC])
  (with_reducible refine wpList_plain rfl ?_); intro K hK; go_simp; (with_reducible refine hK _ _ ?_); clear hK K; try simp only [Act.put, nA, nB, nC]
  have B2 : Hid (Below N w w2) := b1.trans (b2.mono (by have := HM.out; omega))
  have e3 := heap_below e1 b2 (by have := HM.out; omega)
  have Z2 : Hid (M < w2.heap.size) := heap_lt e2
  clear e1 b1 b2 z1 z2 hM
  go_upto_region 1 with fail
  with_reducible refine wp_region_list ?_
  with_reducible refine wpList_plain rfl ?_
  intro K hK
  go_simp
  refine (awake_any w2).mono ?_; rintro e w3 ⟨rfl, b3⟩
  first | with_reducible refine hK _ _ ?_ | refine hK _ _ ?_
  clear hK K
  (try simp only [Act.put, nA, nB, nC])
  (with_reducible refine wpList_plain rfl ?_); intro K hK; go_simp; (with_reducible refine hK _ _ ?_); clear hK K; try simp only [Act.put, nA, nB, nC]
  have B3 : Hid (Below N w w3) := B2.out.trans (b3.mono (by have := HM.out; have := Z2.out; omega))
  have hz3 : M < w3.heap.size := by have := b3.size; have := Z2.out; omega
  have E2 := heap_below e2 b3 Z2.out
  have E3 := heap_below e3 b3 (by have := HM.out; have := Z2.out; omega)
  clear b3 e2 e3 B2 Z2
  have c0 := heap_cell E3 (o := 0)
  have c1 := heap_cell E3 (o := 1)
  have d0 := heap_cell E2 (o := 0)
  have d1 := heap_cell E2 (o := 1)
  have d2 := heap_cell E2 (o := 2)
  have d3 := heap_cell E2 (o := 3)
  have d4 := heap_cell E2 (o := 4)
  have d5 := heap_cell E2 (o := 5)
  have HP : Hid (Calls Try.prog 31 #[.agg #[.int .i64 a, .int .i64 b], .agg #[.slice cad nc ccap, .int .u32 (pages : Int), .slice had nh hcap, .int .i64 trees, .slice rad nr rcap, .int .u32 (most : Int)]] w3 fun e w' => ∃ ad n1 c1 ad2 n2 c2 op pg k, e = .returned (.tuple #[.agg #[.slice ad n1 c1, .slice ad2 n2 c2, .int .i64 ((op : Nat) : Int), .int .u32 ((pg : Nat) : Int)], .int .i64 k]) ∧ ToldP w' R ad n1 c1 ad2 n2 c2 op pg k ∧ Below w3.heap.size w3 w') := by
    have h := Plan_told a b pages most trees _ _ _ cs held rel w3 (HC.out.below (by rw [HN.out]; exact B3.out)) (HH.out.below (by rw [HN.out]; exact B3.out)) (HR.out.below (by rw [HN.out]; exact B3.out)) hp hm ht2
    rw [HRR.out] at h
    exact h
  have F2H := Lib.hid E2
  have F3H := Lib.hid E3
  clear E2 E3
  go_upto_region 3 with fail
  with_reducible refine wp_region_list ?_
  (with_reducible refine wpList_plain rfl ?_); intro K hK; go_simp; (with_reducible refine hK _ _ ?_); clear hK K; try simp only [Act.put, nA, nB, nC]
  (with_reducible refine wpList_plain rfl ?_); intro K hK; go_simp; (with_reducible refine hK _ _ ?_); clear hK K; try simp only [Act.put, nA, nB, nC]
  with_reducible refine wpList_plain rfl ?_
  intro K hK
  go_simp
  refine HP.out.mono ?_; rintro e w5 ⟨ad, n1, k1, ad2, n2, k2, op, pg, k, rfl, told, b5⟩
  first | with_reducible refine hK _ _ ?_ | refine hK _ _ ?_
  clear hK K
  (try simp only [Act.put, nA, nB, nC])
  have TD := Lib.hid told
  have B5 : Hid (Below N w w5) := B3.out.trans (b5.mono (by have := HM.out; omega))
  have F2 := heap_below F2H.out b5 hz3
  have F3 := heap_below F3H.out b5 (by have := HM.out; omega)
  have G2 := Lib.hid F2
  have G3 := Lib.hid F3
  have hz5 : M < w5.heap.size := heap_lt F2
  clear told b5 F2 F3 F2H F3H HP c0 c1 d0 d1 d2 d3 d4 d5 B3 hz3
  (with_reducible refine wpList_plain rfl ?_); intro K hK; go_simp; (with_reducible refine hK _ _ ?_); clear hK K; try simp only [Act.put, nA, nB, nC]
  (with_reducible refine wpList_plain rfl ?_); intro K hK; go_simp; (with_reducible refine hK _ _ ?_); clear hK K; try simp only [Act.put, nA, nB, nC]
  (with_reducible refine wpList_plain rfl ?_); intro K hK; go_simp; (with_reducible refine hK _ _ ?_); clear hK K; try simp only [Act.put, nA, nB, nC]
  obtain ⟨T, hT⟩ : ∃ k, w5.heap.size = k := ⟨_, rfl⟩
  refine wpList_allocB rfl 48 rfl T hT (.agg #[.slice none 0 0, .slice none 0 0, .int .i64 0, .int .u32 0]) (fun _ => by kernel_rfl) ?_
  intro w6 e6 b6 z6
  (try simp only [Act.put, nA, nB, nC])
  refine wpList_storeB rfl 48 _ _ rfl T #[.slice ad n1 k1, .slice ad2 n2 k2, .int .i64 (op : Int), .int .u32 (pg : Int)] rfl rfl 48 _ e6 (by kernel_rfl) rfl (by simp [Value.oneCell']) ?_
  intro w7 e7 m7
  (try simp only [Act.put, nA, nB, nC])
  (with_reducible refine wpList_plain rfl ?_); intro K hK; go_simp; (with_reducible refine hK _ _ ?_); clear hK K; try simp only [Act.put, nA, nB, nC]
  have b7 : Below w5.heap.size w5 w7 := by rw [hT]; exact b6.trans (m7.below (n := T) (fun k hk e => by omega) (by omega))
  have B7 : Hid (Below N w w7) := B5.out.trans (b7.mono (by have := HM.out; omega))
  have F2 := heap_below G2.out b7 hz5
  have F3 := heap_below G3.out b7 (by have := HM.out; omega)
  have G2 := Lib.hid F2
  have G3 := Lib.hid F3
  have hz7 : M < w7.heap.size := heap_lt F2
  have TD := Lib.hid (TD.out.below b7)
  have E7 := Lib.hid e7
  have hzT : T < w7.heap.size := heap_lt e7
  clear F2 F3 e6 e7 b6 z6 m7 b7 B5 hT
  have d1 := heap_cell G2.out (o := 1)
  have t3 := heap_cell E7.out (o := 3)
  by_cases hk : k = 0
  case neg =>
    have hk2 : (k != 0) = true := by simpa using hk
    clear hk
    go_wp2_with fail
    go_ret
    exact ⟨rfl, B7.out⟩
  case pos =>
    subst hk
    by_cases hpg : pg = pages
    case pos =>
      have h3 : ((pg : Int) == (pages : Int)) = true := by simp; omega
      have h4 : decide (pg = pages) = true := decide_eq_true hpg
      clear hpg
      go_wp2_with fail
      go_ret
      exact ⟨rfl, B7.out⟩
    case neg =>
      have h3 : ((pg : Int) == (pages : Int)) = false := by simp; omega
      have h4 : decide (pg = pages) = false := decide_eq_false hpg
      have HF : Hid (∃ p, R = .inr p ∧ n1 = p.trees.length ∧ n2 = p.lists.length ∧ op = p.opened ∧ URow w7 (.slice ad n1 k1) p.trees ∧ CRow w7 (.slice ad2 n2 k2) p.lists ∧ (∀ c ∈ p.lists, pages ≤ c.1 → op = nc) ∧ (∀ c ∈ cs, ∀ z ∈ c.2, held.contains z = true ∨ (p.trees ++ p.lists.map (·.1)).contains z = true) ∧ p.trees.length ≤ 200000 ∧ p.lists.length ≤ 200000 ∧ All4 (p.trees ++ p.lists.map (·.1))) := by
        have ht := TD.out
        have hr := HRR.out
        have hnc := HNC.out
        cases R with
        | inl j => obtain ⟨h1, h2, _⟩ := ht; exact absurd h1.symm h2
        | inr p =>
          obtain ⟨_, g1, g2, g3, g4, g5, g6⟩ := ht
          obtain ⟨q1, q2⟩ := wanted_plain hr (by rw [← g4]; exact hpg)
          obtain ⟨q3, q4, q5⟩ := took_small hr
          exact ⟨p, rfl, g1, g2, g3, g5, g6, fun c hc hp => by rw [g3, q1 c hc hp, hnc], q2, q3, q4, q5⟩
      obtain ⟨p, hpR, hn1, hn2, hop, hrT, hrC, hW1, hW2, hW3, hW4, hW5⟩ := HF.out
      have RT := Lib.hid hrT
      have RC := Lib.hid hrC
      have HN2 := Lib.hid hn2
      have W1 := Lib.hid hW1
      have W2 := Lib.hid hW2
      have W5 := Lib.hid hW5
      have HZ2 := Lib.hid hW4
      have HK := Lib.hid (took_any ad n1 k1 ad2 n2 k2 op pg p.trees p.lists w7 RT RC hW3 hW4 HN2)
      clear TD HRR HF hpR hn1 hn2 hop hrT hrC hW1 hW2 hW3 hW4 hW5 hpg
      go_upto_region 6 with fail
      clear h3 h4 t3 d1
      have t0 := heap_cell E7.out (o := 0)
      have t1 := heap_cell E7.out (o := 1)
      have t2 := heap_cell E7.out (o := 2)
      have t3 := heap_cell E7.out (o := 3)
      with_reducible refine wp_region_list ?_
      (with_reducible refine wpList_plain rfl ?_); intro K hK; go_simp; (with_reducible refine hK _ _ ?_); clear hK K; try simp only [Act.put, nA, nB, nC]
      with_reducible refine wpList_plain rfl ?_
      intro K hK
      go_simp
      refine HK.out.mono ?_; rintro e w8 ⟨v8, rfl, o8, b8⟩
      first | with_reducible refine hK _ _ ?_ | refine hK _ _ ?_
      clear hK K
      (try simp only [Act.put, nA, nB, nC])
      have hr8 := o8.row W5.out
      obtain ⟨vad, vc, hv8, hx9, hx8⟩ := hr8.form
      obtain ⟨vn, hvn⟩ : ∃ k, (p.trees ++ p.lists.map (·.1)).length = k := ⟨_, rfl⟩
      rw [hvn] at hv8
      subst hv8
      have HV := Lib.hid hr8
      clear hvn hr8 hx8 hx9 o8
      (with_reducible refine wpList_plain rfl ?_); intro K hK; go_simp; (with_reducible refine hK _ _ ?_); clear hK K; try simp only [Act.put, nA, nB, nC]
      have B8 : Hid (Below N w w8) := B7.out.trans (b8.mono (by have := HM.out; omega))
      have E8 := Lib.hid (heap_below E7.out b8 hzT)
      have J2 := Lib.hid (heap_below G2.out b8 hz7)
      have RC8 := Lib.hid (RC.out.below b8)
      have hzT8 : T < w8.heap.size := heap_lt E8.out
      have hzM8 : M < w8.heap.size := heap_lt J2.out
      clear t0 t1 t2 t3 B7 E7 G2 G3 RC RT hz7 hzT b8 HK
      go_upto_region 8 with fail
      go_loopw [8] (fun iv wr => ∃ (k : Nat), k ≤ n2 ∧ Hid (Below w8.heap.size w8 wr) ∧ iv = .int .i64 (k : Int)) (fun iv _ => n2 - (intOf iv).toNat)
      case atStart => exact ⟨0, Nat.zero_le _, Below.refl _ _, rfl⟩
      case round =>
        obtain ⟨k, hk, HB, rfl⟩ := hrel
        have Er := heap_below E8.out HB.out hzT8
        have Jr := heap_below J2.out HB.out hzM8
        have t1 := heap_cell Er (o := 1)
        by_cases hlt : k < n2
        case pos =>
          have ik : (k : Int) < (n2 : Int) := by omega
          have hkx : k < p.lists.length := by have := HN2.out; omega
          obtain ⟨b1, o1, nad, nc2, e1, r1, u1, pp1⟩ := (RC8.out.below HB.out).at hkx
          subst e1
          have hw1 := W1.out _ (List.getElem_mem hkx)
          obtain ⟨⟨x, xl⟩, hx⟩ : ∃ x, p.lists[k] = x := ⟨_, rfl⟩
          rw [hx] at r1 pp1 hw1
          simp only at r1 pp1 hw1
          have f1 := r1 0 _ rfl
          unfold uN at f1
          rw [Nat.add_zero] at f1
          obtain ⟨k9, hk9⟩ : ∃ k9 : Nat, k9 = k + 1 := ⟨_, rfl⟩
          have ew1 : (k : Int) + 1 = (k9 : Int) := by omega
          have ew2 : IntKind.i64.wrap (k9 : Int) = (k9 : Int) := IntWalk.i64_in _ (by have := HZ2.out; omega)
          have hk3 : k9 ≤ n2 := by omega
          have hk4 : n2 - k9 < n2 - k := by omega
          clear hk9 hx r1 u1 pp1 hkx hlt
          have d1 := heap_cell Jr (o := 1)
          have d0 := heap_cell Jr (o := 0)
          have t2 := heap_cell Er (o := 2)
          by_cases hge : pages ≤ x
          case pos =>
            have hon := hw1 hge
            subst hon
            have g1 : decide (pages ≤ x) = true := decide_eq_true hge
            have g2 : ((op : Int) != (op : Int)) = false := by simp
            clear hw1 hge Er Jr
            go_upto_region 10 with fail
            go_quiet (fail)
            have HB2 : Hid (Below w8.heap.size w8 (wr.drewN nq)) := HB.out.trans ((below_dN wr nq).mono HB.out.size)
            clear t1 t2 d0 d1 f1 g1 g2
            go_wp2_with fail
            exact ⟨⟨k9, hk3, HB2, rfl⟩, by simp only [intOf, Int.toNat_natCast]; exact hk4⟩
          case neg =>
            have g1 : decide (pages ≤ x) = false := decide_eq_false hge
            clear hw1 hge Er Jr
            go_upto_region 10 with fail
            go_quiet (fail)
            have HB2 : Hid (Below w8.heap.size w8 (wr.drewN nq)) := HB.out.trans ((below_dN wr nq).mono HB.out.size)
            clear t1 t2 d0 d1 f1 g1
            go_wp2_with fail
            exact ⟨⟨k9, hk3, HB2, rfl⟩, by simp only [intOf, Int.toNat_natCast]; exact hk4⟩
        case neg =>
          have ik : ¬ (k : Int) < (n2 : Int) := by omega
          clear hlt
          go_upto_region 12 with fail
          go_upto_region 13 with fail
          have HL9 := Lib.hid HB.out
          clear t1 Er Jr ik hk HB
          go_loopw [9] (fun iv wr2 => ∃ (j : Nat), j ≤ nc ∧ Hid (Below w8.heap.size w8 wr2) ∧ iv = .int .i64 (j : Int)) (fun iv _ => nc - (intOf iv).toNat)
          case atStart => exact ⟨0, Nat.zero_le _, HL9, rfl⟩
          case round =>
            obtain ⟨j, hj, HB, rfl⟩ := hrel
            have Jr := heap_below J2.out HB.out hzM8
            have d0 := heap_cell Jr (o := 0)
            by_cases hlt : j < nc
            case neg =>
              have ij : ¬ (j : Int) < (nc : Int) := by omega
              have HBN : Hid (Below N w _) := B8.out.trans (HB.out.mono (by have h1 := B8.out.size; rw [HN.out] at h1; exact h1))
              clear hlt
              go_wp2_with fail
              go_ret
              exact ⟨rfl, HBN.out⟩
            case pos =>
              have ij : (j : Int) < (nc : Int) := by omega
              have hjx : j < cs.length := by have := HNC.out; omega
              have hC8 : CRow w8 (.slice cad nc ccap) cs := HC.out.below (by rw [HN.out]; exact B8.out)
              obtain ⟨b2, o2, nad, nc2, e2, r2, u2, pp2⟩ := hC8.at hjx
              subst e2
              have hw2 := W2.out _ (List.getElem_mem hjx)
              obtain ⟨⟨pg2, xs⟩, hx⟩ : ∃ x, cs[j] = x := ⟨_, rfl⟩
              rw [hx] at r2 u2 hw2
              simp only at r2 u2 hw2
              have HU := Lib.hid u2
              have hu3 := u2.form
              obtain ⟨uad, uc, huv, hul, hux⟩ := hu3
              have huv2 := Value.slice.inj huv
              have HX := Lib.hid hux
              have W3 := Lib.hid hw2
              have R2 := Lib.hid r2
              obtain ⟨xn, hxn⟩ : ∃ n, xs.length = n := ⟨_, rfl⟩
              have HXN := Lib.hid hxn
              rw [hxn] at R2 HU hul
              have hb2 : b2 < w8.heap.size := by
                have := (Below.refl w8.heap.size w8)
                exact World.block_lt_of_cell? w8 ⟨b2, o2 + j * 2 + 1, none⟩ (R2.out 1 _ rfl)
              clear hx r2 u2 pp2 hC8 huv huv2 hux hw2 hxn hjx hlt
              obtain ⟨j9, hj9⟩ : ∃ j9 : Nat, j9 = j + 1 := ⟨_, rfl⟩
              have ew1 : (j : Int) + 1 = (j9 : Int) := by omega
              have ew2 : IntKind.i64.wrap (j9 : Int) = (j9 : Int) := IntWalk.i64_in _ (by have h1 := HC.out.form; obtain ⟨_, _, h2, h3⟩ := h1; have := HNC.out; omega)
              have hj3 : j9 ≤ nc := by omega
              have hj4 : nc - j9 < nc - j := by omega
              clear hj9
              go_upto_region 16 with fail
              have HL10 := Lib.hid HB.out
              clear d0 Jr HB
              go_loopw [10] (fun iv wr3 => ∃ (i : Nat), i ≤ xn ∧ Hid (Below w8.heap.size w8 wr3) ∧ iv = .int .i64 (i : Int)) (fun iv _ => xn - (intOf iv).toNat)
              case atStart => exact ⟨0, Nat.zero_le _, HL10, rfl⟩
              case round =>
                obtain ⟨i, hi, HB, rfl⟩ := hrel
                have Jr := heap_below J2.out HB.out hzM8
                have d0 := heap_cell Jr (o := 0)
                have r3 := range_block R2.out (HB.out.block b2 hb2)
                have f1 := r3 1 _ rfl
                clear r3
                by_cases hlt : i < xn
                case neg =>
                  have ii : ¬ (i : Int) < (xn : Int) := by omega
                  clear hlt
                  go_wp2_with fail
                  exact ⟨⟨j9, hj3, HB, rfl⟩, by simp only [intOf, Int.toNat_natCast]; exact hj4⟩
                case pos =>
                  have ii : (i : Int) < (xn : Int) := by omega
                  have hix : i < xs.length := by have := HXN.out; omega
                  obtain ⟨a1, c1, e1, _, g1⟩ := (HU.out.below HB.out).form
                  obtain ⟨b3, o3, e3, hc3⟩ := g1 (by omega)
                  have e4 := (Value.slice.inj e1).1
                  rw [e3] at e4
                  subst e4
                  have h1 := hc3 i hix
                  have hor := W3.out _ (List.getElem_mem hix)
                  have hx4 : xs[i] < 4294967296 := HU.out.1 _ (List.getElem_mem hix)
                  obtain ⟨x, hx⟩ : ∃ x, xs[i] = x := ⟨_, rfl⟩
                  rw [hx] at h1 hor hx4
                  unfold uN at h1
                  obtain ⟨i9, hi9⟩ : ∃ i9 : Nat, i9 = i + 1 := ⟨_, rfl⟩
                  have iw1 : (i : Int) + 1 = (i9 : Int) := by omega
                  have iw2 : IntKind.i64.wrap (i9 : Int) = (i9 : Int) := IntWalk.i64_in _ (by omega)
                  have hi3 : i9 ≤ xn := by omega
                  have hi4 : xn - i9 < xn - i := by omega
                  have HOR := Lib.hid hor
                  clear hi9 hx hc3 e1 e3 g1 hix hlt hor
                  have d2 := heap_cell Jr (o := 2)
                  have HC1 := has_any (.slice had nh hcap) held x wr (HH.out.below (by rw [HN.out]; exact B8.out.trans (HB.out.mono (by have h1 := B8.out.size; rw [HN.out] at h1; exact h1))))
                  by_cases hh : held.contains x = true
                  case pos =>
                    rw [hh] at HC1
                    have HC2 := Lib.hid HC1
                    clear HC1 hh Jr
                    go_upto_region 19 with fail
                    with_reducible refine wp_region_list ?_
                    (with_reducible refine wpList_plain rfl ?_); intro K hK; go_simp; (with_reducible refine hK _ _ ?_); clear hK K; try simp only [Act.put, nA, nB, nC]
                    (with_reducible refine wpList_plain rfl ?_); intro K hK; go_simp; (with_reducible refine hK _ _ ?_); clear hK K; try simp only [Act.put, nA, nB, nC]
                    (with_reducible refine wpList_plain rfl ?_); intro K hK; go_simp; (with_reducible refine hK _ _ ?_); clear hK K; try simp only [Act.put, nA, nB, nC]
                    with_reducible refine wpList_plain rfl ?_
                    intro K hK
                    go_simp
                    refine HC2.out.mono ?_; rintro e w9 ⟨rfl, b9⟩
                    first | with_reducible refine hK _ _ ?_ | refine hK _ _ ?_
                    clear hK K
                    (try simp only [Act.put, nA, nB, nC])
                    (with_reducible refine wpList_plain rfl ?_); intro K hK; go_simp; (with_reducible refine hK _ _ ?_); clear hK K; try simp only [Act.put, nA, nB, nC]
                    (with_reducible refine wpList_plain rfl ?_); intro K hK; go_simp; (with_reducible refine hK _ _ ?_); clear hK K; try simp only [Act.put, nA, nB, nC]
                    (with_reducible refine wpList_step ?_); intro K hK; rw [if_neg (Bool.eq_false_iff.1 (by rfl))]; (with_reducible refine hK _ _ ?_); clear hK K; try simp only [Act.put, nA, nB, nC]
                    (with_reducible refine wpList_step ?_); intro K hK; rw [if_neg (Bool.eq_false_iff.1 (by rfl))]; (with_reducible refine hK _ _ ?_); clear hK K; try simp only [Act.put, nA, nB, nC]
                    (with_reducible refine wpList_step ?_); intro K hK; rw [if_neg (Bool.eq_false_iff.1 (by rfl))]; (with_reducible refine hK _ _ ?_); clear hK K; try simp only [Act.put, nA, nB, nC]
                    (with_reducible refine wpList_step ?_); intro K hK; rw [if_neg (Bool.eq_false_iff.1 (by rfl))]; (with_reducible refine hK _ _ ?_); clear hK K; try simp only [Act.put, nA, nB, nC]
                    (with_reducible refine wpList_plain rfl ?_); intro K hK; go_simp; (with_reducible refine hK _ _ ?_); clear hK K; try simp only [Act.put, nA, nB, nC]
                    have HB2 : Hid (Below w8.heap.size w8 w9) := HB.out.trans (b9.mono HB.out.size)
                    clear b9 d0 d2 f1 h1 HC2
                    go_wp2_with fail
                    exact ⟨⟨i9, hi3, HB2, rfl⟩, by simp only [intOf, Int.toNat_natCast]; exact hi4⟩
                  case neg =>
                    have hh2 : held.contains x = false := by simpa using hh
                    have hl2 : (p.trees ++ p.lists.map (·.1)).contains x = true := HOR.out.resolve_left hh
                    rw [hh2] at HC1
                    have HC2 := Lib.hid HC1
                    have HQ : Hid (∀ W, Below w8.heap.size w8 W → Calls Try.prog 37 #[.slice vad vn vc, .int .u32 (x : Int)] W (SamePost true W)) := fun W hW => by
                      have h := has_any (.slice vad vn vc) (p.trees ++ p.lists.map (·.1)) x W (HV.out.below hW)
                      rw [hl2] at h
                      exact h
                    clear HC1 hh hh2 hl2 Jr
                    go_upto_region 19 with fail
                    with_reducible refine wp_region_list ?_
                    (with_reducible refine wpList_plain rfl ?_); intro K hK; go_simp; (with_reducible refine hK _ _ ?_); clear hK K; try simp only [Act.put, nA, nB, nC]
                    (with_reducible refine wpList_plain rfl ?_); intro K hK; go_simp; (with_reducible refine hK _ _ ?_); clear hK K; try simp only [Act.put, nA, nB, nC]
                    (with_reducible refine wpList_plain rfl ?_); intro K hK; go_simp; (with_reducible refine hK _ _ ?_); clear hK K; try simp only [Act.put, nA, nB, nC]
                    with_reducible refine wpList_plain rfl ?_
                    intro K hK
                    go_simp
                    refine HC2.out.mono ?_; rintro e w9 ⟨rfl, b9⟩
                    first | with_reducible refine hK _ _ ?_ | refine hK _ _ ?_
                    clear hK K
                    (try simp only [Act.put, nA, nB, nC])
                    have HB2 : Hid (Below w8.heap.size w8 w9) := HB.out.trans (b9.mono HB.out.size)
                    (with_reducible refine wpList_plain rfl ?_); intro K hK; go_simp; (with_reducible refine hK _ _ ?_); clear hK K; try simp only [Act.put, nA, nB, nC]
                    (with_reducible refine wpList_plain rfl ?_); intro K hK; go_simp; (with_reducible refine hK _ _ ?_); clear hK K; try simp only [Act.put, nA, nB, nC]
                    (with_reducible refine wpList_step ?_); intro K hK; rw [if_pos (by rfl)]; go_simp; (with_reducible refine hK _ _ ?_); clear hK K; try simp only [Act.put, nA, nB, nC]
                    (with_reducible refine wpList_step ?_); intro K hK; rw [if_pos (by rfl)]; go_simp; (with_reducible refine hK _ _ ?_); clear hK K; try simp only [Act.put, nA, nB, nC]
                    with_reducible refine wpList_step ?_
                    intro K hK
                    rw [if_pos (by rfl)]
                    go_simp
                    refine (HQ.out w9 HB2.out).mono ?_; rintro e w10 ⟨rfl, b10⟩
                    first | with_reducible refine hK _ _ ?_ | refine hK _ _ ?_
                    clear hK K
                    (try simp only [Act.put, nA, nB, nC])
                    (with_reducible refine wpList_step ?_); intro K hK; rw [if_pos (by rfl)]; go_simp; (with_reducible refine hK _ _ ?_); clear hK K; try simp only [Act.put, nA, nB, nC]
                    (with_reducible refine wpList_plain rfl ?_); intro K hK; go_simp; (with_reducible refine hK _ _ ?_); clear hK K; try simp only [Act.put, nA, nB, nC]
                    have HB3 : Hid (Below w8.heap.size w8 w10) := HB2.out.trans (b10.mono HB2.out.size)
                    clear b9 b10 d0 d2 f1 h1 HC2 HQ HB2
                    go_wp2_with fail
                    exact ⟨⟨i9, hi3, HB3, rfl⟩, by simp only [intOf, Int.toNat_natCast]; exact hi4⟩
end Go.Proofs.Ytkngmnfgdlnddaa

