/-
  Plain laws of a plan: what holds all along while it is made.
-/
import Derived.Test.YtkngmnfgdlnddaaTakG
namespace Go.Proofs.Ytkngmnfgdlnddaa
open Go.RowKit Go.Lib Hw Go.Maps
set_option linter.unusedSimpArgs false
set_option linter.unusedVariables false

theorem planF_inl {a b : Int} {chain : List (Nat × List Nat)} {pages most : Nat} {held rel : List Nat} {trees k : Int} (h : planF a b chain pages held trees rel most = .inl k) : k = 2 ∨ k = 5 ∨ k = 90 := by
  unfold planF at h
  split at h
  · split at h
    · cases h; exact .inr (.inr rfl)
    · split at h
      · cases h; exact .inr (.inr rfl)
      · unfold plan2 at h
        split at h
        · cases h; exact .inr (.inl rfl)
        · split at h
          · cases h; exact .inr (.inl rfl)
          · cases h
  · cases h; exact .inl rfl
/-- what a plan that is told was made of -/
structure PMade (a b : Int) (chain : List (Nat × List Nat)) (pages : Nat) (held : List Nat) (trees : Int) (rel : List Nat) (most : Nat) (p : PlanV) (s : TS) (t : LSt) : Prop where
  arg : argB a b pages trees most = true
  seen : ∃ acc, seenGo (entI a b) pages chain [] = some acc ∧ ∃ acc2, numsGo pages rel acc = some acc2
  st : treesF (heldS held) most chain trees.toNat ⟨0, leftS chain, [], 0, pages⟩ = some s
  lt : listF s.left (heldS held) most (entI a b).toNat pages chain ⟨openN s.left (heldS held) chain rel s.opened, s.opened, s.pages, []⟩ = some t
  eq : p = ⟨s.trees, dealL (entI a b).toNat (setL pages t.s.L) t.lists, t.opened, t.pages⟩
theorem planF_inr {a b : Int} {chain : List (Nat × List Nat)} {pages most : Nat} {held rel : List Nat} {trees : Int} {p : PlanV} (h : planF a b chain pages held trees rel most = .inr p) : ∃ s t, PMade a b chain pages held trees rel most p s t := by
  unfold planF at h
  split at h
  · rename_i ha
    split at h
    · cases h
    · rename_i acc h1
      split at h
      · cases h
      · rename_i acc2 h2
        unfold plan2 at h
        split at h
        · cases h
        · rename_i s h3
          split at h
          · cases h
          · rename_i t h4
            cases h
            exact ⟨s, t, ha, ⟨acc, h1, acc2, h2⟩, h3, h4, rfl⟩
  · cases h
theorem listG_ind {left held : Nat → Bool} {most n P : Nat} {chain : List (Nat × List Nat)} (I : LSt → Prop) (hI : ∀ t t2, I t → moreL n P t = true → stepL left held most P chain t = some t2 → I t2) : ∀ (k : Nat) (t t2 : LSt), I t → listG left held most n P chain k t = some t2 → I t2
  | 0, t, t2, h, e => by rw [listG] at e; cases e; exact h
  | k + 1, t, t2, h, e => by
    rw [listG] at e
    by_cases hm : moreL n P t = true
    · rw [if_pos hm] at e
      cases hs : stepL left held most P chain t with
      | none => rw [hs] at e; cases e
      | some t3 => rw [hs] at e; exact listG_ind I hI k t3 t2 (hI t t3 h hm hs) e
    · rw [if_neg hm] at e
      cases e
      exact h
theorem treesF_ind {held : Nat → Bool} {most : Nat} {chain : List (Nat × List Nat)} (I : TS → Prop) (hI : ∀ s s2, I s → treeF held most chain s = some s2 → I s2) : ∀ (n : Nat) (s s2 : TS), I s → treesF held most chain n s = some s2 → I s2
  | 0, s, s2, h, e => by rw [treesF] at e; cases e; exact h
  | n + 1, s, s2, h, e => by
    rw [treesF] at e
    cases h1 : treeF held most chain s with
    | none => rw [h1] at e; cases e
    | some s3 => rw [h1] at e; exact treesF_ind I hI n s3 s2 (hI s s3 h h1) e
theorem treesF_len {held : Nat → Bool} {most : Nat} {chain : List (Nat × List Nat)} : ∀ (n : Nat) (s s2 : TS), treesF held most chain n s = some s2 → s2.trees.length = s.trees.length + n
  | 0, s, s2, e => by rw [treesF] at e; cases e; rfl
  | n + 1, s, s2, e => by
    rw [treesF] at e
    cases h1 : treeF held most chain s with
    | none => rw [h1] at e; cases e
    | some s3 =>
      rw [h1] at e
      have h2 := treesF_len n s3 s2 e
      have h3 : s3.trees.length = s.trees.length + 1 := by
        unfold treeF at h1
        split at h1
        · cases h1; simp [TS.take]
        · split at h1
          · cases h1; simp [TS.grow]
          · cases h1
      omega
theorem scanF_no {m : Nat → Bool} : ∀ (cs : List (Nat × List Nat)) (k a : Nat) (o : Option Nat), scanF m cs k = (a, o) → k ≤ a ∧ a ≤ k + cs.length ∧ (∀ c ∈ cs.take (a - k), ∀ z ∈ c.2, m z = false) ∧ (o = none → a = k + cs.length)
  | [], k, a, o, h => by
    rw [scanF] at h
    cases h
    exact ⟨Nat.le_refl _, Nat.le_refl _, fun c hc => by simp at hc, fun _ => rfl⟩
  | c :: r, k, a, o, h => by
    rw [scanF] at h
    cases hf : c.2.find? m with
    | some y =>
      rw [hf] at h
      cases h
      exact ⟨Nat.le_refl _, by omega, fun d hd => by simp at hd, fun h => by cases h⟩
    | none =>
      rw [hf] at h
      obtain ⟨h1, h2, h3, h4⟩ := scanF_no r (k + 1) a o h
      refine ⟨by omega, by rw [List.length_cons]; omega, fun d hd z hz => ?_, fun e => by rw [List.length_cons, h4 e]; omega⟩
      have e : a - k = (a - (k + 1)) + 1 := by omega
      rw [e, List.take_succ_cons] at hd
      rcases List.mem_cons.1 hd with rfl | hd
      · have := List.find?_eq_none.1 hf z hz
        simpa using this
      · exact h3 d hd z hz
/-- the trees' state: what is behind `at_` is used up; the count grew only where all is -/
structure TW (held : Nat → Bool) (chain : List (Nat × List Nat)) (p0 most : Nat) (s : TS) : Prop where
  op : s.opened ≤ s.at_ + 1
  len : s.opened ≤ chain.length
  at_ : s.at_ ≤ chain.length
  no : ∀ c ∈ chain.take s.at_, ∀ z ∈ c.2, mayF s.left held z = false
  gr : s.pages ≠ p0 → s.at_ = chain.length
  lf : ∀ z, s.left z = true ↔ (leftS chain z = true ∧ z ∉ s.trees)
  lt : ∀ z, leftS chain z = true → z < p0
  tr : ∀ x ∈ s.trees, x < p0 → leftS chain x = true ∧ held x = false
  lo : p0 ≤ s.pages
  tk : ∀ x ∈ s.trees, x < p0 → ∃ c ∈ chain.take s.opened, x ∈ c.2
theorem scan_yes {m : Nat → Bool} : ∀ (cs : List (Nat × List Nat)) (k a no : Nat), scanF m cs k = (a, some no) → ∃ h : a - k < cs.length, no ∈ (cs[a - k]).2
  | [], k, a, no, h => by rw [scanF] at h; cases h
  | c :: r, k, a, no, h => by
    have hle := (scanF_no _ _ _ _ h).1
    rw [scanF] at h
    cases hf : c.2.find? m with
    | some y =>
      rw [hf] at h
      cases h
      exact ⟨by simp, by simpa using List.mem_of_find?_eq_some hf⟩
    | none =>
      rw [hf] at h
      have h1 := (scanF_no _ _ _ _ h).1
      obtain ⟨h2, h3⟩ := scan_yes r (k + 1) a no h
      have e : a - k = (a - (k + 1)) + 1 := by omega
      refine ⟨by rw [List.length_cons]; omega, ?_⟩
      simp only [e, List.getElem_cons_succ]
      exact h3
theorem treeF_tw {held : Nat → Bool} {most p0 : Nat} {chain : List (Nat × List Nat)} {s s2 : TS} (h : TW held chain p0 most s) (ht : treeF held most chain s = some s2) : TW held chain p0 most s2 := by
  cases hs : scanF (mayF s.left held) (chain.drop s.at_) s.at_ with
  | mk a o =>
    obtain ⟨h1, h2, h3, h4⟩ := scanF_no _ _ _ _ hs
    rw [List.length_drop] at h2 h4
    have hat := h.at_
    have hop := h.op
    have hno : ∀ c ∈ chain.take a, ∀ z ∈ c.2, mayF s.left held z = false := fun c hc z hz => by
      have e : chain.take a = chain.take s.at_ ++ (chain.drop s.at_).take (a - s.at_) := by
        rw [← List.take_add, show s.at_ + (a - s.at_) = a by omega]
      rw [e] at hc
      rcases List.mem_append.1 hc with hc | hc
      · exact h.no c hc z hz
      · exact h3 c hc z hz
    cases o with
    | some no =>
      rw [treeF_yes hs] at ht
      cases ht
      obtain ⟨g1, g2, g3⟩ := scanF_some _ _ _ _ hs
      rw [List.length_drop] at g2
      obtain ⟨y1, y2⟩ := scan_yes _ _ _ _ hs
      rw [List.getElem_drop] at y2
      have g4 : s.left no = true ∧ held no = false := by
        unfold mayF at g3
        simpa using g3
      have hal : a < chain.length := by omega
      have y3 : no ∈ (chain[a]).2 := by
        have e : s.at_ + (a - s.at_) = a := by omega
        simpa only [e] using y2
      refine ⟨Nat.le_refl _, by show a + 1 ≤ _; omega, by show a ≤ _; omega, fun c hc z hz => ?_, fun e => ?_, fun z => ?_, h.lt, fun x hx hp => ?_, h.lo, fun x hx hp => ?_⟩
      · have := hno c hc z hz
        unfold mayF at this ⊢
        simp only [TS.take]
        cases hl : s.left z with
        | false => simp
        | true => rw [hl] at this; simpa using fun _ => this
      · have := h.gr e
        omega
      · simp only [TS.take, Bool.and_eq_true, Bool.not_eq_true', decide_eq_false_iff_not, List.mem_append, List.mem_singleton, not_or]
        rw [h.lf z]
        constructor
        · rintro ⟨q1, q2, q3⟩; exact ⟨q2, q3, q1⟩
        · rintro ⟨q1, q2, q3⟩; exact ⟨q3, q1, q2⟩
      · rcases List.mem_append.1 hx with hx | hx
        · exact h.tr x hx hp
        · rw [List.mem_singleton.1 hx]
          exact ⟨((h.lf no).1 g4.1).1, g4.2⟩
      · rcases List.mem_append.1 hx with hx | hx
        · obtain ⟨c, hc, hz⟩ := h.tk x hx hp
          refine ⟨c, ?_, hz⟩
          exact List.mem_of_mem_take (i := s.opened) (by rw [List.take_take, Nat.min_eq_left (by show s.opened ≤ a + 1; omega)]; exact hc)
        · rw [List.mem_singleton.1 hx]
          exact ⟨chain[a], List.mem_take_iff_getElem.2 ⟨a, by show a < min (a + 1) _; omega, rfl⟩, y3⟩
    | none =>
      rw [treeF_no hs] at ht
      by_cases hp : s.pages < most
      · rw [if_pos hp] at ht
        cases ht
        have hae := h4 rfl
        refine ⟨by show s.opened ≤ a + 1; omega, h.len, by show a ≤ _; omega, fun c hc z hz => hno c hc z hz, fun _ => by show a = _; omega, fun z => ?_, h.lt, fun x hx hp => ?_, Nat.le_succ_of_le h.lo, fun x hx hp => ?_⟩
        · simp only [TS.grow, List.mem_append, List.mem_singleton, not_or]
          rw [h.lf z]
          constructor
          · rintro ⟨q1, q2⟩
            have := h.lt z q1
            have := h.lo
            exact ⟨q1, q2, by omega⟩
          · rintro ⟨q1, q2, q3⟩; exact ⟨q1, q2⟩
        · rcases List.mem_append.1 hx with hx | hx
          · exact h.tr x hx hp
          · have := List.mem_singleton.1 hx
            have := h.lo
            omega
        · rcases List.mem_append.1 hx with hx | hx
          · exact h.tk x hx hp
          · have := List.mem_singleton.1 hx
            have := h.lo
            omega
      · rw [if_neg hp] at ht
        cases ht
theorem tw_start {held : Nat → Bool} {chain : List (Nat × List Nat)} {rel : List Nat} {pages most : Nat} (hg : Good pages chain rel) : TW held chain pages most ⟨0, leftS chain, [], 0, pages⟩ :=
  ⟨Nat.zero_le _, Nat.zero_le _, Nat.zero_le _, fun c hc => by simp at hc, fun e => absurd rfl e, fun z => by simp, fun z hz => hg.2 z (List.mem_append_left _ (left_mem hz)), fun x hx => by simp at hx, Nat.le_refl _, fun x hx => by simp at hx⟩
theorem mem_leftS {chain : List (Nat × List Nat)} {c : Nat × List Nat} {z : Nat} (hc : c ∈ chain) (hz : z ∈ c.2) : leftS chain z = true := List.any_eq_true.2 ⟨c, hc, List.contains_iff_mem.2 hz⟩
/-- the list pages' state -/
structure LW (left held : Nat → Bool) (P p0 most : Nat) (chain : List (Nat × List Nat)) (rel : List Nat) (t : LSt) : Prop where
  sinv : SInv chain rel t.opened t.s
  op : t.opened ≤ chain.length
  lo : p0 ≤ t.pages
  hi : t.pages ≤ most
  ls : ∀ x ∈ t.lists, x < t.pages ∧ (P ≤ x → t.opened = chain.length)
  cn : ∀ c ∈ chain.take t.opened, ∀ z ∈ c.2, mayF left held z = true → t.s.C z = true ∨ z ∈ t.lists
  cm : ∀ z, t.s.C z = true → mayF left held z = true
  gr : t.pages ≠ p0 → t.opened = chain.length ∧ setL P t.s.C = []
  lm : ∀ x ∈ t.lists, x < P → mayF left held x = true
theorem stepL_lw {left held : Nat → Bool} {most P p0 : Nat} {chain : List (Nat × List Nat)} {rel : List Nat} {t t2 : LSt} (hP : P ≤ p0) (h : LW left held P p0 most chain rel t) (hs : stepL left held most P chain t = some t2) : LW left held P p0 most chain rel t2 := by
  have hop := h.op
  have hlo := h.lo
  have hhi := h.hi
  unfold stepL at hs
  cases hC : setL P t.s.C with
  | cons x r =>
    rw [hC] at hs
    cases hs
    have hx : x < P ∧ t.s.C x = true := setL_mem.1 (by rw [hC]; exact List.mem_cons_self ..)
    refine ⟨h.sinv.drop x, h.op, h.lo, h.hi, fun y hy => ?_, fun c hc z hz hm => ?_, fun z hz => h.cm z (Bool.and_eq_true_iff.1 hz).1, fun e => ?_, fun y hy hp => ?_⟩
    · rcases List.mem_append.1 hy with hy | hy
      · exact h.ls y hy
      · rw [List.mem_singleton.1 hy]
        exact ⟨by show x < t.pages; omega, fun h => by omega⟩
    · rcases h.cn c hc z hz hm with h1 | h1
      · by_cases e : z = x
        · exact .inr (List.mem_append_right _ (by rw [e]; exact List.mem_cons_self ..))
        · exact .inl (by simp [dropS, h1, e])
      · exact .inr (List.mem_append_left _ h1)
    · have := (h.gr e).2
      rw [hC] at this
      cases this
    · rcases List.mem_append.1 hy with hy | hy
      · exact h.lm y hy hp
      · rw [List.mem_singleton.1 hy]
        exact h.cm x hx.2
  | nil =>
    rw [hC] at hs
    cases hc : chain[t.opened]? with
    | some c =>
      rw [hc] at hs
      cases hs
      obtain ⟨hj, hc2⟩ := List.getElem?_eq_some_iff.1 hc
      subst hc2
      refine ⟨SInv.open (P := P) h.sinv left held hj, hj, h.lo, h.hi, fun y hy => ?_, fun d hd z hz hm => ?_, fun z hz => ?_, fun e => ?_, h.lm⟩
      · exact ⟨(h.ls y hy).1, fun h2 => by have := (h.ls y hy).2 h2; omega⟩
      · rw [show (LSt.mk (openB left held t.s chain[t.opened]) (t.opened + 1) t.pages t.lists).opened = t.opened + 1 from rfl, List.take_succ_eq_append_getElem hj] at hd
        rcases List.mem_append.1 hd with hd | hd
        · rcases h.cn d hd z hz hm with h1 | h1
          · exact .inl (by simp [openB, h1])
          · exact .inr h1
        · rw [List.mem_singleton.1 hd] at hz
          exact .inl (by simp [openB, hm, hz])
      · simp only [openB, Bool.or_eq_true, Bool.and_eq_true] at hz
        rcases hz with h1 | h1
        · exact h.cm z h1
        · exact h1.2
      · have := (h.gr e).1
        omega
    | none =>
      rw [hc] at hs
      have hj := List.getElem?_eq_none_iff.1 hc
      by_cases hp : t.pages < most
      · dsimp only at hs
        rw [if_pos hp] at hs
        cases hs
        have heq : t.opened = chain.length := by omega
        refine ⟨h.sinv, h.op, by show p0 ≤ t.pages + 1; omega, hp, fun y hy => ?_, fun d hd z hz hm => ?_, h.cm, fun _ => ⟨heq, hC⟩, fun y hy hp => ?_⟩
        · rcases List.mem_append.1 hy with hy | hy
          · exact ⟨by have := (h.ls y hy).1; show y < t.pages + 1; omega, (h.ls y hy).2⟩
          · rw [List.mem_singleton.1 hy]
            exact ⟨Nat.lt_succ_self _, fun _ => heq⟩
        · rcases h.cn d hd z hz hm with h1 | h1
          · exact .inl h1
          · exact .inr (List.mem_append_left _ h1)
        · rcases List.mem_append.1 hy with hy | hy
          · exact h.lm y hy hp
          · have := List.mem_singleton.1 hy
            omega
      · dsimp only at hs
        rw [if_neg hp] at hs
        cases hs
theorem openN_C {left held : Nat → Bool} {chain : List (Nat × List Nat)} {rel : List Nat} (z : Nat) : ∀ (j : Nat), j ≤ chain.length → ((openN left held chain rel j).C z = true ↔ mayF left held z = true ∧ ∃ c ∈ chain.take j, z ∈ c.2)
  | 0, _ => by
    show (false = true ↔ _)
    simp
  | j + 1, h => by
    rw [openN_succ (by omega), List.take_succ_eq_append_getElem (by omega)]
    simp only [openB, Bool.or_eq_true, Bool.and_eq_true, List.contains_iff_mem, List.mem_append, List.mem_singleton]
    rw [openN_C z j (by omega)]
    constructor
    · rintro (⟨h1, c, h2, h3⟩ | ⟨h1, h2⟩)
      · exact ⟨h1, c, .inl h2, h3⟩
      · exact ⟨h2, _, .inr rfl, h1⟩
    · rintro ⟨h1, c, h2 | h2, h3⟩
      · exact .inl ⟨h1, c, h2, h3⟩
      · subst h2; exact .inr ⟨h3, h1⟩
theorem lw_start {left held : Nat → Bool} {P p0 most : Nat} {chain : List (Nat × List Nat)} {rel : List Nat} {j : Nat} (hj : j ≤ chain.length) (hm : p0 ≤ most) : LW left held P p0 most chain rel ⟨openN left held chain rel j, j, p0, []⟩ :=
  ⟨openN_inv (P := P) j hj, hj, Nat.le_refl _, hm, fun x hx => by simp at hx, fun c hc z hz hm => .inl ((openN_C z j hj).2 ⟨hm, c, hc, hz⟩), fun z hz => ((openN_C z j hj).1 hz).1, fun e => absurd rfl e, fun x hx => by simp at hx⟩
theorem dealL_fst (n : Nat) : ∀ (ps xs : List Nat), (dealL n xs ps).map (·.1) = ps
  | [], _ => rfl
  | p :: r, xs => by rw [dealL, List.map_cons, dealL_fst n r]
theorem dealL_mem (n : Nat) : ∀ (ps xs : List Nat) (c : Nat × List Nat), c ∈ dealL n xs ps → c.1 ∈ ps ∧ ∀ z ∈ c.2, z ∈ xs
  | [], _, c, h => by simp [dealL] at h
  | p :: r, xs, c, h => by
    rw [dealL] at h
    rcases List.mem_cons.1 h with rfl | h
    · exact ⟨List.mem_cons_self .., fun z hz => List.mem_of_mem_take hz⟩
    · obtain ⟨h1, h2⟩ := dealL_mem n r _ c h
      exact ⟨List.mem_cons_of_mem _ h1, fun z hz => List.mem_of_mem_drop (h2 z hz)⟩
/-- all that holds of a plan that is told -/
structure PFacts (a b : Int) (chain : List (Nat × List Nat)) (pages : Nat) (held : List Nat) (rel : List Nat) (most : Nat) (s : TS) (t : LSt) : Prop where
  may : mayB a b = true
  p2 : 2 ≤ pages
  pm : pages ≤ most
  m6 : most ≤ 65536
  good : Good pages chain rel
  low : ∀ x ∈ flat chain ++ rel, 2 ≤ x
  few : ∀ c ∈ chain, (c.2.length : Int) ≤ entI a b ∧ risB c.2 = true
  tw : TW (heldS held) chain pages most s
  tok : TOk most pages chain.length s
  lw : LW s.left (heldS held) pages s.pages most chain rel t
theorem PMade.facts {a b : Int} {chain : List (Nat × List Nat)} {pages most : Nat} {held rel : List Nat} {trees : Int} {p : PlanV} {s : TS} {t : LSt} (h : PMade a b chain pages held trees rel most p s t) : PFacts a b chain pages held rel most s t := by
  have ha := h.arg
  unfold argB at ha
  simp only [Bool.and_eq_true, decide_eq_true_eq] at ha
  obtain ⟨acc, h1, acc2, h2⟩ := h.seen
  have hg := good_of h1 h2
  obtain ⟨_, _, h5, h6⟩ := seenGo_some chain [] acc h1
  obtain ⟨_, _, h8⟩ := numsGo_some rel acc acc2 h2
  have tok := treesF_ok _ _ _ (tok_start h1 h2 ha.2.2.2.1) h.st
  have tw := treesF_ind (TW (heldS held) chain pages most) (fun s s2 => treeF_tw) _ _ _ (tw_start hg) h.st
  have lw := listG_ind (LW s.left (heldS held) pages s.pages most chain rel) (fun t t2 hl _ hs => stepL_lw tok.lo hl hs) _ _ _ (lw_start tok.op tok.hi) h.lt
  refine ⟨ha.1, ha.2.1, ha.2.2.2.1, ha.2.2.2.2.1, hg, fun x hx => ?_, h6, tw, tok, lw⟩
  rcases List.mem_append.1 hx with hx | hx
  · exact (h5 x hx).1
  · exact (h8 x hx).1
theorem setL_sub {P : Nat} {L : Nat → Bool} {ys : List Nat} (h : ∀ z, z < P → L z = true → z ∈ ys) : (setL P L).length ≤ ys.length :=
  nodup_le (setL P L) ys (setL_nodup P L) (fun z hz => h z (setL_mem.1 hz).1 (setL_mem.1 hz).2)
/-- few list pages -/
structure FW (left : Nat → Bool) (E P : Nat) (chain : List (Nat × List Nat)) (rel : List Nat) (t : LSt) : Prop where
  sinv : SInv chain rel t.opened t.s
  op : t.opened ≤ chain.length
  l : ∀ z, z < P → t.s.L z = true → z ∈ rel ∨ z ∈ (chain.take t.opened).map (·.1) ∨ t.s.C z = true
  c : (setL P t.s.C).length ≤ E
  k : t.lists.length = 0 ∨ (t.lists.length - 1) * E < rel.length + t.opened + E
  z : t.opened = 0 → rel = [] → t.lists = []
theorem FW.lt {left : Nat → Bool} {E P : Nat} {chain : List (Nat × List Nat)} {rel : List Nat} {t : LSt} (h : FW left E P chain rel t) : (setL P t.s.L).length ≤ rel.length + t.opened + (setL P t.s.C).length := by
  have h1 := setL_sub (P := P) (L := t.s.L) (ys := rel ++ ((chain.take t.opened).map (·.1) ++ setL P t.s.C)) (fun z hz hL => by
    rcases h.l z hz hL with h2 | h2 | h2
    · exact List.mem_append_left _ h2
    · exact List.mem_append_right _ (List.mem_append_left _ h2)
    · exact List.mem_append_right _ (List.mem_append_right _ (setL_mem.2 ⟨hz, h2⟩)))
  have hop := h.op
  simp only [List.length_append, List.length_map, List.length_take] at h1
  omega
theorem FW.nz {left : Nat → Bool} {E P : Nat} {chain : List (Nat × List Nat)} {rel : List Nat} {t : LSt} (h : FW left E P chain rel t) (h0 : t.opened = 0) (hr : rel = []) : setL P t.s.L = [] := by
  refine List.eq_nil_iff_forall_not_mem.2 (fun z hz => ?_)
  rcases h.sinv.1 z (setL_mem.1 hz).2 with h1 | h1
  · rw [hr] at h1; simp at h1
  · rw [h0] at h1; simp [flat] at h1
theorem stepL_fw {left held : Nat → Bool} {E most P : Nat} {chain : List (Nat × List Nat)} {rel : List Nat} {t t2 : LSt} (hh : ∀ z, held z = false) (hE : ∀ c ∈ chain, c.2.length ≤ E) (h : FW left E P chain rel t) (hm : moreL E P t = true) (hs : stepL left held most P chain t = some t2) : FW left E P chain rel t2 := by
  have hlt := h.lt
  have hc0 := h.c
  have hm2 := of_decide_eq_true hm
  have hop := h.op
  have hnz : t.opened = 0 → rel = [] → False := fun h0 hr => by
    rw [h.nz h0 hr] at hm2
    exact Nat.not_lt_zero _ hm2
  unfold stepL at hs
  cases hC : setL P t.s.C with
  | cons x r =>
    rw [hC] at hs
    cases hs
    refine ⟨h.sinv.drop x, h.op, fun z hz hL => ?_, ?_, .inr ?_, fun h0 hr => absurd (hnz h0 hr) id⟩
    · simp only [dropS, Bool.and_eq_true] at hL ⊢
      rcases h.l z hz hL.1 with h1 | h1 | h1
      · exact .inl h1
      · exact .inr (.inl h1)
      · exact .inr (.inr ⟨h1, hL.2⟩)
    · refine Nat.le_trans (setL_sub (fun z hz hc => ?_)) hc0
      exact setL_mem.2 ⟨hz, (Bool.and_eq_true_iff.1 hc).1⟩
    · show ((t.lists ++ [x]).length - 1) * E < _
      rw [List.length_append, List.length_singleton, Nat.add_sub_cancel]
      show _ < rel.length + t.opened + E
      omega
  | nil =>
    rw [hC] at hs
    cases hc : chain[t.opened]? with
    | some c =>
      rw [hc] at hs
      cases hs
      obtain ⟨hj, hc2⟩ := List.getElem?_eq_some_iff.1 hc
      subst hc2
      refine ⟨SInv.open (P := P) h.sinv left held hj, hj, fun z hz hL => ?_, ?_, ?_, fun h0 _ => by cases h0⟩
      · show _ ∨ z ∈ (chain.take (t.opened + 1)).map (·.1) ∨ _
        rw [List.take_succ_eq_append_getElem hj, List.map_append]
        simp only [openB, Bool.or_eq_true, Bool.and_eq_true, decide_eq_true_eq] at hL ⊢
        rcases hL with h1 | h1 | h1
        · rcases h.l z hz h1 with h2 | h2 | h2
          · exact .inl h2
          · exact .inr (.inl (List.mem_append_left _ h2))
          · exact .inr (.inr (.inl h2))
        · exact .inr (.inl (List.mem_append_right _ (by rw [h1]; exact List.mem_cons_self ..)))
        · refine .inr (.inr (.inr ⟨h1.1, ?_⟩))
          unfold mayF
          rw [h1.2, hh z]
          rfl
      · refine Nat.le_trans (setL_sub (ys := chain[t.opened].2) (fun z hz hc => ?_)) (hE _ (List.getElem_mem hj))
        simp only [openB, Bool.or_eq_true, Bool.and_eq_true, List.contains_iff_mem] at hc
        rcases hc with h1 | h1
        · have := setL_mem.2 ⟨hz, h1⟩
          rw [hC] at this
          simp at this
        · exact h1.1
      · rcases h.k with h1 | h1
        · exact .inl h1
        · exact .inr (by show (t.lists.length - 1) * E < rel.length + (t.opened + 1) + E; omega)
    | none =>
      rw [hc] at hs
      by_cases hp : t.pages < most
      · dsimp only at hs
        rw [if_pos hp] at hs
        cases hs
        refine ⟨h.sinv, h.op, h.l, h.c, .inr ?_, fun h0 hr => absurd (hnz h0 hr) id⟩
        show ((t.lists ++ [t.pages]).length - 1) * E < _
        rw [List.length_append, List.length_singleton, Nat.add_sub_cancel]
        show _ < rel.length + t.opened + E
        omega
      · dsimp only at hs
        rw [if_neg hp] at hs
        cases hs
theorem openN_L {left held : Nat → Bool} {chain : List (Nat × List Nat)} {rel : List Nat} (z : Nat) : ∀ (j : Nat), j ≤ chain.length → ((openN left held chain rel j).L z = true ↔ z ∈ rel ∨ z ∈ (chain.take j).map (·.1) ∨ (left z = true ∧ ∃ c ∈ chain.take j, z ∈ c.2))
  | 0, _ => by
    show (rel.contains z = true ↔ _)
    simp [List.contains_iff_mem]
  | j + 1, h => by
    rw [openN_succ (by omega), List.take_succ_eq_append_getElem (by omega), List.map_append]
    simp only [openB, Bool.or_eq_true, Bool.and_eq_true, decide_eq_true_eq, List.contains_iff_mem, List.mem_append, List.mem_singleton, List.map_cons, List.map_nil]
    rw [openN_L z j (by omega)]
    constructor
    · rintro ((h1 | h1 | ⟨h1, c, h2, h3⟩) | h1 | ⟨h1, h2⟩)
      · exact .inl h1
      · exact .inr (.inl (.inl h1))
      · exact .inr (.inr ⟨h1, c, .inl h2, h3⟩)
      · exact .inr (.inl (.inr h1))
      · exact .inr (.inr ⟨h2, _, .inr rfl, h1⟩)
    · rintro (h1 | (h1 | h1) | ⟨h1, c, h2 | h2, h3⟩)
      · exact .inl (.inl h1)
      · exact .inl (.inr (.inl h1))
      · exact .inr (.inl h1)
      · exact .inl (.inr (.inr ⟨h1, c, h2, h3⟩))
      · subst h2; exact .inr (.inr ⟨h3, h1⟩)
theorem fw_start {left held : Nat → Bool} {E P p0 : Nat} {chain : List (Nat × List Nat)} {rel : List Nat} {j at_ : Nat} (hh : ∀ z, held z = false) (hE : ∀ c ∈ chain, c.2.length ≤ E) (hj : j ≤ chain.length) (hja : j ≤ at_ + 1) (hno : ∀ c ∈ chain.take at_, ∀ z ∈ c.2, mayF left held z = false) : FW left E P chain rel ⟨openN left held chain rel j, j, p0, []⟩ := by
  refine ⟨openN_inv (P := P) j hj, hj, fun z _ hL => ?_, ?_, .inl rfl, fun _ _ => rfl⟩
  · rcases (openN_L z j hj).1 hL with h1 | h1 | ⟨h1, h2⟩
    · exact .inl h1
    · exact .inr (.inl h1)
    · exact .inr (.inr ((openN_C z j hj).2 ⟨by unfold mayF; rw [h1, hh z]; rfl, h2⟩))
  · by_cases h0 : at_ < chain.length
    · refine Nat.le_trans (setL_sub (ys := chain[at_].2) (fun z _ hC => ?_)) (hE _ (List.getElem_mem h0))
      obtain ⟨h1, c, h2, h3⟩ := (openN_C z j hj).1 hC
      have h4 : c ∈ chain.take (at_ + 1) := List.mem_of_mem_take (i := j) (by rw [List.take_take, Nat.min_eq_left hja]; exact h2)
      rw [List.take_succ_eq_append_getElem h0] at h4
      rcases List.mem_append.1 h4 with h4 | h4
      · rw [hno c h4 z h3] at h1; cases h1
      · rw [List.mem_singleton.1 h4] at h3; exact h3
    · have : setL P (openN left held chain rel j).C = [] := List.eq_nil_iff_forall_not_mem.2 (fun z hz => by
        obtain ⟨h1, c, h2, h3⟩ := (openN_C z j hj).1 (setL_mem.1 hz).2
        rw [hno c (by rw [List.take_of_length_le (by omega)]; exact List.mem_of_mem_take h2) z h3] at h1
        cases h1)
      show (setL P (openN left held chain rel j).C).length ≤ E
      rw [this]
      exact Nat.zero_le _
theorem ent_rng {a b : Int} (h : mayB a b = true) : 1 ≤ (entI a b).toNat ∧ (entI a b).toNat ≤ 2038 ∧ ((entI a b).toNat : Int) = entI a b := by
  have h1 := entI_bd a b
  have h2 : 246 ≤ entI a b := by
    rw [entI_true h]
    split
    · decide
    · split
      · decide
      · split <;> decide
  omega
theorem few_plain {a b : Int} {chain : List (Nat × List Nat)} {pages most : Nat} {rel : List Nat} {trees : Int} {p : PlanV} (h : planF a b chain pages [] trees rel most = .inr p) :
    p.lists.length ≤ 1 + (rel.length + p.opened + (entI a b).toNat - 1) / (entI a b).toNat ∧ (rel.length + p.opened = 0 → p.lists.length = 0) ∧ rel.length ≤ 65536 ∧ p.opened ≤ 65536 ∧ p.lists.length ≤ 200000 := by
  obtain ⟨s, t, hm⟩ := planF_inr h
  have f := hm.facts
  obtain ⟨e1, e2, e3⟩ := ent_rng f.may
  have hE : ∀ c ∈ chain, c.2.length ≤ (entI a b).toNat := fun c hc => by have := (f.few c hc).1; omega
  have fw := listG_ind (FW s.left (entI a b).toNat pages chain rel) (fun t t2 hl hm hs => stepL_fw (fun z => by simp [heldS]) hE hl hm hs) _ _ _ (fw_start (held := heldS []) (fun z => by simp [heldS]) hE f.tok.op f.tw.op f.tw.no) hm.lt
  have hp : p.lists.length = t.lists.length := by rw [hm.eq]; simp [dealL_len]
  have ho : p.opened = t.opened := by rw [hm.eq]
  have hr := (f.good.relN).2.2
  have hp6 := f.pm
  have hm6 := f.m6
  have hch : chain.length ≤ pages := by
    have h1 := (List.nodup_append.1 f.good.1).1
    have h2 := nodup_le (flat chain) (List.range pages) h1 (fun x hx => List.mem_range.2 (f.good.2 x (List.mem_append_left _ hx)))
    rw [List.length_range] at h2
    refine Nat.le_trans ?_ h2
    unfold flat
    clear h1 h2 fw hp ho hE hm f h
    induction chain with
    | nil => simp
    | cons c r ih => rw [List.flatMap_cons, List.length_append, List.length_cons, List.length_cons]; omega
  have hto := fw.op
  rw [hp, ho]
  have hk : t.lists.length ≤ 1 + (rel.length + t.opened + (entI a b).toNat - 1) / (entI a b).toNat := by
    rcases fw.k with h1 | h1
    · rw [h1]; exact Nat.zero_le _
    · have : t.lists.length - 1 ≤ (rel.length + t.opened + (entI a b).toNat - 1) / (entI a b).toNat := (Nat.le_div_iff_mul_le (by omega)).2 (by omega)
      omega
  refine ⟨hk, fun h0 => ?_, by omega, by omega, ?_⟩
  · have := fw.z (by omega) (List.eq_nil_of_length_eq_zero (by omega))
    rw [this]
    rfl
  · refine Nat.le_trans hk ?_
    have : (rel.length + t.opened + (entI a b).toNat - 1) / (entI a b).toNat ≤ rel.length + t.opened := by
      refine (Nat.div_le_iff_le_mul_add_pred (by omega)).2 ?_
      have := Nat.le_mul_of_pos_left (rel.length + t.opened) (show 0 < (entI a b).toNat by omega)
      omega
    omega
end Go.Proofs.Ytkngmnfgdlnddaa
