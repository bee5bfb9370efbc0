/-
  The document's Two and the program's agree.
-/
import Derived.Test.YtihbhpggpnmifaaGV
set_option linter.unusedSimpArgs false
set_option linter.unusedVariables false
namespace Go.Proofs.Ytihbhpggpnmifaa
open Go.RowKit Go.Lib Hw
set_option linter.unusedVariables false

theorem two_app (w : Nat) (old : Dg) : ∀ (n m : Nat) (t s : List Dg) (whole : Bool) (A B : Dg) (rest : List Dg), 1 ≤ m → m ≤ n → twoP w old m n t true whole = (A, B, rest, true) → twoP w old m n (t ++ s) true whole = (A, B, rest ++ s, true) := by
  intro n
  induction n using Nat.strongRecOn with
  | _ n ih =>
    intro m t s whole A B rest h0 hmn h
    by_cases h1 : m = n
    · subst h1
      cases whole
      · rw [twoP_part _ _ _ _ _ h0] at h ⊢
        cases t with
        | nil => simp at h
        | cons x xs =>
          simp only [List.headD_cons, List.tail_cons, List.isEmpty_cons, Prod.mk.injEq] at h
          obtain ⟨rfl, rfl, rfl, _⟩ := h
          rfl
      · rw [twoP_whole _ _ _ _ _ h0] at h ⊢
        simp only [Prod.mk.injEq, and_true] at h
        obtain ⟨rfl, rfl, rfl⟩ := h
        rfl
    · have hs := half_spec (n := n) (by omega)
      by_cases hm : m ≤ halfN n
      · rw [twoP_left _ _ _ _ _ _ _ h0 (by omega) hm] at h ⊢
        obtain ⟨⟨A', B', rest', ok'⟩, hr⟩ : ∃ r, twoP w old m (halfN n) t true whole = r := ⟨_, rfl⟩
        rw [hr] at h
        simp only [Prod.mk.injEq, Bool.and_eq_true] at h
        obtain ⟨h1, h2, h3, rfl, h5⟩ := h
        rw [ih (halfN n) (by omega) m t s whole A' B' rest' h0 hm hr]
        cases rest' with
        | nil => cases h5
        | cons x xs =>
          simp only [List.headD_cons, List.tail_cons, List.cons_append] at h1 h2 h3 ⊢
          rw [h1, h2, h3]
          rfl
      · rw [twoP_right _ _ _ _ _ _ _ h0 (by omega) hm] at h ⊢
        obtain ⟨⟨A', B', rest', ok'⟩, hr⟩ : ∃ r, twoP w old (m - halfN n) (n - halfN n) t true false = r := ⟨_, rfl⟩
        rw [hr] at h
        simp only [Prod.mk.injEq, Bool.and_eq_true] at h
        obtain ⟨h1, h2, h3, rfl, h5⟩ := h
        rw [ih (n - halfN n) (by omega) (m - halfN n) t s false A' B' rest' (by omega) (by omega) hr]
        cases rest' with
        | nil => cases h5
        | cons x xs =>
          simp only [List.headD_cons, List.tail_cons, List.cons_append] at h1 h2 h3 ⊢
          rw [h1, h2, h3]
          rfl
theorem two_cut (w : Nat) (old : Dg) : ∀ (n m : Nat) (t : List Dg) (whole : Bool) (A B : Dg) (rest : List Dg), 1 ≤ m → m ≤ n → twoP w old m n t true whole = (A, B, rest, true) → ∃ p, t = p ++ rest ∧ twoP w old m n p true whole = (A, B, [], true) := by
  intro n
  induction n using Nat.strongRecOn with
  | _ n ih =>
    intro m t whole A B rest h0 hmn h
    by_cases h1 : m = n
    · subst h1
      cases whole
      · rw [twoP_part _ _ _ _ _ h0] at h
        cases t with
        | nil => simp at h
        | cons x xs =>
          simp only [List.headD_cons, List.tail_cons, List.isEmpty_cons, Prod.mk.injEq] at h
          obtain ⟨rfl, rfl, rfl, _⟩ := h
          refine ⟨[x], rfl, ?_⟩
          rw [twoP_part _ _ _ _ _ h0]
          rfl
      · rw [twoP_whole _ _ _ _ _ h0] at h
        simp only [Prod.mk.injEq, and_true] at h
        obtain ⟨rfl, rfl, rfl⟩ := h
        refine ⟨[], rfl, ?_⟩
        rw [twoP_whole _ _ _ _ _ h0]
    · have hs := half_spec (n := n) (by omega)
      by_cases hm : m ≤ halfN n
      · rw [twoP_left _ _ _ _ _ _ _ h0 (by omega) hm] at h
        obtain ⟨⟨A', B', rest', ok'⟩, hr⟩ : ∃ r, twoP w old m (halfN n) t true whole = r := ⟨_, rfl⟩
        rw [hr] at h
        simp only [Prod.mk.injEq, Bool.and_eq_true] at h
        obtain ⟨h1, h2, h3, rfl, h5⟩ := h
        obtain ⟨p, hp1, hp2⟩ := ih (halfN n) (by omega) m t whole A' B' rest' h0 hm hr
        cases rest' with
        | nil => cases h5
        | cons x xs =>
          simp only [List.headD_cons, List.tail_cons] at h1 h2 h3
          refine ⟨p ++ [x], by rw [hp1, ← h3, List.append_assoc]; rfl, ?_⟩
          rw [twoP_left _ _ _ _ _ _ _ h0 (by omega) hm, two_app w old _ _ _ [x] _ _ _ _ h0 hm hp2]
          simp [h1, h2]
      · rw [twoP_right _ _ _ _ _ _ _ h0 (by omega) hm] at h
        obtain ⟨⟨A', B', rest', ok'⟩, hr⟩ : ∃ r, twoP w old (m - halfN n) (n - halfN n) t true false = r := ⟨_, rfl⟩
        rw [hr] at h
        simp only [Prod.mk.injEq, Bool.and_eq_true] at h
        obtain ⟨h1, h2, h3, rfl, h5⟩ := h
        obtain ⟨p, hp1, hp2⟩ := ih (n - halfN n) (by omega) (m - halfN n) t false A' B' rest' (by omega) (by omega) hr
        cases rest' with
        | nil => cases h5
        | cons x xs =>
          simp only [List.headD_cons, List.tail_cons] at h1 h2 h3
          refine ⟨p ++ [x], by rw [hp1, ← h3, List.append_assoc]; rfl, ?_⟩
          rw [twoP_right _ _ _ _ _ _ _ h0 (by omega) hm, two_app w old _ _ _ [x] _ _ _ _ (by omega) (by omega) hp2]
          simp [h1, h2]
theorem rtwo_yes (w : Nat) (old : Dg) : ∀ (n m : Nat) (t : List Dg) (whole : Bool), 1 ≤ m → m ≤ n → (rtwo w old m n t whole).2.2.2 = true → twoP w old m n t true whole = ((rtwo w old m n t whole).1, (rtwo w old m n t whole).2.1, [], true) := by
  intro n
  induction n using Nat.strongRecOn with
  | _ n ih =>
    intro m t whole h0 hmn h
    by_cases h1 : m = n
    · subst h1
      rw [rtwo_same _ _ _ _ _ h0] at h ⊢
      cases whole
      · simp only [Bool.false_eq_true, if_false] at h ⊢
        by_cases h1 : t.length = 1
        · match t, h1 with
          | [x], _ => rw [twoP_part _ _ _ _ _ h0]; rfl
        · rw [if_neg h1] at h; cases h
      · simp only [if_true] at h ⊢
        rw [twoP_whole _ _ _ _ _ h0, List.isEmpty_iff.1 h]
    · have hs := half_spec (n := n) (by omega)
      rcases List.eq_nil_or_concat t with rfl | ⟨r, last, rfl⟩
      · rw [rtwo_nil _ _ _ _ _ h0 (by omega)] at h
        cases h
      · rw [List.concat_eq_append] at h ⊢
        by_cases hm : m ≤ halfN n
        · rw [rtwo_left _ _ _ _ _ _ _ h0 (by omega) hm] at h ⊢
          have h2 := two_app w old _ _ _ [last] _ _ _ _ h0 hm (ih (halfN n) (by omega) m r whole h0 hm h)
          rw [twoP_left _ _ _ _ _ _ _ h0 (by omega) hm, h2]
          rfl
        · rw [rtwo_right _ _ _ _ _ _ _ h0 (by omega) hm] at h ⊢
          have h2 := two_app w old _ _ _ [last] _ _ _ _ (by omega) (by omega) (ih (n - halfN n) (by omega) (m - halfN n) r false (by omega) (by omega) h)
          rw [twoP_right _ _ _ _ _ _ _ h0 (by omega) hm, h2]
          rfl
theorem rtwo_of (w : Nat) (old : Dg) : ∀ (n m : Nat) (t : List Dg) (whole : Bool) (A B : Dg), 1 ≤ m → m ≤ n → twoP w old m n t true whole = (A, B, [], true) → (rtwo w old m n t whole).2.2.2 = true := by
  intro n
  induction n using Nat.strongRecOn with
  | _ n ih =>
    intro m t whole A B h0 hmn h
    by_cases h1 : m = n
    · subst h1
      rw [rtwo_same _ _ _ _ _ h0]
      cases whole
      · rw [twoP_part _ _ _ _ _ h0] at h
        cases t with
        | nil => simp at h
        | cons x xs =>
          simp only [List.tail_cons, Prod.mk.injEq] at h
          rw [h.2.2.1]
          rfl
      · rw [twoP_whole _ _ _ _ _ h0] at h
        simp only [Prod.mk.injEq, and_true] at h
        rw [h.2.2]
        rfl
    · have hs := half_spec (n := n) (by omega)
      by_cases hm : m ≤ halfN n
      · rw [twoP_left _ _ _ _ _ _ _ h0 (by omega) hm] at h
        obtain ⟨⟨A', B', rest', ok'⟩, hr⟩ : ∃ r, twoP w old m (halfN n) t true whole = r := ⟨_, rfl⟩
        rw [hr] at h
        simp only [Prod.mk.injEq, Bool.and_eq_true] at h
        obtain ⟨h1, h2, h3, rfl, h5⟩ := h
        obtain ⟨p, rfl, hp2⟩ := two_cut w old _ _ _ _ _ _ _ h0 hm hr
        cases rest' with
        | nil => cases h5
        | cons x xs =>
          simp only [List.tail_cons] at h3
          rw [h3, rtwo_left _ _ _ _ _ _ _ h0 (by omega) hm]
          exact ih (halfN n) (by omega) m p whole _ _ h0 hm hp2
      · rw [twoP_right _ _ _ _ _ _ _ h0 (by omega) hm] at h
        obtain ⟨⟨A', B', rest', ok'⟩, hr⟩ : ∃ r, twoP w old (m - halfN n) (n - halfN n) t true false = r := ⟨_, rfl⟩
        rw [hr] at h
        simp only [Prod.mk.injEq, Bool.and_eq_true] at h
        obtain ⟨h1, h2, h3, rfl, h5⟩ := h
        obtain ⟨p, rfl, hp2⟩ := two_cut w old _ _ _ _ _ _ _ (by omega) (by omega) hr
        cases rest' with
        | nil => cases h5
        | cons x xs =>
          simp only [List.tail_cons] at h3
          rw [h3, rtwo_right _ _ _ _ _ _ _ h0 (by omega) hm]
          exact ih (n - halfN n) (by omega) (m - halfN n) p false _ _ (by omega) (by omega) hp2
theorem two_same (w : Nat) (old od nd : Dg) (n m : Nat) (t : List Dg) (whole : Bool) (h0 : 1 ≤ m) (hmn : m ≤ n) :
    ((twoP w old m n t true whole).2.2.2 && (twoP w old m n t true whole).2.2.1.isEmpty && ((twoP w old m n t true whole).1 == od) && ((twoP w old m n t true whole).2.1 == nd)) = ((rtwo w old m n t whole).2.2.2 && ((rtwo w old m n t whole).1 == od) && ((rtwo w old m n t whole).2.1 == nd)) := by
  cases hk : (rtwo w old m n t whole).2.2.2
  · obtain ⟨⟨A, B, rest, ok⟩, hc⟩ : ∃ r, twoP w old m n t true whole = r := ⟨_, rfl⟩
    rw [hc]
    cases ok
    · rfl
    · cases rest with
      | nil => rw [rtwo_of w old n m t whole A B h0 hmn hc] at hk; cases hk
      | cons => rfl
  · rw [rtwo_yes w old n m t whole h0 hmn hk]
    rfl
end Go.Proofs.Ytihbhpggpnmifaa

