/-
  The plain law of a plan's list pages: sets of numbers below a bound, told as rising lists.
-/
import Derived.Test.YtkngmnfgdlnddaaTakC
namespace Go.Proofs.Ytkngmnfgdlnddaa
open Go.RowKit Go.Lib Hw Go.Maps
set_option linter.unusedVariables false

/-- the numbers of a set below a bound, rising -/
def setL (P : Nat) (L : Nat → Bool) : List Nat := (List.range P).filter L
theorem setL_mem {P : Nat} {L : Nat → Bool} {x : Nat} : x ∈ setL P L ↔ x < P ∧ L x = true := by
  unfold setL
  rw [List.mem_filter, List.mem_range]
theorem setL_lt (P : Nat) (L : Nat → Bool) : (setL P L).Pairwise (· < ·) := List.Pairwise.filter _ List.pairwise_lt_range
theorem setL_nodup (P : Nat) (L : Nat → Bool) : (setL P L).Nodup := (setL_lt P L).imp (fun h => Nat.ne_of_lt h)
theorem setL_le (P : Nat) (L : Nat → Bool) : (setL P L).length ≤ P := by
  have := List.length_filter_le L (List.range P)
  rwa [List.length_range] at this
theorem setL_all (P : Nat) (L : Nat → Bool) (hP : P ≤ 4294967296) : All4 (setL P L) := fun x hx => by
  have := (setL_mem.1 hx).1
  omega
theorem setL_congr {P : Nat} {L M : Nat → Bool} (h : ∀ x, x < P → L x = M x) : setL P L = setL P M := List.filter_congr (fun x hx => h x (List.mem_range.1 hx))
theorem sortN_perm (xs : List Nat) : (sortN xs).Perm xs := List.mergeSort_perm _ _
theorem sortN_le (xs : List Nat) : (sortN xs).Pairwise (· ≤ ·) := by
  have h := List.pairwise_mergeSort (le := fun a b : Nat => decide (a ≤ b)) (fun a b c h1 h2 => by simp at *; omega) (fun a b => by simp; omega) xs
  exact h.imp (fun h => of_decide_eq_true h)
theorem sortN_eq {xs : List Nat} {P : Nat} {L : Nat → Bool} (hn : xs.Nodup) (hm : ∀ x, x ∈ xs ↔ x < P ∧ L x = true) : sortN xs = setL P L := by
  refine List.Perm.eq_of_pairwise (le := (· ≤ ·)) (fun a b _ _ h1 h2 => Nat.le_antisymm h1 h2) (sortN_le xs) ((setL_lt P L).imp Nat.le_of_lt) ?_
  refine (sortN_perm xs).trans ((List.perm_ext_iff_of_nodup hn (setL_nodup P L)).2 (fun x => ?_))
  rw [hm x, setL_mem]
/-- a rising list without its first -/
theorem setL_cons {P x : Nat} {L : Nat → Bool} {r : List Nat} (h : setL P L = x :: r) : r = setL P (fun z => L z && !decide (z = x)) := by
  have h1 : (setL P L).filter (fun z => !decide (z = x)) = setL P (fun z => L z && !decide (z = x)) := by
    unfold setL
    rw [List.filter_filter]
    exact List.filter_congr (fun z _ => by rw [Bool.and_comm])
  have h2 := setL_nodup P L
  rw [h] at h1 h2
  rw [← h1, List.filter_cons_of_neg (by simp)]
  refine (List.filter_eq_self.2 (fun z hz => ?_)).symm
  have : z ≠ x := fun e => (List.nodup_cons.1 h2).1 (e ▸ hz)
  simp [this]
/-- where a number stands, and the list without it -/
theorem setL_at {P x : Nat} {L : Nat → Bool} (hx : x ∈ setL P L) : ∃ i, ∃ h : i < (setL P L).length, (setL P L)[i] = x ∧ (setL P L).countP (fun z => decide (z < x)) = i ∧ (setL P L).take i ++ (setL P L).drop (i + 1) = setL P (fun z => L z && !decide (z = x)) := by
  obtain ⟨i, hi, he⟩ := List.mem_iff_getElem.1 hx
  have hp := setL_lt P L
  refine ⟨i, hi, he, ?_, ?_⟩
  · have h1 : (setL P L).countP (fun z => decide (z < x)) = ((setL P L).take i).countP (fun z => decide (z < x)) + ((setL P L).drop i).countP (fun z => decide (z < x)) := by
      rw [← List.countP_append, List.take_append_drop]
    have h2 : ((setL P L).take i).countP (fun z => decide (z < x)) = i := by
      have : ((setL P L).take i).countP (fun z => decide (z < x)) = ((setL P L).take i).length := List.countP_eq_length.2 (fun a ha => by
        obtain ⟨j, hj, rfl⟩ := List.mem_iff_getElem.1 ha
        rw [List.getElem_take]
        rw [List.length_take] at hj
        have := List.pairwise_iff_getElem.1 hp j i (by omega) hi (by omega)
        rw [he] at this
        exact decide_eq_true this)
      rw [this, List.length_take]
      omega
    have h3 : ((setL P L).drop i).countP (fun z => decide (z < x)) = 0 := List.countP_eq_zero.2 (fun a ha => by
        obtain ⟨j, hj, rfl⟩ := List.mem_iff_getElem.1 ha
        rw [List.getElem_drop]
        rw [List.length_drop] at hj
        rcases Nat.eq_zero_or_pos j with h0 | h0
        · subst h0; simp only [Nat.add_zero, he]; simp
        · have := List.pairwise_iff_getElem.1 hp i (i + j) hi (by omega) (by omega)
          rw [he] at this
          simp; omega)
    omega
  · have h1 : (setL P L).filter (fun z => !decide (z = x)) = setL P (fun z => L z && !decide (z = x)) := by
      unfold setL
      rw [List.filter_filter]
      exact List.filter_congr (fun z _ => by rw [Bool.and_comm])
    rw [← h1]
    have h2 : setL P L = (setL P L).take i ++ x :: (setL P L).drop (i + 1) := by
      rw [← he, ← List.drop_eq_getElem_cons hi, List.take_append_drop]
    have h3 := setL_nodup P L
    rw [h2] at h3
    have h4 := List.nodup_append.1 h3
    conv => rhs; rw [h2, List.filter_append, List.filter_cons_of_neg (by simp)]
    congr 1
    · refine (List.filter_eq_self.2 (fun z hz => ?_)).symm
      have : z ≠ x := h4.2.2 z hz x (List.mem_cons_self ..)
      simp [this]
    · refine (List.filter_eq_self.2 (fun z hz => ?_)).symm
      have : z ≠ x := fun e => (List.nodup_cons.1 h4.2.1).1 (e ▸ hz)
      simp [this]
/-- all numbers of a chain -/
def flat (cs : List (Nat × List Nat)) : List Nat := cs.flatMap (fun c => c.1 :: c.2)
/-- the loose numbers, and those that a list page can be taken of -/
structure Sets where
  L : Nat → Bool
  C : Nat → Bool
def openB (left held : Nat → Bool) (s : Sets) (c : Nat × List Nat) : Sets := ⟨fun z => s.L z || (decide (z = c.1) || (c.2.contains z && left z)), fun z => s.C z || (c.2.contains z && mayF left held z)⟩
def dropS (s : Sets) (x : Nat) : Sets := ⟨fun z => s.L z && !decide (z = x), fun z => s.C z && !decide (z = x)⟩
/-- all numbers of the chain and the released ones stand once, below the bound -/
def Good (P : Nat) (chain : List (Nat × List Nat)) (rel : List Nat) : Prop := (flat chain ++ rel).Nodup ∧ ∀ x ∈ flat chain ++ rel, x < P
def SInv (chain : List (Nat × List Nat)) (rel : List Nat) (j : Nat) (s : Sets) : Prop := (∀ z, s.L z = true → z ∈ rel ∨ z ∈ flat (chain.take j)) ∧ (∀ z, s.C z = true → s.L z = true ∧ z ∈ flat (chain.take j))
theorem flat_take_succ {cs : List (Nat × List Nat)} {j : Nat} (h : j < cs.length) : flat (cs.take (j + 1)) = flat (cs.take j) ++ (cs[j].1 :: cs[j].2) := by
  unfold flat
  rw [List.take_succ_eq_append_getElem h, List.flatMap_append]
  simp
theorem flat_split (cs : List (Nat × List Nat)) (j : Nat) : flat cs = flat (cs.take j) ++ flat (cs.drop j) := by
  unfold flat
  rw [← List.flatMap_append, List.take_append_drop]
theorem flat_drop {cs : List (Nat × List Nat)} {j : Nat} (h : j < cs.length) : flat (cs.drop j) = (cs[j].1 :: cs[j].2) ++ flat (cs.drop (j + 1)) := by
  unfold flat
  rw [List.drop_eq_getElem_cons h, List.flatMap_cons]
theorem Good.batch {P : Nat} {chain : List (Nat × List Nat)} {rel : List Nat} (h : Good P chain rel) {j : Nat} (hj : j < chain.length) : (chain[j].1 :: chain[j].2).Nodup ∧ (∀ x ∈ chain[j].1 :: chain[j].2, x < P ∧ x ∉ rel ∧ x ∉ flat (chain.take j)) := by
  have h1 := h.1
  rw [flat_split chain j, flat_drop hj] at h1
  have h2 := List.nodup_append.1 h1
  have h3 := List.nodup_append.1 h2.1
  have h4 := List.nodup_append.1 h3.2.1
  refine ⟨h4.1, fun x hx => ⟨h.2 x ?_, fun hr => ?_, fun ht => ?_⟩⟩
  · rw [flat_split chain j, flat_drop hj]
    exact List.mem_append_left _ (List.mem_append_right _ (List.mem_append_left _ hx))
  · exact h2.2.2 x (List.mem_append_right _ (List.mem_append_left _ hx)) x hr rfl
  · exact h3.2.2 x ht x (List.mem_append_left _ hx) rfl
theorem SInv.open {P : Nat} {chain : List (Nat × List Nat)} {rel : List Nat} {j : Nat} {s : Sets} (hs : SInv chain rel j s) (left held : Nat → Bool) (hj : j < chain.length) : SInv chain rel (j + 1) (openB left held s chain[j]) := by
  refine ⟨fun z hz => ?_, fun z hz => ?_⟩
  · rw [flat_take_succ hj]
    simp only [openB, Bool.or_eq_true, Bool.and_eq_true, decide_eq_true_eq] at hz
    rcases hz with h1 | h1 | h1
    · rcases hs.1 z h1 with h2 | h2
      · exact .inl h2
      · exact .inr (List.mem_append_left _ h2)
    · exact .inr (List.mem_append_right _ (by rw [h1]; exact List.mem_cons_self ..))
    · exact .inr (List.mem_append_right _ (List.mem_cons_of_mem _ (List.contains_iff_mem.1 h1.1)))
  · rw [flat_take_succ hj]
    simp only [openB, Bool.or_eq_true, Bool.and_eq_true, decide_eq_true_eq] at hz ⊢
    rcases hz with h1 | h1
    · exact ⟨.inl (hs.2 z h1).1, List.mem_append_left _ (hs.2 z h1).2⟩
    · refine ⟨.inr (.inr ⟨h1.1, ?_⟩), List.mem_append_right _ (List.mem_cons_of_mem _ (List.contains_iff_mem.1 h1.1))⟩
      have := h1.2
      unfold mayF at this
      exact (Bool.and_eq_true_iff.1 this).1
theorem open_L {P : Nat} {chain : List (Nat × List Nat)} {rel : List Nat} {j : Nat} {s : Sets} (hg : Good P chain rel) (hs : SInv chain rel j s) (left held : Nat → Bool) (hj : j < chain.length) : sortN (setL P s.L ++ (chain[j].1 :: chain[j].2.filter left)) = setL P (openB left held s chain[j]).L := by
  obtain ⟨h1, h2⟩ := hg.batch hj
  have hsub : ∀ x, x ∈ (chain[j].1 :: chain[j].2.filter left) → x ∈ chain[j].1 :: chain[j].2 := fun x hx => by
    rcases List.mem_cons.1 hx with e | e
    · rw [e]; exact List.mem_cons_self ..
    · exact List.mem_cons_of_mem _ (List.mem_filter.1 e).1
  refine sortN_eq (List.nodup_append.2 ⟨setL_nodup _ _, ?_, fun a ha b hb e => ?_⟩) (fun x => ?_)
  · exact List.nodup_cons.2 ⟨fun hm => (List.nodup_cons.1 h1).1 (List.mem_filter.1 hm).1, (List.nodup_cons.1 h1).2.filter _⟩
  · subst e
    have h3 := h2 a (hsub a hb)
    rcases hs.1 a (setL_mem.1 ha).2 with h4 | h4
    · exact h3.2.1 h4
    · exact h3.2.2 h4
  · rw [List.mem_append, setL_mem, List.mem_cons, List.mem_filter]
    simp only [openB, Bool.or_eq_true, Bool.and_eq_true, decide_eq_true_eq, List.contains_iff_mem]
    constructor
    · rintro (h3 | h3 | h3)
      · exact ⟨h3.1, .inl h3.2⟩
      · exact ⟨(h2 x (by rw [h3]; exact List.mem_cons_self ..)).1, .inr (.inl h3)⟩
      · exact ⟨(h2 x (List.mem_cons_of_mem _ h3.1)).1, .inr (.inr h3)⟩
    · rintro ⟨h0, h3 | h3 | h3⟩
      · exact .inl ⟨h0, h3⟩
      · exact .inr (.inl h3)
      · exact .inr (.inr h3)
theorem open_C {P : Nat} {chain : List (Nat × List Nat)} {rel : List Nat} {j : Nat} {s : Sets} (hg : Good P chain rel) (hs : SInv chain rel j s) (left held : Nat → Bool) (hj : j < chain.length) : sortN (setL P s.C ++ chain[j].2.filter (mayF left held)) = setL P (openB left held s chain[j]).C := by
  obtain ⟨h1, h2⟩ := hg.batch hj
  refine sortN_eq (List.nodup_append.2 ⟨setL_nodup _ _, (List.nodup_cons.1 h1).2.filter _, fun a ha b hb e => ?_⟩) (fun x => ?_)
  · subst e
    exact (h2 a (List.mem_cons_of_mem _ (List.mem_filter.1 hb).1)).2.2 (hs.2 a (setL_mem.1 ha).2).2
  · rw [List.mem_append, setL_mem, List.mem_filter]
    simp only [openB, Bool.or_eq_true, Bool.and_eq_true, List.contains_iff_mem]
    constructor
    · rintro (h3 | h3)
      · exact ⟨h3.1, .inl h3.2⟩
      · exact ⟨(h2 x (List.mem_cons_of_mem _ h3.1)).1, .inr h3⟩
    · rintro ⟨h0, h3 | h3⟩
      · exact .inl ⟨h0, h3⟩
      · exact .inr h3
theorem SInv.drop {chain : List (Nat × List Nat)} {rel : List Nat} {j : Nat} {s : Sets} (hs : SInv chain rel j s) (x : Nat) : SInv chain rel j (dropS s x) := by
  refine ⟨fun z hz => hs.1 z (Bool.and_eq_true_iff.1 hz).1, fun z hz => ?_⟩
  have h1 := Bool.and_eq_true_iff.1 hz
  exact ⟨Bool.and_eq_true_iff.2 ⟨(hs.2 z h1.1).1, h1.2⟩, (hs.2 z h1.1).2⟩
/-- the loop that takes list pages -/
structure LSt where
  s : Sets
  opened : Nat
  pages : Nat
  lists : List Nat
def moreL (n P : Nat) (t : LSt) : Bool := decide (t.lists.length * n < (setL P t.s.L).length)
def stepL (left held : Nat → Bool) (most P : Nat) (chain : List (Nat × List Nat)) (t : LSt) : Option LSt :=
  match setL P t.s.C with
  | x :: _ => some ⟨dropS t.s x, t.opened, t.pages, t.lists ++ [x]⟩
  | [] => match chain[t.opened]? with
    | some c => some ⟨openB left held t.s c, t.opened + 1, t.pages, t.lists⟩
    | none => if t.pages < most then some ⟨t.s, t.opened, t.pages + 1, t.lists ++ [t.pages]⟩ else none
def listG (left held : Nat → Bool) (most n P : Nat) (chain : List (Nat × List Nat)) : Nat → LSt → Option LSt
  | 0, t => some t
  | k + 1, t => if moreL n P t = true then (match stepL left held most P chain t with | some t2 => listG left held most n P chain k t2 | none => none) else some t
def muL (P : Nat) (chain : List (Nat × List Nat)) (t : LSt) : Nat := (chain.length - t.opened) + (P - t.lists.length) + 1
def listF (left held : Nat → Bool) (most n P : Nat) (chain : List (Nat × List Nat)) (t : LSt) : Option LSt := listG left held most n P chain (muL P chain t) t
theorem listF_stop {left held : Nat → Bool} {most n P : Nat} {chain : List (Nat × List Nat)} {t : LSt} (h : moreL n P t = false) : listF left held most n P chain t = some t := by
  unfold listF muL listG
  rw [h]
  rfl
theorem more_lt {n P : Nat} {t : LSt} (h : moreL n P t = true) (hn : 1 ≤ n) : t.lists.length < P := by
  have h1 := of_decide_eq_true h
  have h2 := setL_le P t.s.L
  have h3 := Nat.mul_le_mul_left t.lists.length hn
  omega
theorem listF_none {left held : Nat → Bool} {most n P : Nat} {chain : List (Nat × List Nat)} {t : LSt} (h : moreL n P t = true) (hs : stepL left held most P chain t = none) : listF left held most n P chain t = none := by
  unfold listF muL listG
  rw [h, hs]
  rfl
theorem listF_step {left held : Nat → Bool} {most n P : Nat} {chain : List (Nat × List Nat)} {t t2 : LSt} (h : moreL n P t = true) (hs : stepL left held most P chain t = some t2) (hmu : muL P chain t2 + 1 = muL P chain t) : listF left held most n P chain t = listF left held most n P chain t2 := by
  unfold listF
  rw [← hmu, listG, h, hs]
  rfl
/-- the loose numbers dealt out -/
def dealL (n : Nat) (xs : List Nat) : List Nat → List (Nat × List Nat)
  | [] => []
  | p :: r => (p, xs.take n) :: dealL n (xs.drop n) r
end Go.Proofs.Ytkngmnfgdlnddaa
