/-
  The reference's Right, plain: the same as the code's seen.
-/
import Derived.Test.YtkngmnfgdlnddaaKptC
import Derived.Test.YtkngmnfgdlnddaaRefB
set_option linter.unusedSimpArgs false
set_option linter.unusedVariables false
namespace Go.Proofs.Ytkngmnfgdlnddaa
open Go.RowKit Go.Lib Hw Go.Maps
set_option linter.unusedSimpArgs false
set_option linter.unusedVariables false

/-- the numbers of a batch, marked one by one: none was marked before -/
def markGo : List Nat → List Nat → Option (List Nat)
  | [], acc => some acc
  | x :: r, acc => if acc.contains x = true then none else markGo r (x :: acc)
/-- the reference's walk over a chain -/
def rightGo (E : Int) (pages : Nat) : List (Nat × List Nat) → List Nat → Bool
  | [], _ => true
  | c :: r, acc => if risR E pages c.2 && (decide (2 ≤ c.1) && (decide (c.1 < pages) && !acc.contains c.1)) then (match markGo c.2 (c.1 :: acc) with | some a => rightGo E pages r a | none => false) else false
theorem mark_nums (pages : Nat) : ∀ (xs acc : List Nat), (∀ x ∈ xs, 2 ≤ x ∧ x < pages) → numsGo pages xs acc = markGo xs acc
  | [], acc, _ => rfl
  | x :: r, acc, h => by
    rw [numsGo, markGo]
    have hx := h x (List.mem_cons_self ..)
    have e : freshB (fun z => acc.contains z) pages x = !acc.contains x := by
      unfold freshB
      rw [decide_eq_true hx.1, decide_eq_true hx.2]
      simp
    rw [e]
    cases acc.contains x with
    | true => rfl
    | false => exact mark_nums pages r (x :: acc) (fun y hy => h y (List.mem_cons_of_mem _ hy))
theorem nums_rng (pages : Nat) : ∀ (xs acc r : List Nat), numsGo pages xs acc = some r → ∀ x ∈ xs, 2 ≤ x ∧ x < pages := fun xs acc r h => (numsGo_some xs acc r h).2.2
theorem right_seen (E : Int) (pages : Nat) : ∀ (cs : List (Nat × List Nat)) (acc : List Nat), rightGo E pages cs acc = (seenGo E pages cs acc).isSome
  | [], acc => rfl
  | c :: r, acc => by
    rw [rightGo, seenGo]
    by_cases hb : batchOk E pages c acc = true
    · rw [if_pos hb]
      have hb2 := hb
      unfold batchOk freshB at hb2
      simp only [Bool.and_eq_true, Bool.not_eq_true', decide_eq_true_eq] at hb2
      obtain ⟨⟨h1, h2, h3⟩, h4, h5⟩ := hb2
      by_cases hr : ∀ x ∈ c.2, 2 ≤ x ∧ x < pages
      · have hR : risR E pages c.2 = true := by
          unfold risR
          rw [decide_eq_true h4, h5]
          simp only [Bool.true_and, Bool.and_true, List.all_eq_true, Bool.and_eq_true, decide_eq_true_eq]
          exact hr
        rw [hR, decide_eq_true h2, decide_eq_true h3, h1, mark_nums pages c.2 _ hr]
        simp only [Bool.not_false, Bool.and_self, if_true]
        cases markGo c.2 (c.1 :: acc) with
        | none => rfl
        | some a => exact right_seen E pages r a
      · have hR : risR E pages c.2 = false := by
          rw [Bool.eq_false_iff]
          intro h
          unfold risR at h
          simp only [Bool.and_eq_true, List.all_eq_true, decide_eq_true_eq] at h
          exact hr h.2.1
        have hN : numsGo pages c.2 (c.1 :: acc) = none := by
          cases hn : numsGo pages c.2 (c.1 :: acc) with
          | none => rfl
          | some a => exact absurd (nums_rng pages _ _ _ hn) hr
        rw [hR, hN]
        rfl
    · rw [if_neg hb]
      have hno : (risR E pages c.2 && (decide (2 ≤ c.1) && (decide (c.1 < pages) && !acc.contains c.1))) = false := by
        rw [Bool.eq_false_iff]
        intro h
        apply hb
        unfold risR at h
        simp only [Bool.and_eq_true, decide_eq_true_eq] at h
        unfold batchOk freshB
        simp only [Bool.and_eq_true, decide_eq_true_eq]
        exact ⟨⟨h.2.2.2, h.2.1, h.2.2.1⟩, h.1.1, h.1.2.2⟩
      rw [hno]
      rfl
end Go.Proofs.Ytkngmnfgdlnddaa

