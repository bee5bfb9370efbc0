/-
  FromBody, the code's and the reference's, told alike.
-/
import Derived.Test.YtkngmnfgdlnddaaGN
import Derived.Test.YtkngmnfgdlnddaaGO
set_option linter.unusedSimpArgs false
set_option linter.unusedVariables false
namespace Go.Proofs.Ytkngmnfgdlnddaa
open Go.RowKit Go.Lib Hw Go.Maps
set_option linter.unusedSimpArgs false
set_option linter.unusedVariables false

def fbX (a b : Int) (s : ByteArray) : List Nat := if fromB a b s = true then numsOf s (cntOf s) else []
def fbN (a b : Int) (s : ByteArray) : Nat := if fromB a b s = true then nextOf s else 0
def fbE (a b : Int) (s : ByteArray) : Int := if fromB a b s = true then 0 else if mayB a b = true then 90 else 2
def FBP (nx : Nat) (xs : List Nat) (k : Int) (w : World) (e : Ending) (w' : World) : Prop := ∃ v, e = .returned (.tuple #[.int .u32 (nx : Int), v, .int .i64 k]) ∧ OwnO w' w.heap.size v xs ∧ Below w.heap.size w w'
theorem FromBody_uni (a b : Int) (s : ByteArray) (w : World) (hs : s.size ≤ 140737488351232) : Calls Try.prog 26 #[.agg #[.int .i64 a, .int .i64 b], .string s] w (FBP (fbN a b s) (fbX a b s) (fbE a b s) w) := by
  refine (FromBody_any a b s w hs).mono ?_
  rintro e w' (⟨h1, v, he, ho, hb⟩ | ⟨h1, he, hb⟩)
  · unfold fbN fbX fbE
    rw [if_pos h1, if_pos h1, if_pos h1]
    exact ⟨v, he, ho.toO, hb⟩
  · have hn : ¬ fromB a b s = true := by rw [h1]; decide
    unfold fbN fbX fbE
    rw [if_neg hn, if_neg hn, if_neg hn]
    exact ⟨_, he, OwnO.nil _ _, hb⟩
theorem refFromBody_uni (a b : Int) (s : ByteArray) (w : World) (hs : s.size ≤ 140737488351232) : Calls Try.prog 25 #[.agg #[.int .i64 a, .int .i64 b], .string s] w (FBP (fbN a b s) (fbX a b s) (fbE a b s) w) := by
  refine (refFromBody_any a b s w (by omega)).mono ?_
  rintro e w' (⟨h1, v, he, ho, hb⟩ | ⟨h1, he, hb⟩)
  · unfold fbN fbX fbE
    rw [if_pos h1, if_pos h1, if_pos h1]
    exact ⟨v, he, ho, hb⟩
  · have hn : ¬ fromB a b s = true := by rw [h1]; decide
    unfold fbN fbX fbE
    rw [if_neg hn, if_neg hn, if_neg hn]
    exact ⟨_, he, OwnO.nil _ _, hb⟩
theorem fbX_all (a b : Int) (s : ByteArray) : All4 (fbX a b s) := by
  unfold fbX
  split
  · exact numsOf_all s _
  · intro x hx; simp at hx
theorem fbX_len (a b : Int) (s : ByteArray) (hs : s.size ≤ 140737488351232) : (fbX a b s).length * 4 + 8 ≤ 140737488351240 := by
  unfold fbX
  split
  · rename_i h
    rw [numsOf_len]
    unfold fromB at h
    simp only [Bool.and_eq_true, decide_eq_true_eq] at h
    omega
  · simp
end Go.Proofs.Ytkngmnfgdlnddaa

