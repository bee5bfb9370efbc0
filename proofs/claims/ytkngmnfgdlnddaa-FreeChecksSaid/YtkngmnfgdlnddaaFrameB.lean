/-
  Views that take the arguments' weights, or the bulk, into account.
-/
import Derived.Test.YtkngmnfgdlnddaaFrameA
import Derived.Deep.Slices
import Derived.Deep.Strs
namespace Go.Proofs.Ytkngmnfgdlnddaa
open Go.ChangeShapes Go.WideShapes Go.ChangeAt Go.RowKit Go.Joins Go.Deep
open Go.ChangeMaps (open_string shut_string)

theorem weights_get {H : Type} {n : Nat} : ∀ (i : Nat) (ts : List TypeId) (ds : List (DataW H)) (t : TypeId) (d : DataW H), (DataW.weightsEach Try.prog ts ds).all (· ≤ n) = true → ts[i]? = some t → ds[i]? = some d → (d.weights Try.prog t).all (· ≤ n) = true
  | 0, t' :: ts, d' :: ds, t, d, h, ht, hd => by
    simp only [List.getElem?_cons_zero, Option.some.injEq] at ht hd
    subst ht hd
    rw [DataW.weightsEach, List.all_append] at h
    exact (Bool.and_eq_true _ _ ▸ h).1
  | i + 1, t' :: ts, d' :: ds, t, d, h, ht, hd => by
    rw [DataW.weightsEach, List.all_append] at h
    exact weights_get i ts ds t d (Bool.and_eq_true _ _ ▸ h).2 (by simpa using ht) (by simpa using hd)
  | _, [], _, _, _, _, ht, _ => by simp at ht
  | _, _ :: _, [], _, _, _, _, hd => by simp at hd

section
variable {H : Type} {enc : TypeId × Value → H} {W : World} {base : Nat} {sp : Nat → Bool} {b1 : Nat} {held : Bool}
def IsStrZ (v : Value) : Prop := ∃ s, v = .string s ∧ s.size ≤ 140737488355328
def IsStrR (v : Value) : Prop := ∃ s, v = .string s ∧ s.size ≤ 140737488351232
set_option maxRecDepth 100000 in
theorem view_strR_sz {v : Value} {d : DataW H} {p : List MemPlace} (hz : (d.weights Try.prog 9).all (· ≤ reachBytes) = true) (hv : Value.okWide Try.prog W .any b1 9 v) (h : DataW.Trod enc Try.prog W base sp held 9 v d p) : IsStrR v := by
  obtain ⟨s, rfl, rfl, rfl, hs⟩ := open_string Try.underlying9 hv h
  refine ⟨s, rfl, ?_⟩
  have hz' : s.data.toList.length ≤ reachBytes := by
    rw [DataW.weights] at hz
    simpa only [List.all_cons, List.all_nil, Bool.and_true, decide_eq_true_eq] using hz
  rw [Array.length_toList] at hz'
  have h1 : s.data.size = s.size := rfl
  have h2 : reachBytes = 140737488351232 := rfl
  omega
set_option maxRecDepth 100000 in
theorem view_str_sz {v : Value} {d : DataW H} {p : List MemPlace} (hz : (d.weights Try.prog 9).all (· ≤ reachBytes) = true) (hv : Value.okWide Try.prog W .any b1 9 v) (h : DataW.Trod enc Try.prog W base sp held 9 v d p) : IsStrZ v := by
  obtain ⟨s, rfl, rfl, rfl, hs⟩ := open_string Try.underlying9 hv h
  refine ⟨s, rfl, ?_⟩
  have hz' : s.data.toList.length ≤ reachBytes := by
    rw [DataW.weights] at hz
    simpa only [List.all_cons, List.all_nil, Bool.and_true, decide_eq_true_eq] using hz
  rw [Array.length_toList] at hz'
  have h1 : s.data.size = s.size := rfl
  have h2 : reachBytes = 140737488351232 := rfl
  omega
end
end Go.Proofs.Ytkngmnfgdlnddaa
