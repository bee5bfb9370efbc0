/-
  Views of slices of strings and of bytes; what the bulk says of them.
-/
import Derived.Test.YtmjikebbknjahaaFrameB
import Derived.Test.YtmjikebbknjahaaTextW
namespace Go.Proofs.Ytmjikebbknjahaa
open Go.ChangeShapes Go.WideShapes Go.ChangeAt Go.RowKit Go.Joins Go.Deep Hw
open Go.ChangeMaps (open_string shut_string)
set_option linter.unusedVariables false

theorem bulk_get {H : Type} : ∀ (i : Nat) (ds : List (DataW H)) (d : DataW H), Rows.uptoBulkAll ds ≤ 1048576 → ds[i]? = some d → Rows.uptoBulk d ≤ 1048576
  | 0, d' :: ds, d, h, hd => by
    simp only [List.getElem?_cons_zero, Option.some.injEq] at hd
    subst hd
    rw [Rows.uptoBulkAll] at h
    omega
  | i + 1, d' :: ds, d, h, hd => by
    rw [Rows.uptoBulkAll] at h
    exact bulk_get i ds d (by omega) (by simpa using hd)
  | _, [], _, _, hd => by simp at hd
theorem small_get {H : Type} (i : Nat) (ds : List (DataW H)) (d : DataW H) (h : Rows.uptoSmall H ds = true) (hd : ds[i]? = some d) : Rows.uptoBulk d ≤ 1048576 :=
  bulk_get i ds d (by simpa [Rows.uptoSmall] using h) hd
def strD (H : Type) (s : ByteArray) : DataW H := .lit (.string s.data.toList)
theorem bulk_strs {H : Type} (l : List ByteArray) : Rows.uptoBulkAll (l.map (strD H)) = (l.flatMap (fun s => s.data.toList)).length + l.length := by
  induction l with
  | nil => rfl
  | cons a l ih =>
    rw [List.map_cons, Rows.uptoBulkAll, ih, List.flatMap_cons, List.length_append, List.length_cons]
    have : Rows.uptoBulk (strD H a) = a.data.toList.length + 1 := rfl
    omega

theorem add_plain (a : Addr) (h : a.spot = none) (k : Nat) : a.add k = ⟨a.block, a.off + k, none⟩ := by
  obtain ⟨b, o, s⟩ := a
  obtain rfl : s = none := h
  unfold Addr.add
  by_cases hk : k = 0
  · rw [if_pos hk, hk]; rfl
  · rw [if_neg hk]
section
variable {H : Type} {enc : TypeId × Value → H} {W : World} {base : Nat} {sp : Nat → Bool} {b1 : Nat} {held : Bool}
theorem cells_string : Try.prog.cellsOf 9 = 1 := by kernel_rfl
theorem bytes_string : Try.prog.bytesOf 9 = 16 := by kernel_rfl

theorem trod_strs {n : Nat} {v : Value} {y : DataW H × List MemPlace} (h : DataW.trod enc Try.prog W base sp held n 23 [v] = some y) :
    ∃ l : List ByteArray, StrRow W v l ∧ l.length ≤ 9223372036854775807 ∧ ((l = [] ∧ y.1 = .nil) ∨ ∃ spare, y.1 = .slice (l.map (strD H)) spare) := by
  rcases open_slice1 Try.underlying23 cells_string h with ⟨hc, hy⟩ | ⟨a, len, cap, m, k, V, D, Pl, hc, _, hlc, hcm, hm, hy, hx⟩
  · simp only [List.cons.injEq, and_true] at hc
    subst hc
    exact ⟨[], ⟨none, 0, rfl, fun _ => rfl, fun h => by simp at h⟩, by simp, .inl ⟨rfl, by rw [hy]⟩⟩
  · simp only [List.cons.injEq, and_true] at hc
    subst hc
    have hlm : len ≤ m := by rw [hm]; split <;> omega
    have each : ∀ i, i < len → ∃ s : ByteArray, W.cell? (a.add i) = some (.string s) ∧ D i = strD H s := by
      intro i hi
      obtain ⟨h1, h2⟩ := hx i (by omega)
      obtain ⟨s, e, e2, _⟩ := DataW.trod_string Try.underlying9 h2
      simp only [List.cons.injEq, and_true] at e
      rw [e] at h1
      refine ⟨s, h1, ?_⟩
      have := congrArg Prod.fst e2
      exact this
    haveI : Inhabited ByteArray := ⟨⟨#[]⟩⟩
    obtain ⟨f, hf⟩ := choose_lt each
    have hml : maxLen = 9223372036854775807 := rfl
    refine ⟨(List.range len).map f, ?_, by simp; omega, .inr ⟨_, by rw [hy]; simp only [List.map_map]; congr 1; exact List.map_congr_left (fun i hi => (hf i (List.mem_range.1 hi)).2)⟩⟩
    refine ⟨some a, cap, by simp, (fun h => by cases h), fun hl => ?_⟩
    simp at hl
    have h0 := World.cell?_spot (hf 0 hl).1
    have ha : a.spot = none := by
      cases a with
      | mk b o s => simp [Addr.add] at h0; simp [h0]
    refine ⟨a.block, a.off, by cases a; simp_all, fun i hi => ?_⟩
    simp at hi
    have h1 := (hf i hi).1
    rw [add_plain a ha] at h1
    simpa using h1
theorem flat_length : ∀ l : List ByteArray, (l.flatMap (fun s => s.data.toList)).length = (l.map ByteArray.size).sum
  | [] => rfl
  | a :: l => by
    rw [List.flatMap_cons, List.length_append, flat_length l, List.map_cons, List.sum_cons, Array.length_toList]
    rfl
set_option maxRecDepth 100000 in
theorem view_strs_sz {v : Value} {d : DataW H} {p : List MemPlace} (hz : (d.weights Try.prog 23).all (· ≤ reachBytes) = true) (hv : Value.okWide Try.prog W .any b1 23 v) (h : DataW.Trod enc Try.prog W base sp held 23 v d p) :
    ∃ l, StrRow W v l ∧ l.length * 16 ≤ 140737488355240 := by
  obtain ⟨a0, len, cap, rfl⟩ := okWide_slice Try.underlying23 hv
  obtain ⟨n, h⟩ := h
  obtain ⟨l, hl, _, hc⟩ := trod_strs h
  refine ⟨l, hl, ?_⟩
  rcases hc with ⟨rfl, _⟩ | ⟨spare, hd⟩
  · simp
  · simp only at hd
    subst hd
    rw [DataW.weights, Try.underlying23] at hz
    simp only [List.all_cons, Bool.and_eq_true, decide_eq_true_eq, List.length_map, bytes_string] at hz
    have h1 := hz.1
    have h2 : reachBytes = 140737488351232 := rfl
    omega
/-- a row of strings of at most 1048576 bytes and strings in all -/
def IsStrsU (w : World) (v : Value) : Prop := ∃ l, StrRow w v l ∧ (l.map ByteArray.size).sum + l.length ≤ 1048576
set_option maxRecDepth 100000 in
theorem view_strs_up {v : Value} {d : DataW H} {p : List MemPlace} (hz : Rows.uptoBulk d ≤ 1048576) (hv : Value.okWide Try.prog W .any b1 23 v) (h : DataW.Trod enc Try.prog W base sp held 23 v d p) : IsStrsU W v := by
  obtain ⟨a0, len, cap, rfl⟩ := okWide_slice Try.underlying23 hv
  obtain ⟨n, h⟩ := h
  obtain ⟨l, hl, _, hc⟩ := trod_strs h
  refine ⟨l, hl, ?_⟩
  rcases hc with ⟨rfl, _⟩ | ⟨spare, hd⟩
  · simp
  · simp only at hd
    subst hd
    rw [Rows.uptoBulk, bulk_strs, flat_length] at hz
    omega
def IsStrU (v : Value) : Prop := ∃ s, v = .string s ∧ s.size ≤ 1048576
set_option maxRecDepth 100000 in
theorem view_str_up {v : Value} {d : DataW H} {p : List MemPlace} (hz : Rows.uptoBulk d ≤ 1048576) (hv : Value.okWide Try.prog W .any b1 9 v) (h : DataW.Trod enc Try.prog W base sp held 9 v d p) : IsStrU v := by
  obtain ⟨s, rfl, rfl, rfl, hs⟩ := open_string Try.underlying9 hv h
  refine ⟨s, rfl, ?_⟩
  rw [Rows.uptoBulk] at hz
  have h1 : s.data.toList.length = s.size := by rw [Array.length_toList]; rfl
  omega
end
end Go.Proofs.Ytmjikebbknjahaa
