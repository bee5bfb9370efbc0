/-
  append(b, s...) of a string's bytes to a slice of the call's own: where the new slice lies.
-/
import Derived.Test.YtmjikebbknjahaaOwnB
import Derived.Lib.AppendStr
namespace Go.Proofs.Ytmjikebbknjahaa
open Go.RowKit Go.Lib
set_option linter.unusedVariables false

theorem strCells_bv (s : ByteArray) : strCells s = s.data.toList.map bv := rfl
theorem own_size {w : World} {B : Nat} {v : Value} {bs : List UInt8} (h : OwnB w B v bs) : ∃ ad c, v = .slice ad bs.length c ∧ (ad = none → bs = [] ∧ c = 0) ∧ ∀ a, ad = some a → ∃ g, a = ⟨g, 0, none⟩ ∧ B ≤ g ∧ g < w.heap.size ∧ bs.length ≤ c := by
  rcases h.2 with ⟨rfl, h0⟩ | ⟨g, cap, cur, rfl, hb, hg, hn, _⟩
  · have : bs = [] := List.eq_nil_of_length_eq_zero h0
    subst this
    exact ⟨none, 0, rfl, fun _ => ⟨rfl, rfl⟩, (fun a h => by cases h)⟩
  · refine ⟨some ⟨g, 0, none⟩, cap, rfl, (fun h => by cases h), fun a h => ?_⟩
    cases h
    exact ⟨g, rfl, hb, heap_lt hg, hn⟩

theorem run_appStr {w : World} {B : Nat} {v : Value} {bs : List UInt8} (hown : OwnB w B v bs) (s : ByteArray) (ty : TypeId) (hpos : 0 < s.size) (hlen : bs.length + s.size ≤ 140737488355328) (hB : B ≤ w.heap.size) :
    ∃ g cap w', (Builtin.append_ #[35, 9] ty #[v, .string s]).run Try.prog w = .ok (.slice (some ⟨g, 0, none⟩) (bs.length + s.size) cap) w' ∧ OwnB w' B (.slice (some ⟨g, 0, none⟩) (bs.length + s.size) cap) (bs ++ s.data.toList) ∧ w.grownBy w' v.ownBlock ∧
      (v.ownBlock = some g ∨ g = w.heap.size) ∧ g < w'.heap.size := by
  obtain ⟨i, hi, hz0, hz1, hz2⟩ := info_parts info_u8
  obtain ⟨v', w', hr, h2, h3, h4⟩ := run_append_own_string (P := Try.prog) w B 35 9 ty 5 i Try.underlying35 Try.underlying9 hi hz0 hz1 hz2 v bs.length (bs.map bv) hown s (by rw [maxLen_eq]; omega) hlen hB
  obtain ⟨g, cap, rfl, _, hlt⟩ := h2.form (by omega)
  have hsz : s.data.toList.length = s.size := by rw [Array.length_toList]; rfl
  refine ⟨g, cap, w', hr, ?_, h3, ?_, hlt⟩
  · unfold OwnB
    rw [List.length_append, List.map_append, hsz]
    exact h2
  · rcases hown.2 with ⟨rfl, h0⟩ | ⟨g0, cap0, cur, rfl, hb, hg, hn, hc, hcs, ht⟩
    · have hr' := run_append_nil_string (P := Try.prog) w 35 9 ty 5 i (.int .u8 0) Try.underlying35 Try.underlying9 hi hz0 s hpos (by omega) (by rw [hz2]; omega)
      rw [hr] at hr'
      injection hr' with e1 e2
      injection e1 with e3
      injection e3 with e4
      injection e4 with e5
      exact .inr e5
    · by_cases hroom : bs.length + s.size ≤ cap0
      · have hr' := run_append_room_string (P := Try.prog) w 35 9 ty 5 i Try.underlying35 Try.underlying9 hi hz1 g0 bs.length cap0 cur hg s hroom (by omega)
        rw [hr] at hr'
        injection hr' with e1 e2
        injection e1 with e3
        injection e3 with e4
        injection e4 with e5
        exact .inl (by rw [e5]; rfl)
      · have hr' := run_append_grow_string (P := Try.prog) w 35 9 ty 5 i (.int .u8 0) Try.underlying35 Try.underlying9 hi hz0 ⟨g0, 0, none⟩ bs.length cap0 (bs.map bv) (by rw [hz1]; simp) (fun j u hu => World.ownsRow.cells (w := w) hown (g := g0) rfl j u hu) s (by omega) (by omega) (by rw [hz2]; exact growslice_fits (by omega) (by omega))
        rw [hr] at hr'
        injection hr' with e1 e2
        injection e1 with e3
        injection e3 with e4
        injection e4 with e5
        exact .inr e5

/-- at the operation, for the walk -/
theorem wpList_appS {ops : Array Oper} {rest : List Oper} {o : Oper} {a : Act} {Q : Exit → Act → World → Prop} (w : World) (hgd : o.guard = none) (sl x : Operand)
    (ho : o.op = .call { callee := .builtin .append, args := #[sl, x], argTypes := #[35, 9] })
    (B : Nat) (v : Value) (bs : List UInt8) (hs : a.eval sl = v) (hown : OwnB w B v bs) (s : ByteArray) (hx : a.eval x = .string s)
    (hpos : 0 < s.size) (hlen : bs.length + s.size ≤ 140737488355328) (hB : B ≤ w.heap.size) (H : Nat) (hH : w.heap.size = H)
    (h : ∀ g cap w', OwnB w' B (.slice (some ⟨g, 0, none⟩) (bs.length + s.size) cap) (bs ++ s.data.toList) → w.grownBy w' v.ownBlock → (v.ownBlock = some g ∨ g = H) → g < w'.heap.size →
      wpList Try.prog ops Q rest (a.put o.dst (.slice (some ⟨g, 0, none⟩) (bs.length + s.size) cap)) w') : wpList Try.prog ops Q (o :: rest) a w := by
  subst hH
  refine wpList_plain hgd fun K hK => ?_
  obtain ⟨g, cap, w', hr, h2, h3, h4, h5⟩ := run_appStr hown s o.type hpos hlen hB
  unfold Oper.wp execOp
  simp only [ho, resolve, invoke, builtin, Sem.run_bind, Sem.run_pure, Result.andThen_ok, List.map_toArray, List.map_cons, List.map_nil, hs, hx, hr]
  exact hK _ _ (h g cap w' h2 h3 h4 h5)
/-- at a step of a region that draws its order -/
theorem step_appS {ops : Array Oper} {o : Oper} {a : Act} {K : Act → World → Prop} {Q : Exit → Act → World → Prop} {E : Prop} (w : World) (hgd : o.guard = none) (sl x : Operand)
    (ho : o.op = .call { callee := .builtin .append, args := #[sl, x], argTypes := #[35, 9] })
    (B : Nat) (v : Value) (bs : List UInt8) (hs : a.eval sl = v) (hown : OwnB w B v bs) (s : ByteArray) (hx : a.eval x = .string s)
    (hpos : 0 < s.size) (hlen : bs.length + s.size ≤ 140737488355328) (hB : B ≤ w.heap.size) (H : Nat) (hH : w.heap.size = H)
    (h : ∀ g cap w', OwnB w' B (.slice (some ⟨g, 0, none⟩) (bs.length + s.size) cap) (bs ++ s.data.toList) → w.grownBy w' v.ownBlock → (v.ownBlock = some g ∨ g = H) → g < w'.heap.size →
      K (a.put o.dst (.slice (some ⟨g, 0, none⟩) (bs.length + s.size) cap)) w') : if Region.wanted o (yielded ops a.tmps) = true then Oper.wp Try.prog o a w K Q else E := by
  subst hH
  have hw : Region.wanted o (yielded ops a.tmps) = true := by simp [Region.wanted, hgd]
  rw [if_pos hw]
  obtain ⟨g, cap, w', hr, h2, h3, h4, h5⟩ := run_appStr hown s o.type hpos hlen hB
  unfold Oper.wp execOp
  simp only [ho, resolve, invoke, builtin, Sem.run_bind, Sem.run_pure, Result.andThen_ok, List.map_toArray, List.map_cons, List.map_nil, hs, hx, hr]
  exact h g cap w' h2 h3 h4 h5
end Go.Proofs.Ytmjikebbknjahaa
