/-
  Appends of a string, said in full: the old slice reads as it did; other rows stay.
-/
import Derived.Test.YtmjikebbknjahaaTextL
import Derived.Test.YtmjikebbknjahaaPartsV
import Derived.Test.YtmjikebbknjahaaOwnG
namespace Go.Proofs.Ytmjikebbknjahaa
open Go.RowKit Go.Lib Hw
set_option linter.unusedVariables false

theorem OwnT.drew {w : World} {B : Nat} {v : Value} {xs : List ByteArray} (h : OwnT w B v xs) : OwnT w.drew B v xs := h
theorem OwnT.alloc {w : World} {B : Nat} {v : Value} {xs : List ByteArray} (h : OwnT w B v xs) (o : Obj) : OwnT (w.alloc o) B v xs := World.ownsRow.alloc h o
theorem OwnT.kept {w w' : World} {B : Nat} {v : Value} {xs : List ByteArray} {row : Option Nat} (h : OwnT w B v xs) (hg : w.grownBy w' row) (hne : v.ownBlock = none ∨ v.ownBlock ≠ row) : OwnT w' B v xs := World.ownsRow.kept h hg hne
theorem OwnT.set {w : World} {B g cap : Nat} {xs : List ByteArray} (h : OwnT w B (.slice (some ⟨g, 0, none⟩) xs.length cap) xs) (j : Nat) (x : ByteArray) : OwnT (w.setCell ⟨g, j, none⟩ (.string x)) B (.slice (some ⟨g, 0, none⟩) xs.length cap) (xs.set j x) := by
  unfold OwnT
  rw [List.length_set, List.map_set]
  exact (World.ownsRow.stored h j (.string x)).1
theorem OwnT.setOther {w : World} {B : Nat} {v : Value} {xs : List ByteArray} (h : OwnT w B v xs) {a : Addr} (hne : v.ownBlock ≠ some a.block) (u : Value) : OwnT (w.setCell a u) B v xs := by
  refine ⟨h.1, ?_⟩
  rcases h.2 with h2 | ⟨g, cap, cur, hv, hg, hh, r⟩
  · exact .inl h2
  · refine .inr ⟨g, cap, cur, hv, hg, ?_, r⟩
    have : g ≠ a.block := fun e => hne (by rw [hv]; exact congrArg some e)
    rw [Below.heap_setCell _ _ _ _ this]; exact hh
theorem OwnT.free {w : World} {B g cap : Nat} {xs : List ByteArray} (h : OwnT w B (.slice (some ⟨g, 0, none⟩) xs.length cap) xs) (j : Nat) : w.frozen? ⟨g, j, none⟩ = false := World.ownsRow.frozenAt h j
/-- the slice of a row that is owned, its length written out -/
theorem OwnT.shape {w : World} {B : Nat} {v : Value} {xs : List ByteArray} (h : OwnT w B v xs) : ∃ ad cap, v = .slice ad xs.length cap ∧ xs.length ≤ cap ∧ (0 < xs.length → ∃ g, ad = some ⟨g, 0, none⟩) := by
  rcases h.2 with ⟨rfl, h0⟩ | ⟨g, cap, cur, rfl, _, _, hc, _⟩
  · exact ⟨none, 0, by rw [h0], by omega, fun h => by omega⟩
  · exact ⟨_, cap, rfl, hc, fun _ => ⟨g, rfl⟩⟩

/-- append(xs, x): what the old slice reads behind it -/
theorem append_keeps {w w' : World} {B : Nat} {v v' : Value} {xs : List ByteArray} (hown : OwnT w B v xs) (x : ByteArray) (ad : Addr) (c : Nat) (ty : TypeId) (hx : w.cell? ad = some (.string x)) (hlen : (xs.length + 1) * 16 ≤ 140737488355328)
    (hr : (Builtin.append_ #[23, 23] ty #[v, .slice (some ad) 1 c]).run Try.prog w = .ok v' w') : StrRow w' v xs := by
  obtain ⟨i, hi, hz0, hz1, hz2⟩ := info_parts info_str
  have hown0 := hown
  rcases hown.2 with ⟨rfl, h0⟩ | ⟨g, cap, cur, rfl, hBg, hg, hnc, hcm, hcs, ht⟩
  · obtain rfl : xs = [] := List.eq_nil_of_length_eq_zero h0
    exact ⟨none, 0, rfl, fun _ => rfl, fun h => by simp at h⟩
  · have hadd0 : ad.add 0 = ad := by unfold Addr.add; simp
    have hnews : ∀ j u, [Value.string x][j]? = some u → w.cell? (ad.add j) = some u := by
      intro j u hu
      match j, hu with
      | 0, hu => rw [hadd0, hx]; simpa using hu
    simp only [Nat.mul_one] at hcs ht
    by_cases hroom : xs.length + 1 ≤ cap
    · have hf := run_firstCells_some (P := Try.prog) w i.size 1 ad 1 c [Value.string x] (by rw [hz1]; rfl) hnews
      have hlc : xs.length < cur.size := by omega
      have hc : w.cell? ⟨g, xs.length, none⟩ = some cur[xs.length] := by rw [heap_cell hg]; simp
      have hfr : w.frozen? ⟨g, xs.length, none⟩ = false := heap_free hg _
      have hst := run_storeCells_one Try.prog w g xs.length (.string x) _ rfl hc hfr
      have hr2 : (Builtin.append_ #[23, 23] ty #[.slice (some ⟨g, 0, none⟩) xs.length cap, .slice (some ad) 1 c]).run Try.prog w = .ok (.slice (some ⟨g, 0, none⟩) (xs.length + 1) cap) (w.setCell ⟨g, xs.length, none⟩ (.string x)) := by
        simp [Builtin.append_, run_underlying Try.underlying23, sizeOf, typeInfo, hi, hz1, Builtin.lenOf, hroom, Addr.add_lit]
        rw [hz1] at hf
        simp [hf, hst]
      rw [hr2] at hr
      simp only [Result.ok.injEq] at hr
      obtain ⟨_, rfl⟩ := hr
      refine ⟨some ⟨g, 0, none⟩, cap, rfl, (fun h => by cases h), fun _ => ⟨g, 0, rfl, fun j hj => ?_⟩⟩
      have h1 := hown0.cell j hj
      rw [Nat.zero_add, World.cell?_setCell_other _ _ _ _ (by intro e; simp only [Addr.mk.injEq, and_true, true_and] at e; omega)]
      exact h1
    · have holds : ∀ j u, (xs.map Value.string)[j]? = some u → w.cell? ((⟨g, 0, none⟩ : Addr).add j) = some u := by
        intro j u hu
        rw [add_flat1, Nat.zero_add]
        rw [List.getElem?_map] at hu
        obtain ⟨y, hy, rfl⟩ := Option.map_eq_some_iff.1 hu
        obtain ⟨hj, rfl⟩ := List.getElem?_eq_some_iff.1 hy
        exact hown0.cell j hj
      have hr2 := run_append_grow (P := Try.prog) w 23 ty 9 i (.string ⟨#[]⟩) Try.underlying23 hi hz0 ⟨g, 0, none⟩ xs.length cap (xs.map Value.string) (by rw [hz1]; simp) holds ad 1 c [Value.string x] (by rw [hz1]; rfl) hnews (by omega) (by omega) (by rw [hz2]; exact growslice_fits (by omega) (by omega))
      rw [hr2] at hr
      simp only [Result.ok.injEq] at hr
      obtain ⟨_, rfl⟩ := hr
      exact hown0.strRow.below' (((Below.refl _ w).drew).alloc (Nat.le_refl _) _)

/-- append(xs, x) of a string that was laid into a block of its own: other rows stay, the old slice reads as it did -/
theorem wpList_appTk {ops : Array Oper} {rest : List Oper} {o : Oper} {a : Act} {Q : Exit → Act → World → Prop} (W : World) (t : TypeId) (x : ByteArray) (hgd : o.guard = none) (s y : Operand)
    (ho : o.op = .call { callee := .builtin .append, args := #[s, y], argTypes := #[23, 23] })
    (B : Nat) (v : Value) (xs : List ByteArray) (hs : a.eval s = v) (hown : OwnT W B v xs) (c : Nat) (hy : a.eval y = .slice (some ⟨W.heap.size, 0, none⟩) 1 c)
    (hlen : (xs.length + 1) * 16 ≤ 140737488355328) (hB : B ≤ W.heap.size)
    (h : ∀ v' w', OwnT w' B v' (xs ++ [x]) → (W.alloc (.cells #[.string x] t)).grownBy w' v.ownBlock → (v'.ownBlock = v.ownBlock ∨ v'.ownBlock = some (W.heap.size + 1)) → StrRow w' v xs → wpList Try.prog ops Q rest (a.put o.dst v') w') :
    wpList Try.prog ops Q (o :: rest) a (W.alloc (.cells #[.string x] t)) := by
  obtain ⟨i, hi, hz0, hz1, hz2⟩ := info_parts info_str
  have hx : (W.alloc (.cells #[.string x] t)).cell? ⟨W.heap.size, 0, none⟩ = some (.string x) := by rw [heap_cell (heap_alloc_new W _)]; rfl
  obtain ⟨v', w', hr, h1, h2, _, h3⟩ := run_append_own_at (P := Try.prog) (W.alloc (.cells #[.string x] t)) B 23 o.type 9 i (.string ⟨#[]⟩) 1 16 Try.underlying23 hi hz0 hz1 hz2 rfl (by decide) v xs.length (xs.map Value.string) (World.ownsRow.alloc hown _) ⟨W.heap.size, 0, none⟩ 1 c [.string x] rfl
    (World.news_of_block (heap_alloc_new W _)) (sv_one [x]) (by rw [maxLen_eq]; omega) hlen (by simp only [World.size_alloc]; omega)
  have hk := append_keeps (hown.alloc _) x ⟨W.heap.size, 0, none⟩ c o.type hx hlen hr
  refine wpList_plain hgd fun K hK => ?_
  unfold Oper.wp execOp
  simp only [ho, resolve, invoke, builtin, Sem.run_bind, Sem.run_pure, Result.andThen_ok, List.map_toArray, List.map_cons, List.map_nil, hs, hy, hr]
  refine hK _ _ (h v' w' ?_ h2 (by simpa only [World.size_alloc] using h3) hk)
  unfold OwnT
  rw [List.length_append, List.map_append]
  exact h1
end Go.Proofs.Ytmjikebbknjahaa
