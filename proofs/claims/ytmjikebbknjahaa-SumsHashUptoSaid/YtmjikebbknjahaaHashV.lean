/-
  The view of a slice of acts.
-/
import Derived.Test.YtmjikebbknjahaaHashW
import Derived.Test.YtmjikebbknjahaaFrameT
namespace Go.Proofs.Ytmjikebbknjahaa
open Go.ChangeShapes Go.WideShapes Go.ChangeAt Go.RowKit Go.Joins Go.Deep Hw
set_option linter.unusedVariables false

section
variable {H : Type} {enc : TypeId × Value → H} {W : World} {base : Nat} {sp : Nat → Bool} {b1 : Nat} {held : Bool}
theorem cells_Act : Try.prog.cellsOf 69 = 4 := by kernel_rfl
theorem cells_int_ : Try.prog.cellsOf 3 = 1 := by kernel_rfl
theorem cells_sl_str : Try.prog.cellsOf 23 = 1 := by kernel_rfl
theorem cost_sum (f : Nat → ActV) (D : Nat → DataW H) : ∀ l : List Nat, (∀ i ∈ l, cost (f i) ≤ Rows.uptoBulk (D i)) → ((l.map f).map cost).sum ≤ Rows.uptoBulkAll (l.map D)
  | [], _ => Nat.zero_le _
  | a :: l, h => by
    have h1 := cost_sum f D l (fun i hi => h i (List.mem_cons_of_mem _ hi))
    have h2 := h a (List.mem_cons_self ..)
    rw [List.map_cons, List.map_cons, List.sum_cons, List.map_cons, Rows.uptoBulkAll]
    omega
theorem bulk_agg4 (a b c d : DataW H) : Rows.uptoBulk d ≤ Rows.uptoBulk (.agg [a, b, c, d] : DataW H) := by
  rw [Rows.uptoBulk, Rows.uptoBulkAll, Rows.uptoBulkAll, Rows.uptoBulkAll, Rows.uptoBulkAll]
  omega

theorem trod_acts {n : Nat} {v : Value} {y : DataW H × List MemPlace} (hz : Rows.uptoBulk y.1 ≤ 1048576) (h : DataW.trod enc Try.prog W base sp held n 63 [v] = some y) : IsActs W v := by
  rcases open_slice Try.underlying63 h with ⟨hc, _⟩ | ⟨a, len, cap, m, k, D, Pl, hc, _, hlc, hcm, hm, hy, hx⟩
  · simp only [List.cons.injEq, and_true] at hc
    subst hc
    exact ⟨[], ⟨none, 0, rfl, fun h => by simp at h⟩, by simp, by simp⟩
  · simp only [List.cons.injEq, and_true] at hc
    subst hc
    have hlm : len ≤ m := by rw [hm]; split <;> omega
    have each : ∀ i, i < len → ∃ x : ActV, W.cell? (a.add (i * 4)) = some (.int .i64 x.o) ∧ W.cell? ((a.add (i * 4)).add 1) = some (.int .i64 x.n) ∧ W.cell? ((a.add (i * 4)).add 2) = some (.int .i64 x.k) ∧ W.cell? ((a.add (i * 4)).add 3) = some x.pv ∧ StrRow W x.pv x.ps ∧ okInt x.o ∧ okInt x.n ∧ okInt x.k ∧ cost x ≤ Rows.uptoBulk (D i) := by
      intro i hi
      obtain ⟨cs', h1, h2⟩ := hx i (by omega)
      rw [cells_Act] at h1
      obtain ⟨_, hlen, hcell⟩ := World.cells?_some h1
      match cs', hlen with
      | [v0, v1, v2, v3], _ =>
        obtain ⟨y0, y1, y2, y3, n', hxx, _, g0, g1, g2, g3⟩ := trod_struct4 Try.underlying69 h2
        simp [cells_int_, cells_sl_str] at g0 g1 g2 g3
        obtain ⟨x0, e0, _, w0⟩ := DataW.trod_int Try.underlying3 g0
        obtain ⟨x1, e1, _, w1⟩ := DataW.trod_int Try.underlying3 g1
        obtain ⟨x2, e2, _, w2⟩ := DataW.trod_int Try.underlying3 g2
        obtain ⟨ps, hps, _, hcase⟩ := trod_strs g3
        simp at e0 e1 e2
        subst e0 e1 e2
        have c0 := hcell 0 (by omega)
        have c1 := hcell 1 (by omega)
        have c2 := hcell 2 (by omega)
        have c3 := hcell 3 (by omega)
        have a0 : (a.add (i * 4)).add 0 = a.add (i * 4) := by simp [Addr.add]
        rw [a0] at c0
        refine ⟨⟨x0, x1, x2, v3, ps⟩, c0, c1, c2, c3, hps, wf_i64_bd w0, wf_i64_bd w1, wf_i64_bd w2, ?_⟩
        have hD : D i = .agg [y0.1, y1.1, y2.1, y3.1] := congrArg Prod.fst hxx
        rw [hD]
        refine Nat.le_trans ?_ (bulk_agg4 _ _ _ _)
        show (flat ps).length + ps.length ≤ _
        rcases hcase with ⟨rfl, _⟩ | ⟨spare, hs⟩
        · exact Nat.zero_le _
        · rw [hs, Rows.uptoBulk, bulk_strs]
          show (flat ps).length + ps.length ≤ (flat ps).length + ps.length + _ + 1
          omega
    haveI : Inhabited ActV := ⟨⟨0, 0, 0, .slice none 0 0, []⟩⟩
    obtain ⟨f, hf⟩ := choose_lt each
    have hml : maxLen = 9223372036854775807 := rfl
    have hsum : (((List.range len).map f).map cost).sum ≤ 1048576 := by
      have h1 := cost_sum f D (List.range len) (fun i hi => (hf i (List.mem_range.1 hi)).2.2.2.2.2.2.2.2)
      have hd : y.1 = .slice ((List.range len).map D) ((List.range (m - len)).map fun j => D (len + j)) := by rw [hy]
      rw [hd, Rows.uptoBulk] at hz
      omega
    refine ⟨(List.range len).map f, ⟨some a, cap, by simp, fun hl => ?_⟩, by simp; omega, hsum⟩
    simp at hl
    have h0 := World.cell?_spot (hf 0 hl).1
    have ha : a.spot = none := by
      cases a with
      | mk b o s => simp [Addr.add] at h0; simp [h0]
    refine ⟨a.block, a.off, by cases a; simp_all, fun i hi => ?_⟩
    simp at hi
    obtain ⟨h1, h2, h3, h4, h5, h6, h7, h8, _⟩ := hf i hi
    rw [add_plain a ha (i * 4)] at h1 h2 h3 h4
    have b1 : (⟨a.block, a.off + i * 4, none⟩ : Addr).add 1 = ⟨a.block, a.off + i * 4 + 1, none⟩ := by simp [Addr.add]
    have b2 : (⟨a.block, a.off + i * 4, none⟩ : Addr).add 2 = ⟨a.block, a.off + i * 4 + 2, none⟩ := by simp [Addr.add]
    have b3 : (⟨a.block, a.off + i * 4, none⟩ : Addr).add 3 = ⟨a.block, a.off + i * 4 + 3, none⟩ := by simp [Addr.add]
    rw [b1] at h2
    rw [b2] at h3
    rw [b3] at h4
    simp only [List.getElem_map, List.getElem_range]
    exact ⟨h1, h2, h3, h4, h5, h6, h7, h8⟩
set_option maxRecDepth 100000 in
theorem view_acts_up {v : Value} {d : DataW H} {p : List MemPlace} (hz : Rows.uptoBulk d ≤ 1048576) (hv : Value.okWide Try.prog W .any b1 63 v) (h : DataW.Trod enc Try.prog W base sp held 63 v d p) : IsActs W v := by
  obtain ⟨a0, len, cap, rfl⟩ := okWide_slice Try.underlying63 hv
  obtain ⟨n, h⟩ := h
  exact trod_acts hz h
end
end Go.Proofs.Ytmjikebbknjahaa
