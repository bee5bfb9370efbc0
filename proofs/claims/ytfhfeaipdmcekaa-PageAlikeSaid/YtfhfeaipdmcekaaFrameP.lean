/-
  The view of a slice of pages.
-/
import Derived.Test.YtfhfeaipdmcekaaFrameS
import Derived.Test.YtfhfeaipdmcekaaAlikeW
namespace Go.Proofs.Ytfhfeaipdmcekaa
open Go.Deep Go.ChangeShapes Go.WideShapes Go.ChangeAt Go.RowKit Go.Joins
set_option linter.unusedVariables false
section
variable {H : Type} {enc : TypeId × Value → H} {W : World} {base : Nat} {sp : Nat → Bool} {b1 : Nat} {held : Bool}
theorem cells_Kind : Try.prog.cellsOf 24 = 1 := by kernel_rfl
theorem bytes_Page : Try.prog.bytesOf 28 = 32 := by kernel_rfl

theorem trod_pages {n : Nat} {v : Value} {y : DataW H × List MemPlace} (h : DataW.trod enc Try.prog W base sp held n 62 [v] = some y) :
    ∃ l : List Pg, PgRow W v l ∧ (∀ p ∈ l, PgOk p) ∧ ((l = [] ∧ y.1 = .nil) ∨ ∃ ds spare, y.1 = .slice ds spare ∧ ds.length = l.length) := by
  rcases open_slice Try.underlying62 h with ⟨hc, hy⟩ | ⟨a, len, cap, m, k, D, Pl, hc, _, hlc, hcm, hm, hy, hx⟩
  · simp only [List.cons.injEq, and_true] at hc
    subst hc
    exact ⟨[], ⟨none, 0, rfl, fun h => by simp at h⟩, by simp, .inl ⟨rfl, by rw [hy]⟩⟩
  · simp only [List.cons.injEq, and_true] at hc
    subst hc
    have hlm : len ≤ m := by rw [hm]; split <;> omega
    have each : ∀ i, i < len → ∃ x : Pg, W.cell? (a.add (i * 4)) = some (.int .u8 x.k) ∧ W.cell? ((a.add (i * 4)).add 1) = some (.int .u32 x.n) ∧ W.cell? ((a.add (i * 4)).add 2) = some (.int .u64 x.r) ∧ W.cell? ((a.add (i * 4)).add 3) = some (.string x.s) ∧ PgOk x := by
      intro i hi
      obtain ⟨cs', h1, h2⟩ := hx i (by omega)
      rw [cells_Page] at h1
      obtain ⟨_, hlen, hcell⟩ := World.cells?_some h1
      match cs', hlen with
      | [v0, v1, v2, v3], _ =>
        obtain ⟨y0, y1, y2, y3, n', hxx, _, g0, g1, g2, g3⟩ := trod_struct4 Try.underlying28 h2
        simp [cells_u8k, cells_u32, cells_u64, cells_str] at g0 g1 g2 g3
        obtain ⟨x0, e0, _, w0⟩ := DataW.trod_int Try.underlying24 g0
        obtain ⟨x1, e1, _, w1⟩ := DataW.trod_int Try.underlying25 g1
        obtain ⟨x2, e2, _, w2⟩ := DataW.trod_int Try.underlying26 g2
        obtain ⟨x3, e3, _, w3⟩ := DataW.trod_string Try.underlying9 g3
        simp at e0 e1 e2 e3
        subst e0 e1 e2 e3
        have c0 := hcell 0 (by omega)
        have c1 := hcell 1 (by omega)
        have c2 := hcell 2 (by omega)
        have c3 := hcell 3 (by omega)
        have a0 : (a.add (i * 4)).add 0 = a.add (i * 4) := by simp [Addr.add]
        rw [a0] at c0
        exact ⟨⟨x0, x1, x2, x3⟩, c0, c1, c2, c3, wf_u8_bd w0, wf_u32_bd w1, wf_u64_bd w2, by simpa [Lit.wf, maxLen] using w3⟩
    haveI : Inhabited Pg := ⟨⟨0, 0, 0, ⟨#[]⟩⟩⟩
    obtain ⟨f, hf⟩ := choose_lt each
    refine ⟨(List.range len).map f, ⟨some a, cap, by simp, fun hl => ?_⟩, ?_, .inr ⟨_, _, by rw [hy], by simp⟩⟩
    · simp at hl
      have h0 := World.cell?_spot (hf 0 hl).1
      have ha : a = ⟨a.block, a.off, none⟩ := by
        cases a with
        | mk b o s => simp [Addr.add] at h0; simp [h0]
      refine ⟨a.block, a.off, by rw [← ha], fun i hi => ?_⟩
      simp at hi
      obtain ⟨h1, h2, h3, h4, _⟩ := hf i hi
      have hadd : a.add (i * 4) = ⟨a.block, a.off + i * 4, none⟩ := add_flat a (by rw [ha]) (i * 4)
      rw [hadd] at h1 h2 h3 h4
      have b1 : (⟨a.block, a.off + i * 4, none⟩ : Addr).add 1 = ⟨a.block, a.off + i * 4 + 1, none⟩ := by simp [Addr.add]
      have b2 : (⟨a.block, a.off + i * 4, none⟩ : Addr).add 2 = ⟨a.block, a.off + i * 4 + 2, none⟩ := by simp [Addr.add]
      have b3 : (⟨a.block, a.off + i * 4, none⟩ : Addr).add 3 = ⟨a.block, a.off + i * 4 + 3, none⟩ := by simp [Addr.add]
      rw [b1] at h2
      rw [b2] at h3
      rw [b3] at h4
      simp only [List.getElem_map, List.getElem_range]
      exact ⟨h1, h2, h3, h4⟩
    · intro x hx
      simp at hx
      obtain ⟨i, hi, rfl⟩ := hx
      exact (hf i hi).2.2.2.2
def IsPgs (W : World) (v : Value) : Prop := ∃ l : List Pg, PgRow W v l ∧ (∀ p ∈ l, PgOk p) ∧ l.length ≤ 9223372036854775806
set_option maxRecDepth 100000 in
theorem view_pages_sz {v : Value} {d : DataW H} {p : List MemPlace} (hz : (d.weights Try.prog 62).all (· ≤ reachBytes) = true) (hv : Value.okWide Try.prog W .any b1 62 v) (h : DataW.Trod enc Try.prog W base sp held 62 v d p) : IsPgs W v := by
  obtain ⟨a0, len, cap, rfl⟩ := okWide_slice Try.underlying62 hv
  obtain ⟨n, h⟩ := h
  obtain ⟨l, hl, hok, hc⟩ := trod_pages h
  refine ⟨l, hl, hok, ?_⟩
  rcases hc with ⟨rfl, _⟩ | ⟨ds, spare, hd, hdl⟩
  · simp
  · simp only at hd
    subst hd
    rw [DataW.weights, Try.underlying62] at hz
    simp only [List.all_cons, Bool.and_eq_true, decide_eq_true_eq, hdl] at hz
    have h1 := hz.1
    have h2 : reachBytes = 140737488351232 := rfl
    rw [bytes_Page] at h1
    omega
end
end Go.Proofs.Ytfhfeaipdmcekaa
