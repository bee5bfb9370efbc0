/-
  Views of the law's Sheets: a frame, a slice of blocks, a slice of numbers.
-/
import Derived.Test.YtfhfeaipdmcekaaFrameA
import Derived.Test.YtfhfeaipdmcekaaPageS2
import Derived.Deep.Slices
import Derived.Deep.Strs
namespace Go.Proofs.Ytfhfeaipdmcekaa
open Go.Deep Go.ChangeShapes Go.WideShapes Go.ChangeAt Go.RowKit Go.Joins
section
variable {H : Type} {enc : TypeId × Value → H} {W : World} {base : Nat} {sp : Nat → Bool} {b1 : Nat} {held : Bool}

theorem add_flat (a : Addr) (h : a.spot = none) (k : Nat) : a.add k = ⟨a.block, a.off + k, none⟩ := by
  obtain ⟨b, o, s⟩ := a
  obtain rfl : s = none := h
  unfold Addr.add
  by_cases hk : k = 0
  · rw [if_pos hk, hk]; rfl
  · rw [if_neg hk]
theorem cells_Sheets : Try.prog.cellsOf 52 = 4 := by kernel_rfl
theorem cells_Block : Try.prog.cellsOf 67 = 3 := by kernel_rfl
theorem cells_sl_Block : Try.prog.cellsOf 49 = 1 := by kernel_rfl
theorem cells_sl_u32 : Try.prog.cellsOf 50 = 1 := by kernel_rfl
theorem cells_Errno : Try.prog.cellsOf 33 = 1 := by kernel_rfl

theorem view_nums {n : Nat} {v : Value} {y : DataW H × List MemPlace} (h : DataW.trod enc Try.prog W base sp held n 50 [v] = some y) : ∃ l, NumRow W v l := by
  rcases open_slice1 Try.underlying50 cells_u32 h with ⟨hc, _⟩ | ⟨a, len, cap, m, k, V, D, Pl, hc, _, hlc, hcm, hm, _, hx⟩
  · simp only [List.cons.injEq, and_true] at hc
    subst hc
    exact ⟨[], by simp, by simp, none, 0, rfl, fun h => by simp at h⟩
  · simp only [List.cons.injEq, and_true] at hc
    subst hc
    have hlm : len ≤ m := by rw [hm]; split <;> omega
    have each : ∀ i, i < len → ∃ x : Int, W.cell? (a.add i) = some (.int .u32 x) ∧ 0 ≤ x ∧ x < 4294967296 := by
      intro i hi
      obtain ⟨h1, h2⟩ := hx i (by omega)
      obtain ⟨x, e, _, wx⟩ := DataW.trod_int Try.underlying25 h2
      simp at e
      rw [e] at h1
      exact ⟨x, h1, wf_u32_bd wx⟩
    obtain ⟨f, hf⟩ := choose_lt each
    refine ⟨(List.range len).map f, by simp [maxLen] at *; omega, ?_, some a, cap, by simp, ?_⟩
    · intro x hx
      simp at hx
      obtain ⟨i, hi, rfl⟩ := hx
      exact (hf i hi).2
    · intro hl
      simp at hl
      have h0 := World.cell?_spot (hf 0 hl).1
      have ha : a = ⟨a.block, a.off, none⟩ := by
        cases a with
        | mk b o s => simp [Addr.add] at h0; simp [h0]
      refine ⟨a.block, a.off, by rw [← ha], fun i hi => ?_⟩
      simp at hi
      have h1 := (hf i hi).1
      have hadd : a.add i = ⟨a.block, a.off + i, none⟩ := add_flat a (by rw [ha]) i
      rw [hadd] at h1
      simpa using h1

theorem view_blks {n : Nat} {v : Value} {y : DataW H × List MemPlace} (h : DataW.trod enc Try.prog W base sp held n 49 [v] = some y) : ∃ l, BlkRow W v l := by
  rcases open_slice Try.underlying49 h with ⟨hc, _⟩ | ⟨a, len, cap, m, k, D, Pl, hc, _, hlc, hcm, hm, _, hx⟩
  · simp only [List.cons.injEq, and_true] at hc
    subst hc
    exact ⟨[], by simp, by simp, none, 0, rfl, fun h => by simp at h⟩
  · simp only [List.cons.injEq, and_true] at hc
    subst hc
    have hlm : len ≤ m := by rw [hm]; split <;> omega
    have each : ∀ i, i < len → ∃ x : Blk, W.cell? (a.add (i * 3)) = some (.int .u32 x.no) ∧ W.cell? ((a.add (i * 3)).add 1) = some (.string x.text) ∧ W.cell? ((a.add (i * 3)).add 2) = some (.int .i64 x.code) ∧ BlkOk x := by
      intro i hi
      obtain ⟨cs', h1, h2⟩ := hx i (by omega)
      rw [cells_Block] at h1
      obtain ⟨_, hlen, hcell⟩ := World.cells?_some h1
      match cs', hlen with
      | [v0, v1, v2], _ =>
        obtain ⟨y0, y1, y2, n', _, _, g0, g1, g2⟩ := trod_struct3 Try.underlying67 h2
        simp [cells_u32, cells_str, cells_Errno] at g0 g1 g2
        obtain ⟨x0, e0, _, w0⟩ := DataW.trod_int Try.underlying25 g0
        obtain ⟨x1, e1, _, w1⟩ := DataW.trod_string Try.underlying9 g1
        obtain ⟨x2, e2, _, w2⟩ := DataW.trod_int Try.underlying33 g2
        simp at e0 e1 e2
        subst e0 e1 e2
        have c0 := hcell 0 (by omega)
        have c1 := hcell 1 (by omega)
        have c2 := hcell 2 (by omega)
        have a0 : (a.add (i * 3)).add 0 = a.add (i * 3) := by simp [Addr.add]
        rw [a0] at c0
        exact ⟨⟨x0, x1, x2⟩, c0, c1, c2, wf_u32_bd w0, by simpa [Lit.wf, maxLen] using w1, wf_i64_bd w2⟩
    haveI : Inhabited Blk := ⟨⟨0, ⟨#[]⟩, 0⟩⟩
    obtain ⟨f, hf⟩ := choose_lt each
    refine ⟨(List.range len).map f, by simp [maxLen] at *; omega, ?_, some a, cap, by simp, ?_⟩
    · intro x hx
      simp at hx
      obtain ⟨i, hi, rfl⟩ := hx
      exact (hf i hi).2.2.2
    · intro hl
      simp at hl
      have h0 := World.cell?_spot (hf 0 hl).1
      have ha : a = ⟨a.block, a.off, none⟩ := by
        cases a with
        | mk b o s => simp [Addr.add] at h0; simp [h0]
      refine ⟨a.block, a.off, by rw [← ha], fun i hi => ?_⟩
      simp at hi
      obtain ⟨h1, h2, h3, _⟩ := hf i hi
      have hadd : a.add (i * 3) = ⟨a.block, a.off + i * 3, none⟩ := add_flat a (by rw [ha]) (i * 3)
      rw [hadd] at h1 h2 h3
      have b1 : (⟨a.block, a.off + i * 3, none⟩ : Addr).add 1 = ⟨a.block, a.off + i * 3 + 1, none⟩ := by simp [Addr.add]
      have b2 : (⟨a.block, a.off + i * 3, none⟩ : Addr).add 2 = ⟨a.block, a.off + i * 3 + 2, none⟩ := by simp [Addr.add]
      rw [b1] at h2
      rw [b2] at h3
      simp only [List.getElem_map, List.getElem_range]
      exact ⟨h1, h2, h3⟩

def IsSheets (W : World) (v : Value) : Prop := ∃ a b lv av l ns, v = .agg #[.int .i64 a, .int .i64 b, lv, av] ∧ (-9223372036854775808 ≤ a ∧ a ≤ 9223372036854775807) ∧ BlkRow W lv l ∧ NumRow W av ns
set_option maxRecDepth 100000 in
theorem view_Sheets {v : Value} {d : DataW H} {p : List MemPlace} (hv : Value.okWide Try.prog W .any b1 52 v) (h : DataW.Trod enc Try.prog W base sp held 52 v d p) : IsSheets W v := by
  obtain ⟨cs, rfl, hsz⟩ := okWide_struct Try.underlying52 hv
  obtain ⟨c0, c1, c2, c3, rfl⟩ := array4 (hsz.trans cells_Sheets)
  obtain ⟨fuel, hf⟩ := h
  obtain ⟨y0, y1, y2, n, hx, _, h0, h1, h2⟩ := trod_struct3 Try.underlying52 hf
  simp [Value.cells, cells_Frame, cells_sl_Block, cells_sl_u32] at h0 h1 h2
  obtain ⟨z0, z1, n0, _, _, g0, g1⟩ := trod_struct2 Try.underlying23 h0
  simp [cells_i64] at g0 g1
  obtain ⟨a, e0, _, wa⟩ := DataW.trod_int Try.underlying3 g0
  obtain ⟨b, e1, _, wb⟩ := DataW.trod_int Try.underlying3 g1
  simp at e0 e1
  subst e0 e1
  obtain ⟨l, hl⟩ := view_blks h1
  obtain ⟨ns, hns⟩ := view_nums h2
  exact ⟨a, b, c2, c3, l, ns, rfl, wf_i64_bd wa, hl, hns⟩
end
end Go.Proofs.Ytfhfeaipdmcekaa
