/-
  Views of numbers, of chains, of a need.
-/
import Derived.Test.YtkngmnfgdlnddaaFrameB
import Derived.Test.YtkngmnfgdlnddaaFreeN
import Derived.Deep.Slices
import Derived.Deep.Strs
import Derived.Lib.SmallJoins
namespace Go.Proofs.Ytkngmnfgdlnddaa
open Go.Deep Go.ChangeShapes Go.WideShapes Go.ChangeAt Go.RowKit Go.Joins Hw
set_option linter.unusedVariables false
section
variable {H : Type} {enc : TypeId × Value → H} {W : World} {base : Nat} {sp : Nat → Bool} {b1 : Nat} {held : Bool}
theorem fcells_u32 : Try.prog.cellsOf 27 = 1 := by kernel_rfl
theorem fcells_int : Try.prog.cellsOf 3 = 1 := by kernel_rfl
theorem fcells_us : Try.prog.cellsOf 28 = 1 := by kernel_rfl
theorem fcells_bs : Try.prog.cellsOf 44 = 1 := by kernel_rfl
theorem fcells_Batch : Try.prog.cellsOf 64 = 2 := by kernel_rfl
theorem fcells_Need : Try.prog.cellsOf 46 = 6 := by kernel_rfl
theorem fbytes_u32 : Try.prog.bytesOf 27 = 4 := by kernel_rfl
theorem fbytes_Batch : Try.prog.bytesOf 64 = 32 := by kernel_rfl
theorem flat_add (a : Addr) (h : a.spot = none) (k : Nat) : a.add k = ⟨a.block, a.off + k, none⟩ := by
  obtain ⟨b, o, s⟩ := a
  obtain rfl : s = none := h
  unfold Addr.add
  by_cases hk : k = 0
  · rw [if_pos hk, hk]; rfl
  · rw [if_neg hk]
theorem fweightsAll_get {n : Nat} (e : TypeId) : ∀ (i : Nat) (ds : List (DataW H)) (d : DataW H), (DataW.weightsAll Try.prog e ds).all (· ≤ n) = true → ds[i]? = some d → (d.weights Try.prog e).all (· ≤ n) = true
  | 0, d' :: ds, d, h, hd => by
    simp only [List.getElem?_cons_zero, Option.some.injEq] at hd
    subst hd
    rw [DataW.weightsAll, List.all_append, Bool.and_eq_true] at h
    exact h.1
  | i + 1, d' :: ds, d, h, hd => by
    rw [DataW.weightsAll, List.all_append, Bool.and_eq_true] at h
    exact fweightsAll_get e i ds d h.2 (by simpa using hd)
  | _, [], _, _, hd => by simp at hd
/-- numbers that a law was handed: their length fits a memory -/
def NumsZ (W : World) (v : Value) (l : List Nat) : Prop := URow W v l ∧ l.length * 4 ≤ 140737488351232
set_option maxRecDepth 100000 in
theorem trod_nums {n : Nat} {v : Value} {y : DataW H × List MemPlace} (hz : (y.1.weights Try.prog 28).all (· ≤ reachBytes) = true) (h : DataW.trod enc Try.prog W base sp held n 28 [v] = some y) : ∃ l, NumsZ W v l := by
  rcases open_slice1 Try.underlying28 fcells_u32 h with ⟨hc, _⟩ | ⟨a, len, cap, m, k, V, D, Pl, hc, _, hlc, hcm, hm, hy, hx⟩
  · simp only [List.cons.injEq, and_true] at hc
    subst hc
    exact ⟨[], URow.nil _, by simp⟩
  · simp only [List.cons.injEq, and_true] at hc
    subst hc
    have hlm : len ≤ m := by rw [hm]; split <;> omega
    obtain ⟨d, pl⟩ := y
    have hd : d = _ := congrArg Prod.fst hy
    subst hd
    rw [DataW.weights, Try.underlying28] at hz
    simp only [List.all_cons, List.all_append, Bool.and_eq_true, decide_eq_true_eq, List.length_map, List.length_range, fbytes_u32] at hz
    have h2 : reachBytes = 140737488351232 := rfl
    have hzl := hz.1
    have each : ∀ i, i < len → ∃ x : Nat, W.cell? (a.add i) = some (uN x) ∧ x < 4294967296 := by
      intro i hi
      obtain ⟨h1, h2⟩ := hx i (by omega)
      obtain ⟨x, e, _, wx⟩ := DataW.trod_int Try.underlying27 h2
      simp at e
      have hb := wf_u32_bd wx
      refine ⟨x.toNat, ?_, by omega⟩
      rw [h1, e]
      unfold uN
      rw [Int.toNat_of_nonneg hb.1]
    obtain ⟨f, hf⟩ := choose_lt each
    refine ⟨(List.range len).map f, ⟨?_, some a, cap, by simp, by simpa using hlc, by simp [maxLen] at hcm; omega, ?_⟩, by simp; omega⟩
    · intro x hx
      simp at hx
      obtain ⟨i, hi, rfl⟩ := hx
      exact (hf i hi).2
    · intro hl
      simp at hl
      have h0 := World.cell?_spot (hf 0 hl).1
      have ha : a = ⟨a.block, a.off, none⟩ := by
        cases a with
        | mk b o s => simp [Addr.add] at h0; simp [h0]
      have hblk : a.block < W.heap.size := by
        have := World.block_lt_of_cell? _ _ (hf 0 hl).1
        simpa [Addr.add] using this
      refine ⟨a.block, a.off, by rw [← ha], hblk, fun i hi => ?_⟩
      simp at hi
      have h1 := (hf i hi).1
      have hadd : a.add i = ⟨a.block, a.off + i, none⟩ := flat_add a (by rw [ha]) i
      rw [hadd] at h1
      simpa using h1
/-- a chain that a law was handed -/
def ChainZ (W : World) (v : Value) (cs : List (Nat × List Nat)) : Prop := CRow W v cs ∧ cs.length * 32 ≤ 140737488351232 ∧ ∀ c ∈ cs, c.2.length * 4 ≤ 140737488351232
set_option maxRecDepth 100000 in
theorem trod_chain {n : Nat} {v : Value} {y : DataW H × List MemPlace} (hz : (y.1.weights Try.prog 44).all (· ≤ reachBytes) = true) (h : DataW.trod enc Try.prog W base sp held n 44 [v] = some y) : ∃ cs, ChainZ W v cs := by
  rcases open_slice Try.underlying44 h with ⟨hc, hy⟩ | ⟨a, len, cap, m, k, D, Pl, hc, _, hlc, hcm, hm, hy, hx⟩
  · simp only [List.cons.injEq, and_true] at hc
    subst hc
    exact ⟨[], ⟨fun c hc => by simp at hc, none, 0, rfl, Nat.le_refl _, by decide, fun h => by simp at h⟩, by simp, fun c hc => by simp at hc⟩
  · simp only [List.cons.injEq, and_true] at hc
    subst hc
    have hlm : len ≤ m := by rw [hm]; split <;> omega
    obtain ⟨d, pl⟩ := y
    have hd : d = _ := congrArg Prod.fst hy
    subst hd
    rw [DataW.weights, Try.underlying44] at hz
    simp only [List.all_cons, List.all_append, Bool.and_eq_true, decide_eq_true_eq, List.length_map, List.length_range, fbytes_Batch] at hz
    have h2 : reachBytes = 140737488351232 := rfl
    have hw := hz.2.1
    have hzl := hz.1
    have each : ∀ i, i < len → ∃ x : Nat × Value × List Nat, W.cell? (a.add (i * 2)) = some (uN x.1) ∧ W.cell? ((a.add (i * 2)).add 1) = some x.2.1 ∧ x.1 < 4294967296 ∧ NumsZ W x.2.1 x.2.2 := by
      intro i hi
      obtain ⟨cs', h1, h3⟩ := hx i (by omega)
      rw [fcells_Batch] at h1
      obtain ⟨_, hlen, hcell⟩ := World.cells?_some h1
      have hwi := fweightsAll_get 64 i _ (D i) hw (by rw [List.getElem?_map, List.getElem?_range hi]; rfl)
      match cs', hlen with
      | [v0, v1], _ =>
        obtain ⟨z0, z1, n0, hzz, _, g0, g1⟩ := trod_struct2 Try.underlying64 h3
        simp [fcells_u32, fcells_us] at g0 g1
        have hD : D i = _ := congrArg Prod.fst hzz
        rw [hD, DataW.weights, Try.underlying64] at hwi
        have w1 := weights_get 1 _ _ _ _ hwi rfl rfl
        obtain ⟨x, e, _, wx⟩ := DataW.trod_int Try.underlying27 g0
        simp at e
        have hb := wf_u32_bd wx
        obtain ⟨l, hl⟩ := trod_nums w1 g1
        have c0 := hcell 0 (by omega)
        have c1 := hcell 1 (by omega)
        have a0 : (a.add (i * 2)).add 0 = a.add (i * 2) := by simp [Addr.add]
        rw [a0] at c0
        refine ⟨(x.toNat, v1, l), ?_, c1, by show x.toNat < _; omega, hl⟩
        rw [c0]
        show some v0 = some (uN x.toNat)
        rw [e]
        unfold uN
        rw [Int.toNat_of_nonneg hb.1]
    haveI : Inhabited (Nat × Value × List Nat) := ⟨(0, .slice none 0 0, [])⟩
    obtain ⟨f, hf⟩ := choose_lt each
    refine ⟨(List.range len).map (fun i => ((f i).1, (f i).2.2)), ⟨?_, some a, cap, by simp, by simpa using hlc, by simp [maxLen] at hcm; omega, ?_⟩, by simp; omega, ?_⟩
    · intro c hc
      simp at hc
      obtain ⟨i, hi, rfl⟩ := hc
      exact (hf i hi).2.2.1
    · intro hl
      simp at hl
      have h0 := World.cell?_spot (hf 0 hl).1
      have ha : a = ⟨a.block, a.off, none⟩ := by
        cases a with
        | mk b o s => simp [Addr.add] at h0; simp [h0]
      have hblk : a.block < W.heap.size := by
        have := World.block_lt_of_cell? _ _ (hf 0 hl).1
        simpa [Addr.add] using this
      refine ⟨a.block, a.off, by rw [← ha], hblk, fun i hi => ?_⟩
      simp at hi
      obtain ⟨h1, h3, h4, h5⟩ := hf i hi
      have hadd : a.add (i * 2) = ⟨a.block, a.off + i * 2, none⟩ := flat_add a (by rw [ha]) (i * 2)
      rw [hadd] at h1 h3
      rw [flat_add _ rfl 1] at h3
      refine ⟨(f i).2.1, fun j u hu => ?_, ?_⟩
      · match j, hu with
        | 0, hu => simp at hu; subst hu; exact h1
        | 1, hu => simp at hu; subst hu; exact h3
      · simpa using h5.1
    · intro c hc
      simp at hc
      obtain ⟨i, hi, rfl⟩ := hc
      exact (hf i hi).2.2.2.2
def IsNums (W : World) (v : Value) : Prop := ∃ l, NumsZ W v l
def IsChain (W : World) (v : Value) : Prop := ∃ cs, ChainZ W v cs
set_option maxRecDepth 100000 in
theorem view_us_sz {v : Value} {d : DataW H} {p : List MemPlace} (hz : (d.weights Try.prog 28).all (· ≤ reachBytes) = true) (hv : Value.okWide Try.prog W .any b1 28 v) (h : DataW.Trod enc Try.prog W base sp held 28 v d p) : IsNums W v := by
  obtain ⟨a0, len, cap, rfl⟩ := okWide_slice Try.underlying28 hv
  obtain ⟨n, h⟩ := h
  exact trod_nums (y := (d, p)) hz h
set_option maxRecDepth 100000 in
theorem view_chain_sz {v : Value} {d : DataW H} {p : List MemPlace} (hz : (d.weights Try.prog 44).all (· ≤ reachBytes) = true) (hv : Value.okWide Try.prog W .any b1 44 v) (h : DataW.Trod enc Try.prog W base sp held 44 v d p) : IsChain W v := by
  obtain ⟨a0, len, cap, rfl⟩ := okWide_slice Try.underlying44 hv
  obtain ⟨n, h⟩ := h
  exact trod_chain (y := (d, p)) hz h
/-- a need that a law was handed -/
def IsNeed (W : World) (v : Value) : Prop := ∃ chv hv rv cs held rel pages most trees, v = .agg #[chv, .int .u32 (pages : Nat), hv, .int .i64 trees, rv, .int .u32 (most : Nat)] ∧ ChainZ W chv cs ∧ NumsZ W hv held ∧ NumsZ W rv rel ∧ pages < 4294967296 ∧ most < 4294967296 ∧ -9223372036854775808 ≤ trees ∧ trees ≤ 9223372036854775807
set_option maxRecDepth 100000 in
theorem view_need_sz {v : Value} {d : DataW H} {p : List MemPlace} (hz : (d.weights Try.prog 46).all (· ≤ reachBytes) = true) (hv : Value.okWide Try.prog W .any b1 46 v) (h : DataW.Trod enc Try.prog W base sp held 46 v d p) : IsNeed W v := by
  obtain ⟨cs, rfl, hsz⟩ := okWide_struct Try.underlying46 hv
  obtain ⟨n, hf⟩ := h
  obtain ⟨xs, m, _, hxx, hl, hlen, hg⟩ := DataW.trod_struct Try.underlying46 hf
  rw [fcells_Need] at hl
  have hd : d = _ := congrArg Prod.fst hxx
  obtain ⟨cl⟩ := cs
  match cl, hl with
  | [c0, c1, c2, c3, c4, c5], _ =>
    match xs, hlen with
    | [y0, y1, y2, y3, y4, y5], _ =>
      have g0 := hg 0 _ rfl
      have g1 := hg 1 _ rfl
      have g2 := hg 2 _ rfl
      have g3 := hg 3 _ rfl
      have g4 := hg 4 _ rfl
      have g5 := hg 5 _ rfl
      simp [Value.cells, fcells_u32, fcells_us, fcells_bs, fcells_int] at g0 g1 g2 g3 g4 g5
      subst hd
      rw [DataW.weights, Try.underlying46] at hz
      have z0 := weights_get 0 _ _ _ _ hz rfl rfl
      have z2 := weights_get 2 _ _ _ _ hz rfl rfl
      have z4 := weights_get 4 _ _ _ _ hz rfl rfl
      obtain ⟨ch, hch⟩ := trod_chain z0 g0
      obtain ⟨x1, e1, _, w1⟩ := DataW.trod_int Try.underlying27 g1
      obtain ⟨he, hhe⟩ := trod_nums z2 g2
      obtain ⟨x3, e3, _, w3⟩ := DataW.trod_int Try.underlying3 g3
      obtain ⟨re, hre⟩ := trod_nums z4 g4
      obtain ⟨x5, e5, _, w5⟩ := DataW.trod_int Try.underlying27 g5
      simp at e1 e3 e5
      have q1 := wf_u32_bd w1
      have q3 := wf_i64_bd w3
      have q5 := wf_u32_bd w5
      refine ⟨c0, c2, c4, ch, he, re, x1.toNat, x5.toNat, x3, ?_, hch, hhe, hre, by omega, by omega, q3.1, q3.2⟩
      rw [e1, e3, e5, Int.toNat_of_nonneg q1.1, Int.toNat_of_nonneg q5.1]
end
end Go.Proofs.Ytkngmnfgdlnddaa
