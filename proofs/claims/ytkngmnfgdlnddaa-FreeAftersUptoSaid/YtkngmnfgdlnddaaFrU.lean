/-
  Views of numbers, chains and plans by the bulk.
-/
import Derived.Test.YtkngmnfgdlnddaaGH
set_option linter.unusedSimpArgs false
set_option linter.unusedVariables false
namespace Go.Proofs.Ytkngmnfgdlnddaa
open Go.ChangeShapes Go.WideShapes Go.ChangeAt Go.RowKit Go.Joins Go.Deep Hw
open Go.Lib
set_option linter.unusedVariables false
set_option linter.unusedSimpArgs false

theorem bulkAll_get {H : Type} : ∀ (i : Nat) (ds : List (DataW H)) (d : DataW H), Rows.uptoBulkAll ds ≤ 1048576 → ds[i]? = some d → Rows.uptoBulk d ≤ 1048576
  | 0, d' :: ds, d, h, hd => by
    simp only [List.getElem?_cons_zero, Option.some.injEq] at hd
    subst hd
    rw [Rows.uptoBulkAll] at h
    omega
  | i + 1, d' :: ds, d, h, hd => by
    rw [Rows.uptoBulkAll] at h
    exact bulkAll_get i ds d (by omega) (by simpa using hd)
  | _, [], _, _, hd => by simp at hd
theorem bulk_pos {H : Type} : ∀ (d : DataW H), 1 ≤ Rows.uptoBulk d
  | .lit l => by cases l <;> (rw [Rows.uptoBulk]; try omega) <;> simp
  | .nil => by rw [Rows.uptoBulk]; omega
  | .ptr d => by rw [Rows.uptoBulk]; omega
  | .slice a b => by rw [Rows.uptoBulk]; omega
  | .agg p => by rw [Rows.uptoBulk]; omega
  | .iface _ d => by rw [Rows.uptoBulk]; omega
  | .map e => by rw [Rows.uptoBulk]; omega
  | .held _ => by rw [Rows.uptoBulk]; omega
theorem bulk_len {H : Type} : ∀ (ds : List (DataW H)), ds.length ≤ Rows.uptoBulkAll ds
  | [] => Nat.le_refl _
  | d :: r => by
    rw [Rows.uptoBulkAll, List.length_cons]
    have := bulk_pos d
    have := bulk_len r
    omega
theorem small_at {H : Type} (i : Nat) (ds : List (DataW H)) (d : DataW H) (h : Rows.uptoSmall H ds = true) (hd : ds[i]? = some d) : Rows.uptoBulk d ≤ 1048576 :=
  bulkAll_get i ds d (by simpa [Rows.uptoSmall] using h) hd
theorem small_get {H : Type} (i : Nat) (ds : List (DataW H)) (d : DataW H) (h : Rows.uptoSmall H ds = true) (hd : ds[i]? = some d) : Rows.uptoBulk d ≤ 1048576 := small_at i ds d h hd
section
variable {H : Type} {enc : TypeId × Value → H} {W : World} {base : Nat} {sp : Nat → Bool} {b1 : Nat} {held : Bool}
/-- numbers that a law was handed: their length fits a memory -/
def NumsU (W : World) (v : Value) (l : List Nat) : Prop := URow W v l ∧ l.length ≤ 1048576
set_option maxRecDepth 100000 in
theorem trod_numsU {n : Nat} {v : Value} {y : DataW H × List MemPlace} (hz : Rows.uptoBulk y.1 ≤ 1048576) (h : DataW.trod enc Try.prog W base sp held n 28 [v] = some y) : ∃ l, NumsU W v l := by
  rcases open_slice1 Try.underlying28 fcells_u32 h with ⟨hc, _⟩ | ⟨a, len, cap, m, k, V, D, Pl, hc, _, hlc, hcm, hm, hy, hx⟩
  · simp only [List.cons.injEq, and_true] at hc
    subst hc
    exact ⟨[], URow.nil _, by simp⟩
  · simp only [List.cons.injEq, and_true] at hc
    subst hc
    have hlm : len ≤ m := by rw [hm]; split <;> omega
    obtain ⟨d, pl⟩ := y
    have hd : d = _ := congrArg Prod.fst hy
    subst hd
    rw [Rows.uptoBulk] at hz
    have hzl : ((List.range len).map D).length ≤ 1048576 := Nat.le_trans (bulk_len _) (by omega)
    rw [List.length_map, List.length_range] at hzl
    have each : ∀ i, i < len → ∃ x : Nat, W.cell? (a.add i) = some (uN x) ∧ x < 4294967296 := by
      intro i hi
      obtain ⟨h1, h2⟩ := hx i (by omega)
      obtain ⟨x, e, _, wx⟩ := DataW.trod_int Try.underlying27 h2
      simp at e
      have hb := wf_u32_bd wx
      refine ⟨x.toNat, ?_, by omega⟩
      rw [h1, e]
      unfold uN
      rw [Int.toNat_of_nonneg hb.1]
    obtain ⟨f, hf⟩ := choose_lt each
    refine ⟨(List.range len).map f, ⟨?_, some a, cap, by simp, by simpa using hlc, by simp [maxLen] at hcm; omega, ?_⟩, by simp; omega⟩
    · intro x hx
      simp at hx
      obtain ⟨i, hi, rfl⟩ := hx
      exact (hf i hi).2
    · intro hl
      simp at hl
      have h0 := World.cell?_spot (hf 0 hl).1
      have ha : a = ⟨a.block, a.off, none⟩ := by
        cases a with
        | mk b o s => simp [Addr.add] at h0; simp [h0]
      have hblk : a.block < W.heap.size := by
        have := World.block_lt_of_cell? _ _ (hf 0 hl).1
        simpa [Addr.add] using this
      refine ⟨a.block, a.off, by rw [← ha], hblk, fun i hi => ?_⟩
      simp at hi
      have h1 := (hf i hi).1
      have hadd : a.add i = ⟨a.block, a.off + i, none⟩ := flat_add a (by rw [ha]) i
      rw [hadd] at h1
      simpa using h1
/-- a chain that a law was handed -/
def ChainU (W : World) (v : Value) (cs : List (Nat × List Nat)) : Prop := CRow W v cs ∧ cs.length ≤ 1048576 ∧ ∀ c ∈ cs, c.2.length ≤ 1048576
set_option maxRecDepth 100000 in
theorem trod_chainU {n : Nat} {v : Value} {y : DataW H × List MemPlace} (hz : Rows.uptoBulk y.1 ≤ 1048576) (h : DataW.trod enc Try.prog W base sp held n 44 [v] = some y) : ∃ cs, ChainU W v cs := by
  rcases open_slice Try.underlying44 h with ⟨hc, hy⟩ | ⟨a, len, cap, m, k, D, Pl, hc, _, hlc, hcm, hm, hy, hx⟩
  · simp only [List.cons.injEq, and_true] at hc
    subst hc
    exact ⟨[], ⟨fun c hc => by simp at hc, none, 0, rfl, Nat.le_refl _, by decide, fun h => by simp at h⟩, by simp, fun c hc => by simp at hc⟩
  · simp only [List.cons.injEq, and_true] at hc
    subst hc
    have hlm : len ≤ m := by rw [hm]; split <;> omega
    obtain ⟨d, pl⟩ := y
    have hd : d = _ := congrArg Prod.fst hy
    subst hd
    rw [Rows.uptoBulk] at hz
    have hzl : ((List.range len).map D).length ≤ 1048576 := Nat.le_trans (bulk_len _) (by omega)
    have hw : Rows.uptoBulkAll ((List.range len).map D) ≤ 1048576 := by omega
    rw [List.length_map, List.length_range] at hzl
    have each : ∀ i, i < len → ∃ x : Nat × Value × List Nat, W.cell? (a.add (i * 2)) = some (uN x.1) ∧ W.cell? ((a.add (i * 2)).add 1) = some x.2.1 ∧ x.1 < 4294967296 ∧ NumsU W x.2.1 x.2.2 := by
      intro i hi
      obtain ⟨cs', h1, h3⟩ := hx i (by omega)
      rw [fcells_Batch] at h1
      obtain ⟨_, hlen, hcell⟩ := World.cells?_some h1
      have hwi := bulkAll_get i _ (D i) hw (by rw [List.getElem?_map, List.getElem?_range hi]; rfl)
      match cs', hlen with
      | [v0, v1], _ =>
        obtain ⟨z0, z1, n0, hzz, _, g0, g1⟩ := trod_struct2 Try.underlying64 h3
        simp [fcells_u32, fcells_us] at g0 g1
        have hD : D i = _ := congrArg Prod.fst hzz
        rw [hD, Rows.uptoBulk] at hwi
        have w1 := bulkAll_get 1 _ _ (Nat.le_trans (Nat.le_succ _) hwi) rfl
        obtain ⟨x, e, _, wx⟩ := DataW.trod_int Try.underlying27 g0
        simp at e
        have hb := wf_u32_bd wx
        obtain ⟨l, hl⟩ := trod_numsU w1 g1
        have c0 := hcell 0 (by omega)
        have c1 := hcell 1 (by omega)
        have a0 : (a.add (i * 2)).add 0 = a.add (i * 2) := by simp [Addr.add]
        rw [a0] at c0
        refine ⟨(x.toNat, v1, l), ?_, c1, by show x.toNat < _; omega, hl⟩
        rw [c0]
        show some v0 = some (uN x.toNat)
        rw [e]
        unfold uN
        rw [Int.toNat_of_nonneg hb.1]
    haveI : Inhabited (Nat × Value × List Nat) := ⟨(0, .slice none 0 0, [])⟩
    obtain ⟨f, hf⟩ := choose_lt each
    refine ⟨(List.range len).map (fun i => ((f i).1, (f i).2.2)), ⟨?_, some a, cap, by simp, by simpa using hlc, by simp [maxLen] at hcm; omega, ?_⟩, by simp; omega, ?_⟩
    · intro c hc
      simp at hc
      obtain ⟨i, hi, rfl⟩ := hc
      exact (hf i hi).2.2.1
    · intro hl
      simp at hl
      have h0 := World.cell?_spot (hf 0 hl).1
      have ha : a = ⟨a.block, a.off, none⟩ := by
        cases a with
        | mk b o s => simp [Addr.add] at h0; simp [h0]
      have hblk : a.block < W.heap.size := by
        have := World.block_lt_of_cell? _ _ (hf 0 hl).1
        simpa [Addr.add] using this
      refine ⟨a.block, a.off, by rw [← ha], hblk, fun i hi => ?_⟩
      simp at hi
      obtain ⟨h1, h3, h4, h5⟩ := hf i hi
      have hadd : a.add (i * 2) = ⟨a.block, a.off + i * 2, none⟩ := flat_add a (by rw [ha]) (i * 2)
      rw [hadd] at h1 h3
      rw [flat_add _ rfl 1] at h3
      refine ⟨(f i).2.1, fun j u hu => ?_, ?_⟩
      · match j, hu with
        | 0, hu => simp at hu; subst hu; exact h1
        | 1, hu => simp at hu; subst hu; exact h3
      · simpa using h5.1
    · intro c hc
      simp at hc
      obtain ⟨i, hi, rfl⟩ := hc
      exact (hf i hi).2.2.2.2
def IsNumsU (W : World) (v : Value) : Prop := ∃ l, NumsU W v l
def IsChainU (W : World) (v : Value) : Prop := ∃ cs, ChainU W v cs
/-- a plan that a law was handed -/
def IsPlanU (W : World) (v : Value) : Prop := ∃ tv lv ts ls op pg, v = .agg #[tv, lv, .int .i64 op, .int .u32 ((pg : Nat) : Int)] ∧ NumsU W tv ts ∧ ChainU W lv ls ∧ pg < 4294967296 ∧ -9223372036854775808 ≤ op ∧ op ≤ 9223372036854775807
set_option maxRecDepth 100000 in
theorem view_chain_up {v : Value} {d : DataW H} {p : List MemPlace} (hz : Rows.uptoBulk d ≤ 1048576) (hv : Value.okWide Try.prog W .any b1 44 v) (h : DataW.Trod enc Try.prog W base sp held 44 v d p) : IsChainU W v := by
  obtain ⟨a0, len, cap, rfl⟩ := okWide_slice Try.underlying44 hv
  obtain ⟨n, h⟩ := h
  exact trod_chainU (y := (d, p)) hz h
theorem fcells_Plan : Try.prog.cellsOf 48 = 4 := by kernel_rfl
set_option maxRecDepth 100000 in
theorem view_plan_up {v : Value} {d : DataW H} {p : List MemPlace} (hz : Rows.uptoBulk d ≤ 1048576) (hv : Value.okWide Try.prog W .any b1 48 v) (h : DataW.Trod enc Try.prog W base sp held 48 v d p) : IsPlanU W v := by
  obtain ⟨cs, rfl, hsz⟩ := okWide_struct Try.underlying48 hv
  obtain ⟨n, hf⟩ := h
  obtain ⟨xs, m, _, hxx, hl, hlen, hg⟩ := DataW.trod_struct Try.underlying48 hf
  rw [fcells_Plan] at hl
  have hd : d = _ := congrArg Prod.fst hxx
  obtain ⟨cl⟩ := cs
  match cl, hl with
  | [c0, c1, c2, c3], _ =>
    match xs, hlen with
    | [y0, y1, y2, y3], _ =>
      have g0 := hg 0 _ rfl
      have g1 := hg 1 _ rfl
      have g2 := hg 2 _ rfl
      have g3 := hg 3 _ rfl
      simp [Value.cells, fcells_u32, fcells_us, fcells_bs, fcells_int] at g0 g1 g2 g3
      subst hd
      rw [Rows.uptoBulk] at hz
      have z0 := bulkAll_get 0 _ _ (Nat.le_trans (Nat.le_succ _) hz) rfl
      have z1 := bulkAll_get 1 _ _ (Nat.le_trans (Nat.le_succ _) hz) rfl
      obtain ⟨ts, hts⟩ := trod_numsU z0 g0
      obtain ⟨ls, hls⟩ := trod_chainU z1 g1
      obtain ⟨x2, e2, _, w2⟩ := DataW.trod_int Try.underlying3 g2
      obtain ⟨x3, e3, _, w3⟩ := DataW.trod_int Try.underlying27 g3
      simp at e2 e3
      have q2 := wf_i64_bd w2
      have q3 := wf_u32_bd w3
      refine ⟨c0, c1, ts, ls, x2, x3.toNat, ?_, hts, hls, by omega, q2.1, q2.2⟩
      rw [e2, e3, Int.toNat_of_nonneg q3.1]
end
end Go.Proofs.Ytkngmnfgdlnddaa

