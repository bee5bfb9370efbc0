/-
  Views of a Book and of two numbers. The walk of FreeReads.
-/
import Derived.Test.YtkngmnfgdlnddaaGH
import Derived.Test.YtkngmnfgdlnddaaGU
import Derived.Test.YtkngmnfgdlnddaaGV
import Derived.Test.YtkngmnfgdlnddaaChkW
import Derived.Test.YtkngmnfgdlnddaaGR
set_option linter.unusedSimpArgs false
set_option linter.unusedVariables false
namespace Go.Proofs.Ytkngmnfgdlnddaa
open Go.ChangeShapes Go.WideShapes Go.ChangeAt Go.RowKit Go.Joins Go.Deep Hw
open Go.Lib
set_option linter.unusedVariables false
set_option linter.unusedSimpArgs false
section
variable {H : Type} {enc : TypeId × Value → H} {W : World} {base : Nat} {sp : Nat → Bool} {b1 : Nat} {held : Bool}
theorem fcells_Pg : Try.prog.cellsOf 97 = 4 := by kernel_rfl
theorem fcells_kind : Try.prog.cellsOf 95 = 1 := by kernel_rfl
theorem fcells_u64 : Try.prog.cellsOf 92 = 1 := by kernel_rfl
theorem fcells_str : Try.prog.cellsOf 9 = 1 := by kernel_rfl
theorem fcells_pgs : Try.prog.cellsOf 82 = 1 := by kernel_rfl
theorem fcells_errno : Try.prog.cellsOf 32 = 1 := by kernel_rfl
theorem fcells_two : Try.prog.cellsOf 85 = 2 := by kernel_rfl
theorem str_small {d : DataW H} {s : ByteArray} (hd : d = .lit (.string s.data.toList)) (hz : (d.weights Try.prog 9).all (· ≤ reachBytes) = true) : s.size ≤ 140737488351232 := by
  subst hd
  have hz' : s.data.toList.length ≤ reachBytes := by
    rw [DataW.weights] at hz
    simpa only [List.all_cons, List.all_nil, Bool.and_true, decide_eq_true_eq] using hz
  rw [Array.length_toList] at hz'
  have h1 : s.data.size = s.size := rfl
  have h2 : reachBytes = 140737488351232 := rfl
  omega
set_option maxRecDepth 100000 in
theorem trod_pgs {n : Nat} {v : Value} {y : DataW H × List MemPlace} (hz : (y.1.weights Try.prog 82).all (· ≤ reachBytes) = true) (h : DataW.trod enc Try.prog W base sp held n 82 [v] = some y) : ∃ ps : List Pg, PRow W v ps ∧ PgOk ps := by
  rcases open_slice Try.underlying82 h with ⟨hc, hy⟩ | ⟨a, len, cap, m, k, D, Pl, hc, _, hlc, hcm, hm, hy, hx⟩
  · simp only [List.cons.injEq, and_true] at hc
    subst hc
    exact ⟨[], ⟨by simp [pgs], none, 0, rfl, by decide, fun h => by simp at h⟩, fun p hp => by simp at hp⟩
  · simp only [List.cons.injEq, and_true] at hc
    subst hc
    have hlm : len ≤ m := by rw [hm]; split <;> omega
    obtain ⟨d, pl⟩ := y
    have hd : d = _ := congrArg Prod.fst hy
    subst hd
    rw [DataW.weights, Try.underlying82] at hz
    simp only [List.all_cons, List.all_append, Bool.and_eq_true, decide_eq_true_eq, List.length_map, List.length_range] at hz
    have hw := hz.2.1
    have each : ∀ i, i < len → ∃ x : Pg, W.cell? (a.add (i * 4)) = some (.int .u8 (x.kind : Int)) ∧ W.cell? ((a.add (i * 4)).add 1) = some (.int .u32 (x.no : Int)) ∧ W.cell? ((a.add (i * 4)).add 2) = some (.int .u64 (x.ver : Int)) ∧ W.cell? ((a.add (i * 4)).add 3) = some (.string x.body) ∧ x.no < 4294967296 ∧ x.body.size ≤ 140737488351232 ∧ x.kind < 256 := by
      intro i hi
      obtain ⟨cs', h1, h2⟩ := hx i (by omega)
      rw [fcells_Pg] at h1
      obtain ⟨_, hlen, hcell⟩ := World.cells?_some h1
      have hwi := fweightsAll_get 97 i _ (D i) hw (by rw [List.getElem?_map, List.getElem?_range hi]; rfl)
      match cs', hlen with
      | [v0, v1, v2, v3], _ =>
        obtain ⟨y0, y1, y2, y3, n', hxx, _, g0, g1, g2, g3⟩ := trod_struct4 Try.underlying97 h2
        simp [fcells_kind, fcells_u32, fcells_u64, fcells_str] at g0 g1 g2 g3
        have hD : D i = _ := congrArg Prod.fst hxx
        rw [hD, DataW.weights, Try.underlying97] at hwi
        have w3' := weights_get 3 _ _ _ _ hwi rfl rfl
        obtain ⟨x0, e0, _, w0⟩ := DataW.trod_int Try.underlying95 g0
        obtain ⟨x1, e1, _, w1⟩ := DataW.trod_int Try.underlying27 g1
        obtain ⟨x2, e2, _, w2⟩ := DataW.trod_int Try.underlying92 g2
        obtain ⟨x3, e3, e3', w3⟩ := DataW.trod_string Try.underlying9 g3
        have hs3 := str_small (s := x3) (congrArg Prod.fst e3') w3'
        simp at e0 e1 e2 e3
        subst e0 e1 e2 e3
        have c0 := hcell 0 (by omega)
        have c1 := hcell 1 (by omega)
        have c2 := hcell 2 (by omega)
        have c3 := hcell 3 (by omega)
        have a0 : (a.add (i * 4)).add 0 = a.add (i * 4) := by simp [Addr.add]
        rw [a0] at c0
        have q0 := wf_u8_bd w0
        have q1 := wf_u32_bd w1
        have q2 := wf_u64_bd w2
        refine ⟨⟨x0.toNat, x1.toNat, x2.toNat, x3⟩, ?_, ?_, ?_, c3, by show x1.toNat < _; omega, hs3, by show x0.toNat < _; omega⟩
        · rw [c0]; show some (Value.int .u8 x0) = some (Value.int .u8 (x0.toNat : Int)); rw [Int.toNat_of_nonneg q0.1]
        · rw [c1]; show some (Value.int .u32 x1) = some (Value.int .u32 (x1.toNat : Int)); rw [Int.toNat_of_nonneg q1.1]
        · rw [c2]; show some (Value.int .u64 x2) = some (Value.int .u64 (x2.toNat : Int)); rw [Int.toNat_of_nonneg q2.1]
    haveI : Inhabited Pg := ⟨Pg.zero⟩
    obtain ⟨f, hf⟩ := choose_lt each
    refine ⟨(List.range len).map f, ⟨by rw [pgs_len], some a, cap, by simp, by simp [maxLen] at hcm; simp; omega, ?_⟩, ?_⟩
    · intro hl
      simp at hl
      have h0 := World.cell?_spot (hf 0 hl).1
      have ha : a = ⟨a.block, a.off, none⟩ := by
        cases a with
        | mk b o s => simp [Addr.add] at h0; simp [h0]
      have hblk : a.block < W.heap.size := by
        have := World.block_lt_of_cell? _ _ (hf 0 hl).1
        simpa [Addr.add] using this
      refine ⟨a.block, a.off, by rw [← ha], hblk, fun q hq => ?_⟩
      rw [pgs_len] at hq
      simp at hq
      have hi : q / 4 < len := by omega
      obtain ⟨h1, h2, h3, h4, _⟩ := hf (q / 4) hi
      have hadd : a.add (q / 4 * 4) = ⟨a.block, a.off + q / 4 * 4, none⟩ := flat_add a (by rw [ha]) _
      rw [hadd] at h1 h2 h3 h4
      rw [flat_add _ rfl 1] at h2
      rw [flat_add _ rfl 2] at h3
      rw [flat_add _ rfl 3] at h4
      have hat : ∀ j u, (f (q / 4)).cells[j]? = some u → q = q / 4 * 4 + j → (pgs ((List.range len).map f))[q]? = some u := fun j u hu e => by
        have h := pgs_at ((List.range len).map f) (q / 4) j (by simpa using hi) u (by simpa using hu)
        rw [← e] at h
        exact h
      have hlt : q < (pgs ((List.range len).map f)).length := by rw [pgs_len]; simpa using hq
      have fin : ∀ u, (pgs ((List.range len).map f))[q]? = some u → (pgs ((List.range len).map f))[q] = u := fun u hu => by
        rw [List.getElem?_eq_getElem hlt] at hu
        exact Option.some.inj hu
      have hq4 : q % 4 = 0 ∨ q % 4 = 1 ∨ q % 4 = 2 ∨ q % 4 = 3 := by omega
      rcases hq4 with h5 | h5 | h5 | h5
      · rw [fin _ (hat 0 _ rfl (by omega)), ← h1, show a.off + q = a.off + q / 4 * 4 by omega]
      · rw [fin _ (hat 1 _ rfl (by omega)), ← h2, show a.off + q = a.off + q / 4 * 4 + 1 by omega]
      · rw [fin _ (hat 2 _ rfl (by omega)), ← h3, show a.off + q = a.off + q / 4 * 4 + 2 by omega]
      · rw [fin _ (hat 3 _ rfl (by omega)), ← h4, show a.off + q = a.off + q / 4 * 4 + 3 by omega]
    · intro x hx
      simp at hx
      obtain ⟨i, hi, rfl⟩ := hx
      exact ⟨(hf i hi).2.2.2.2.1, (hf i hi).2.2.2.2.2.1, (hf i hi).2.2.2.2.2.2⟩
def IsBook (W : World) (v : Value) : Prop := ∃ lv ps err, v = .agg #[lv, .int .i64 err] ∧ PRow W lv ps ∧ PgOk ps
def IsTwo32 (v : Value) : Prop := ∃ x y : Nat, v = .agg #[.int .u32 (x : Int), .int .u32 (y : Int)] ∧ x < 4294967296 ∧ y < 4294967296
set_option maxRecDepth 100000 in
theorem view_book_sz {v : Value} {d : DataW H} {p : List MemPlace} (hz : (d.weights Try.prog 84).all (· ≤ reachBytes) = true) (hv : Value.okWide Try.prog W .any b1 84 v) (h : DataW.Trod enc Try.prog W base sp held 84 v d p) : IsBook W v := by
  obtain ⟨cs, rfl, hsz⟩ := okWide_struct Try.underlying84 hv
  obtain ⟨n, hf⟩ := h
  obtain ⟨cl⟩ := cs
  match cl, hsz with
  | [c0, c1], _ =>
    obtain ⟨y0, y1, m, hxx, _, g0, g1⟩ := trod_struct2 Try.underlying84 hf
    simp [Value.cells, fcells_pgs, fcells_errno] at g0 g1
    have hd : d = _ := congrArg Prod.fst hxx
    subst hd
    rw [DataW.weights, Try.underlying84] at hz
    have z0 := weights_get 0 _ _ _ _ hz rfl rfl
    obtain ⟨ps, hp1, hp2⟩ := trod_pgs z0 g0
    obtain ⟨x1, e1, _, w1⟩ := DataW.trod_int Try.underlying32 g1
    simp at e1
    subst e1
    exact ⟨c0, ps, x1, rfl, hp1, hp2⟩
set_option maxRecDepth 100000 in
theorem okWide_rowF {v : Value} {n e : Nat} {t : TypeId} (ht : Try.prog.underlying t = some (.array n e)) (hv : Value.okWide Try.prog W .any b1 t v) : ∃ cs, v = .agg cs ∧ cs.size = Try.prog.cellsOf t := by
  simp only [Value.okWide, ht] at hv
  obtain ⟨cs, h1, h2, _⟩ := hv
  exact ⟨cs, h1, h2⟩
set_option maxRecDepth 100000 in
theorem view_two32 {v : Value} {d : DataW H} {p : List MemPlace} (hv : Value.okWide Try.prog W .any b1 85 v) (h : DataW.Trod enc Try.prog W base sp held 85 v d p) : IsTwo32 v := by
  obtain ⟨cs, rfl, hsz⟩ := okWide_rowF Try.underlying85 hv
  obtain ⟨n, hf⟩ := h
  obtain ⟨xs, m, _, _, hl, hx, hg⟩ := DataW.trod_array Try.underlying85 hf
  rw [fcells_two] at hl
  obtain ⟨cl⟩ := cs
  match cl, hl with
  | [c0, c1], _ =>
    have g0 := hg 0 (by decide)
    have g1 := hg 1 (by decide)
    rw [List.getElem?_eq_getElem (by omega : 0 < xs.length)] at g0
    rw [List.getElem?_eq_getElem (by omega : 1 < xs.length)] at g1
    obtain ⟨x0, e0, _, w0⟩ := DataW.trod_int Try.underlying27 g0
    obtain ⟨x1, e1, _, w1⟩ := DataW.trod_int Try.underlying27 g1
    rw [fcells_u32] at e0 e1
    have f0 : c0 = .int .u32 x0 := by simpa [Value.cells] using e0
    have f1 : c1 = .int .u32 x1 := by simpa [Value.cells] using e1
    have q0 := wf_u32_bd w0
    have q1 := wf_u32_bd w1
    refine ⟨x0.toNat, x1.toNat, ?_, by omega, by omega⟩
    rw [f0, f1, Int.toNat_of_nonneg q0.1, Int.toNat_of_nonneg q1.1]
end
end Go.Proofs.Ytkngmnfgdlnddaa

namespace Go.Proofs.Ytkngmnfgdlnddaa
open Go.RowKit Go.Lib Hw Go.Maps
set_option linter.unusedSimpArgs false
set_option linter.unusedVariables false

def rk (r : Int ⊕ List (Nat × List Nat)) : Int := match r with | .inl k => k | .inr _ => 0
def rc (r : Int ⊕ List (Nat × List Nat)) : List (Nat × List Nat) := match r with | .inl _ => [] | .inr cs => cs
def RdU (k : Int) (cs : List (Nat × List Nat)) (w : World) (e : Ending) (w' : World) : Prop := ∃ v bs, e = .returned (.tuple #[v, .int .i64 k]) ∧ OwnC w' w.heap.size v bs ∧ Dealt w' w.heap.size v bs cs ∧ Below w.heap.size w w'
theorem ReadPost.uni {r : Int ⊕ List (Nat × List Nat)} {w : World} {e : Ending} {w' : World} (h : ReadPost r w e w') : RdU (rk r) (rc r) w e w' := by
  obtain ⟨hb, h⟩ := h
  cases r with
  | inl k => exact ⟨_, [], h, OwnC.nil _ _, Dealt.nil _ _ _, hb⟩
  | inr cs =>
    obtain ⟨v, bs, h1, h2, h3⟩ := h
    exact ⟨v, bs, h1, h2, h3, hb⟩
theorem readG_err (a b : Int) (ps : List Pg) (err : Int) (count : Nat) : ∀ (f no : Nat) (acc : List (Nat × List Nat)), readG a b ps err count f no acc = match readG a b ps (-1) count f no acc with | .inl k => if k = -1 then .inl err else .inl k | .inr cs => .inr cs
  | 0, no, acc => rfl
  | f + 1, no, acc => by
    rw [readG, readG]
    by_cases h0 : no = 0
    · rw [if_pos h0, if_pos h0]
    · rw [if_neg h0, if_neg h0]
      cases findP ps no with
      | none => rfl
      | some p =>
        dsimp only
        by_cases h1 : p.kind = 3
        · rw [if_pos h1, if_pos h1]
          by_cases h2 : fromB a b p.body = true
          · rw [if_pos h2, if_pos h2]
            by_cases h3 : chkI a b (acc ++ [(no, numsOf p.body (cntOf p.body))]) count = 0
            · rw [if_pos h3, if_pos h3]
              exact readG_err a b ps err count f _ _
            · rw [if_neg h3, if_neg h3]; rfl
          · rw [if_neg h2, if_neg h2]; rfl
        · rw [if_neg h1, if_neg h1]; rfl
theorem readG_chk (a b : Int) (ps : List Pg) (err : Int) (count : Nat) : ∀ (f no : Nat) (acc cs : List (Nat × List Nat)), (acc = [] ∨ chkI a b acc count = 0) → readG a b ps err count f no acc = .inr cs → cs = [] ∨ chkI a b cs count = 0
  | 0, no, acc, cs, _, h => by rw [readG] at h; cases h
  | f + 1, no, acc, cs, hA, h => by
    rw [readG] at h
    by_cases h0 : no = 0
    · rw [if_pos h0] at h; cases h; exact hA
    · rw [if_neg h0] at h
      cases hp : findP ps no with
      | none => rw [hp] at h; cases h
      | some p =>
        rw [hp] at h
        dsimp only at h
        by_cases h1 : p.kind = 3
        · rw [if_pos h1] at h
          by_cases h2 : fromB a b p.body = true
          · rw [if_pos h2] at h
            by_cases h3 : chkI a b (acc ++ [(no, numsOf p.body (cntOf p.body))]) count = 0
            · rw [if_pos h3] at h
              exact readG_chk a b ps err count f _ _ cs (.inr h3) h
            · rw [if_neg h3] at h; cases h
          · rw [if_neg h2] at h; cases h
        · rw [if_neg h1] at h; cases h
theorem rc_small {a b : Int} {ps : List Pg} {err : Int} {count first : Nat} {r : Int ⊕ List (Nat × List Nat)} (h : readG a b ps err count 65538 first [] = r) : (rc r).length ≤ 65536 ∧ ∀ c ∈ rc r, c.2.length ≤ 65536 ∧ c.1 < 4294967296 ∧ All4 c.2 := by
  cases r with
  | inl k => exact ⟨by simp [rc], fun c hc => by simp [rc] at hc⟩
  | inr cs =>
    rcases readG_chk a b ps err count _ _ _ cs (.inl rfl) h with h1 | h1
    · subst h1; exact ⟨by simp [rc], fun c hc => by simp [rc] at hc⟩
    · exact chk_len h1
theorem Dealt.modlow {w w' : World} {N : Nat} {S : Nat → Prop} {lv : Value} {bs : List (Nat × Value)} {cs : List (Nat × List Nat)} (h : Dealt w N lv bs cs) (m : Mod S w w') (hS : ∀ q, S q → q < N) : Dealt w' N lv bs cs := by
  obtain ⟨h0, h1, h2⟩ := h
  exact ⟨h0, fun i hi => ⟨(h1 i hi).1, (h1 i hi).2.1.mod m (fun q hq hs => by have := hS q hs; have := ((h1 i hi).2.1.lt q hq).1; omega), (h1 i hi).2.2⟩, h2⟩
/-- what Read and the reference's Read tell, set side by side -/
theorem read_sides {a b : Int} {ps : List Pg} {err : Int} {first count : Nat} :
    (chkI a b [] count ≠ 0 ∧ readF a b ps err first count = .inl 2) ∨
    (chkI a b [] count = 0 ∧ mayB a b = true ∧ 2 ≤ count ∧ count ≤ 65536 ∧ ∃ r, readG a b ps (-1) count 65538 first [] = r ∧ ((r = .inl (-1) ∧ readF a b ps err first count = .inl err) ∨ (rk r ≠ -1 ∧ readF a b ps err first count = r))) := by
  unfold readF chkI
  cases hm : mayB a b with
  | false => exact .inl ⟨by simp, by simp⟩
  | true =>
    by_cases h2 : 2 ≤ count
    · by_cases h3 : count ≤ 65536
      · refine .inr ⟨by simp [h2, h3, seenGo], rfl, h2, h3, _, rfl, ?_⟩
        rw [if_pos (by simp [h2, h3])]
        have he := readG_err a b ps err count 65538 first []
        cases hr : readG a b ps (-1) count 65538 first [] with
        | inl k =>
          rw [hr] at he
          by_cases hk : k = -1
          · subst hk; exact .inl ⟨rfl, by rw [he]; rfl⟩
          · exact .inr ⟨hk, by rw [he]; dsimp only; rw [if_neg hk]⟩
        | inr cs =>
          rw [hr] at he
          exact .inr ⟨by show (0 : Int) ≠ -1; decide, he⟩
      · exact .inl ⟨by simp [h3], by simp [h3]⟩
    · exact .inl ⟨by simp [h2], by simp [h2]⟩
set_option maxRecDepth 5000 in
set_option maxHeartbeats 16000000 in
theorem FreeReads_walk (v bv tv : Value) (w : World) (hv : IsFrame v) (hbk : IsBook w bv) (ht : IsTwo32 tv) : Calls Try.prog 16 #[v, bv, tv] w fun e w' => e = .returned (.bool true) ∧ Below w.heap.size w w' := by
  obtain ⟨a, b, rfl, ha, hb⟩ := hv
  obtain ⟨lv, ps, err0, rfl, hpr, hpo⟩ := hbk
  obtain ⟨first, count, rfl, hf, hc⟩ := ht
  obtain ⟨lad, lc, hlv, hx1⟩ := ReadR.form hpr
  subst hlv
  have HPR := Lib.hid hpr
  have HPO := Lib.hid hpo
  obtain ⟨nl, hnl⟩ : ∃ k, ps.length = k := ⟨_, rfl⟩
  rw [hnl] at HPR ⊢
  obtain ⟨N, hN⟩ : ∃ N, w.heap.size = N := ⟨_, rfl⟩
  have HN := Lib.hid hN
  rw [hN]
  clear hN ha hb hpr hpo hx1 hnl
  go_enter Try.func16, Try.ntmps16
  go_upto_region 0 with fail
  with_reducible refine wp_region_list ?_
  refine wpList_boxB rfl _ _ rfl N HN.out #[.int .i64 a, .int .i64 b] rfl ?_
  intro w1 e1 b1 z1
  (try simp only [Act.put, nA, nB, nC])
  refine wpList_boxB rfl _ _ rfl (N + 1) z1 #[.slice lad nl lc, .int .i64 err0] rfl ?_
  intro w2 e2 b2 z2
  (try simp only [Act.put, nA, nB, nC])
  refine wpList_boxB rfl _ _ rfl (N + 2) z2 #[.int .u32 (first : Int), .int .u32 (count : Int)] rfl ?_
  intro w3 e3 b3 z3
  (try simp only [Act.put, nA, nB, nC])
  (with_reducible refine wpList_plain rfl ?_); intro K hK; go_simp; (with_reducible refine hK _ _ ?_); clear hK K; try simp only [Act.put, nA, nB, nC]
  have B3 : Hid (Below N w w3) := b1.trans ((b2.mono (by omega)).trans (b3.mono (by omega)))
  have F3 := Lib.hid (heap_below (heap_below e1 b2 (by omega)) b3 (by omega))
  have K3 := Lib.hid (heap_below e2 b3 (by omega))
  have T3 := Lib.hid e3
  have hz3 : N + 2 < w3.heap.size := by omega
  have c1 := heap_cell K3.out (o := 1)
  clear e1 b1 z1 e2 b2 z2 e3 b3 z3
  by_cases h0 : err0 = 0
  case' pos =>
    have y0 : (err0 == 0) = true := by simp [h0]
    have g1 := heap_free K3.out 1
    clear h0
    go_upto_region 3 with fail
    obtain ⟨w4, hw4⟩ : ∃ W, w3.setCell ⟨N + 1, 1, none⟩ (.int .i64 7) = W := ⟨_, rfl⟩
    have m4 : Mod (fun k => k = N + 1) w3 w4 := by rw [← hw4]; exact Mod.set (S := fun k => k = N + 1) _ rfl _
    have B4 : Hid (Below N w w4) := B3.out.trans (m4.below (n := N) (fun q hq hs => by omega) (by omega))
    have F4 := Lib.hid (m4.heap F3.out (by omega))
    have T4 := Lib.hid (m4.heap T3.out (by omega))
    have K4 : Hid (w4.heap[N + 1]? = some (.cells #[.slice lad nl lc, .int .i64 7] 84 (0, 0))) := by
      show _ = _
      rw [← hw4]
      exact heap_set K3.out _
    obtain ⟨err, herr, he0⟩ : ∃ err : Int, (7 : Int) = err ∧ err ≠ 0 := ⟨7, rfl, by decide⟩
    rw [herr] at K4
    rw [hw4]
    clear hw4 m4 c1 g1 y0 herr B3 F3 K3 T3
  case' neg =>
    have y0 : (err0 == 0) = false := by simp [h0]
    go_upto_region 3 with fail
    obtain ⟨w4, hw4⟩ : ∃ W, W = w3 := ⟨_, rfl⟩
    subst hw4
    obtain ⟨err, herr, he0⟩ : ∃ err : Int, err0 = err ∧ err ≠ 0 := ⟨err0, rfl, h0⟩
    rw [herr] at K3
    have B4 := B3
    have F4 := F3
    have T4 := T3
    have K4 := K3
    clear c1 y0 h0 herr B3 F3 K3 T3
  all_goals
    have hz4 : N + 2 < w4.heap.size := heap_lt T4.out
    have t0 := heap_cell T4.out (o := 0)
    have t1 := heap_cell T4.out (o := 1)
    obtain ⟨F, hF⟩ : ∃ F, readF a b ps err first count = F := ⟨_, rfl⟩
    have HRd : Hid (∀ W, Below w4.heap.size w4 W → Calls Try.prog 47 #[.agg #[.int .i64 a, .int .i64 b], .iface 88 (.pointer (some ⟨N + 1, 0, none⟩)), .int .u32 (first : Int), .int .u32 (count : Int)] W (RdU (rk F) (rc F) W)) := fun W hW => by
      have h := RdBook_any a b (N + 1) (.slice lad nl lc) ps err first count W (heap_below K4.out hW (by omega)) (PRow.below HPR.out (by rw [HN.out]; exact B4.out.trans (hW.mono (by omega)))) HPO he0 hf hc
      rw [hF] at h
      exact h.mono (fun e w' hp => hp.uni)
    have HSides : Hid ((chkI a b [] count ≠ 0 ∧ F = .inl 2) ∨ (chkI a b [] count = 0 ∧ mayB a b = true ∧ 2 ≤ count ∧ count ≤ 65536 ∧ ∃ r, readG a b ps (-1) count 65538 first [] = r ∧ ((r = .inl (-1) ∧ F = .inl err) ∨ (rk r ≠ -1 ∧ F = r)))) := by
      have h := read_sides (a := a) (b := b) (ps := ps) (err := err) (first := first) (count := count)
      rw [hF] at h
      exact h
    obtain ⟨ek, hek⟩ : ∃ k, rk F = k := ⟨_, rfl⟩
    obtain ⟨ec, hec⟩ : ∃ k, rc F = k := ⟨_, rfl⟩
    have HEK := Lib.hid hek
    have HEC := Lib.hid hec
    rw [hek, hec] at HRd
    clear hF hek hec
    go_upto_region 3 with fail
    refine wp_region_held_drew (S := fun W => W.cell? ⟨N + 2, 0, none⟩ = some (.int .u32 (first : Int)) ∧ W.cell? ⟨N + 2, 1, none⟩ = some (.int .u32 (count : Int))) (by kernel_rfl) ⟨t0, t1⟩ (fun hHeld => ?_)
    refine' wpAnyH_take (i := 0) (oi := ⟨some 23, .indexAddr 85 (.tmp 5) (.const (.int .i64 0)), 0, "law.go:149", #[], none⟩) rfl (by kernel_rfl) (by kernel_rfl) (by kernel_rfl) (fun _ _ _ h => h) (Or.inl ⟨by rfl, _⟩) (by assumption) _
    rotate_left
    · (intro wS hSw; (try dsimp only at hSw); go_simp; try with_reducible rfl)
    try simp only [Act.put, nA, nB, nC]
    refine' wpAnyH_take (i := 1) (oi := ⟨some 24, .load 27 (.tmp 23), 27, "law.go:149", #[⟨0, .data⟩], none⟩) rfl (by kernel_rfl) (by kernel_rfl) (by kernel_rfl) (fun _ _ _ h => h) (Or.inl ⟨by rfl, _⟩) (by assumption) _
    rotate_left
    · (intro wS hSw; (try dsimp only at hSw); go_simp; try with_reducible rfl)
    try simp only [Act.put, nA, nB, nC]
    refine' wpAnyH_take (i := 2) (oi := { dst := Option.some 25, op := Op.indexAddr 85 (Operand.tmp 5) (Operand.const (Value.int IntKind.i64 1)), type := 0, pos := "law.go:149", after := #[{ on := 4, ground := Ground.gcOnly Departure.lateStores }], guard := Option.none }) rfl (by kernel_rfl) (by kernel_rfl) (by kernel_rfl) (fun _ _ _ h => h) (Or.inl ⟨by rfl, _⟩) (by assumption) _
    rotate_left
    · (intro wS hSw; (try dsimp only at hSw); go_simp; try with_reducible rfl)
    try simp only [Act.put, nA, nB, nC]
    refine' wpAnyH_take (i := 3) (oi := { dst := Option.some 26, op := Op.load 27 (Operand.tmp 25), type := 27, pos := "law.go:149", after := #[{ on := 2, ground := Ground.data }, { on := 4, ground := Ground.gcOnly Departure.lateStores }], guard := Option.none }) rfl (by kernel_rfl) (by kernel_rfl) (by kernel_rfl) (fun _ _ _ h => h) (Or.inl ⟨by rfl, _⟩) (by assumption) _
    rotate_left
    · (intro wS hSw; (try dsimp only at hSw); go_simp; try with_reducible rfl)
    try simp only [Act.put, nA, nB, nC]
    refine' wpAnyH_take (i := 4) (oi := { dst := Option.some 7, op := Op.assign (Operand.tmp 24), type := 27, pos := "law.go:149", after := #[{ on := 1, ground := Ground.data }, { on := 0, ground := Ground.phase }, { on := 1, ground := Ground.phase }, { on := 2, ground := Ground.textOnly Departure.lateStores }, { on := 3, ground := Ground.textOnly Departure.lateStores }], guard := Option.none }) rfl (by kernel_rfl) (by kernel_rfl) (by kernel_rfl) (fun _ _ _ h => h) (Or.inl ⟨by rfl, _⟩) (by assumption) _
    rotate_left
    · (intro wS hSw; (try dsimp only at hSw); go_simp; try with_reducible rfl)
    try simp only [Act.put, nA, nB, nC]
    refine' wpAnyH_take (i := 5) (oi := ⟨some 8, .assign (.tmp 26), 27, "law.go:149", #[⟨3, .data⟩, ⟨4, .chain⟩, ⟨0, .phase⟩, ⟨1, .phase⟩, ⟨2, .phase⟩, ⟨3, .phase⟩, ⟨4, .phase⟩], none⟩) rfl (by kernel_rfl) (by kernel_rfl) (by kernel_rfl) (fun _ _ _ h => h) (Or.inl ⟨by rfl, _⟩) (by assumption) _
    rotate_left
    · (intro wS hSw; (try dsimp only at hSw); go_simp; try with_reducible rfl)
    try simp only [Act.put, nA, nB, nC]
    refine wpAnyH_done (by kernel_rfl) ?_ _
    obtain ⟨w5, hw5⟩ : ∃ W, w4.drew = W := ⟨_, rfl⟩
    have b5 : Below w4.heap.size w4 w5 := by rw [← hw5]; exact (Below.refl _ _).drew
    have F5 := Lib.hid (heap_below F4.out b5 (by omega))
    have f0 := heap_cell F5.out (o := 0)
    have f1 := heap_cell F5.out (o := 1)
    have B5 := Lib.hid b5
    rw [hw5]
    clear hw5 b5 hHeld t0 t1
    go_upto_region 4 with fail
    with_reducible refine wp_region_list ?_
    (with_reducible refine wpList_plain rfl ?_); intro K hK; go_simp; (with_reducible refine hK _ _ ?_); clear hK K; try simp only [Act.put, nA, nB, nC]
    (with_reducible refine wpList_plain rfl ?_); intro K hK; go_simp; (with_reducible refine hK _ _ ?_); clear hK K; try simp only [Act.put, nA, nB, nC]
    (with_reducible refine wpList_plain rfl ?_); intro K hK; go_simp; (with_reducible refine hK _ _ ?_); clear hK K; try simp only [Act.put, nA, nB, nC]
    (with_reducible refine wpList_plain rfl ?_); intro K hK; go_simp; (with_reducible refine hK _ _ ?_); clear hK K; try simp only [Act.put, nA, nB, nC]
    with_reducible refine wpList_plain rfl ?_
    intro K hK
    go_simp
    refine (HRd.out w5 B5.out).mono ?_; rintro e w6 ⟨va, ba, rfl, oa, da, b6⟩; obtain ⟨aad, ac, hav, hq1, hq2, hq3⟩ := oa.shape; obtain ⟨an, han⟩ : ∃ n, ba.length = n := ⟨_, rfl⟩; rw [han] at hav; subst hav; clear hq1 hq2 hq3
    first | with_reducible refine hK _ _ ?_ | refine hK _ _ ?_
    clear hK K
    (try simp only [Act.put, nA, nB, nC])
    (with_reducible refine wpList_plain rfl ?_); intro K hK; go_simp; (with_reducible refine hK _ _ ?_); clear hK K; try simp only [Act.put, nA, nB, nC]
    (with_reducible refine wpList_plain rfl ?_); intro K hK; go_simp; (with_reducible refine hK _ _ ?_); clear hK K; try simp only [Act.put, nA, nB, nC]
    (with_reducible refine wpList_plain rfl ?_); intro K hK; go_simp; (with_reducible refine hK _ _ ?_); clear hK K; try simp only [Act.put, nA, nB, nC]
    (with_reducible refine wpList_plain rfl ?_); intro K hK; go_simp; (with_reducible refine hK _ _ ?_); clear hK K; try simp only [Act.put, nA, nB, nC]
    (with_reducible refine wpList_plain rfl ?_); intro K hK; go_simp; (with_reducible refine hK _ _ ?_); clear hK K; try simp only [Act.put, nA, nB, nC]
    have hs5 := B5.out.size
    have B6 : Hid (Below w4.heap.size w4 w6) := B5.out.trans (b6.mono hs5)
    have hs6 := B6.out.size
    have OA := Lib.hid oa
    have DA := Lib.hid da
    have HAN : Hid (an = ec.length) := by show _ = _; rw [← han]; exact da.1
    have F6 := Lib.hid (heap_below F4.out B6.out (by omega))
    have f0 := heap_cell F6.out (o := 0)
    have f1 := heap_cell F6.out (o := 1)
    have B56 := Lib.hid b6
    have hs56 := b6.size
    clear oa da b6 han F5
    go_upto_region 5 with fail
    with_reducible refine wp_region_list ?_
    (with_reducible refine wpList_plain rfl ?_); intro K hK; go_simp; (with_reducible refine hK _ _ ?_); clear hK K; try simp only [Act.put, nA, nB, nC]
    (with_reducible refine wpList_plain rfl ?_); intro K hK; go_simp; (with_reducible refine hK _ _ ?_); clear hK K; try simp only [Act.put, nA, nB, nC]
    (with_reducible refine wpList_plain rfl ?_); intro K hK; go_simp; (with_reducible refine hK _ _ ?_); clear hK K; try simp only [Act.put, nA, nB, nC]
    (with_reducible refine wpList_plain rfl ?_); intro K hK; go_simp; (with_reducible refine hK _ _ ?_); clear hK K; try simp only [Act.put, nA, nB, nC]
    with_reducible refine wpList_plain rfl ?_
    intro K hK
    go_simp
    refine (HRd.out w6 B6.out).mono ?_; rintro e w7 ⟨vb, bb, rfl, ob, db, b7⟩; obtain ⟨bad, bc, hbv, hq1, hq2, hq3⟩ := ob.shape; obtain ⟨bn, hbn⟩ : ∃ n, bb.length = n := ⟨_, rfl⟩; rw [hbn] at hbv; subst hbv; clear hq1 hq2 hq3 hbn
    first | with_reducible refine hK _ _ ?_ | refine hK _ _ ?_
    clear hK K
    (try simp only [Act.put, nA, nB, nC])
    (with_reducible refine wpList_plain rfl ?_); intro K hK; go_simp; (with_reducible refine hK _ _ ?_); clear hK K; try simp only [Act.put, nA, nB, nC]
    (with_reducible refine wpList_plain rfl ?_); intro K hK; go_simp; (with_reducible refine hK _ _ ?_); clear hK K; try simp only [Act.put, nA, nB, nC]
    (with_reducible refine wpList_plain rfl ?_); intro K hK; go_simp; (with_reducible refine hK _ _ ?_); clear hK K; try simp only [Act.put, nA, nB, nC]
    (with_reducible refine wpList_plain rfl ?_); intro K hK; go_simp; (with_reducible refine hK _ _ ?_); clear hK K; try simp only [Act.put, nA, nB, nC]
    (with_reducible refine wpList_plain rfl ?_); intro K hK; go_simp; (with_reducible refine hK _ _ ?_); clear hK K; try simp only [Act.put, nA, nB, nC]
    have hs67 := b7.size
    have B7 : Hid (Below w4.heap.size w4 w7) := B6.out.trans (b7.mono hs6)
    have hs7 := B7.out.size
    have OA7 := Lib.hid (OA.out.below b7 (fun q hq => (OA.out.lt q hq).2))
    have DA7 := Lib.hid (DA.out.below b7)
    have OB7 := Lib.hid ob
    have DB7 := Lib.hid db
    have HLA : Hid (∀ z ∈ (Value.slice aad an ac) :: ba.map (·.2), ∀ g, z.ownBlock = some g → g < w6.heap.size) := fun z hz g hg => by
      rcases List.mem_cons.1 hz with rfl | hz
      · exact (OA.out.lt g hg).2
      · exact (DA.out.lt z hz g hg).2
    have F7 := Lib.hid (heap_below F4.out B7.out (by omega))
    have f0 := heap_cell F7.out (o := 0)
    have f1 := heap_cell F7.out (o := 1)
    have B57 : Hid (Below w5.heap.size w5 w7) := B56.out.trans (b7.mono B56.out.size)
    clear ob db b7 OA DA F6 B56
    go_upto_region 6 with fail
    with_reducible refine wp_region_list ?_
    (with_reducible refine wpList_plain rfl ?_); intro K hK; go_simp; (with_reducible refine hK _ _ ?_); clear hK K; try simp only [Act.put, nA, nB, nC]
    (with_reducible refine wpList_plain rfl ?_); intro K hK; go_simp; (with_reducible refine hK _ _ ?_); clear hK K; try simp only [Act.put, nA, nB, nC]
    (with_reducible refine wpList_plain rfl ?_); intro K hK; go_simp; (with_reducible refine hK _ _ ?_); clear hK K; try simp only [Act.put, nA, nB, nC]
    with_reducible refine wpList_plain rfl ?_
    intro K hK
    go_simp
    refine (Read_nilp a b first count w7).mono ?_; rintro e w8 ⟨rfl, b8⟩
    first | with_reducible refine hK _ _ ?_ | refine hK _ _ ?_
    clear hK K
    (try simp only [Act.put, nA, nB, nC])
    (with_reducible refine wpList_plain rfl ?_); intro K hK; go_simp; (with_reducible refine hK _ _ ?_); clear hK K; try simp only [Act.put, nA, nB, nC]
    (with_reducible refine wpList_plain rfl ?_); intro K hK; go_simp; (with_reducible refine hK _ _ ?_); clear hK K; try simp only [Act.put, nA, nB, nC]
    (with_reducible refine wpList_plain rfl ?_); intro K hK; go_simp; (with_reducible refine hK _ _ ?_); clear hK K; try simp only [Act.put, nA, nB, nC]
    (with_reducible refine wpList_plain rfl ?_); intro K hK; go_simp; (with_reducible refine hK _ _ ?_); clear hK K; try simp only [Act.put, nA, nB, nC]
    (with_reducible refine wpList_plain rfl ?_); intro K hK; go_simp; (with_reducible refine hK _ _ ?_); clear hK K; try simp only [Act.put, nA, nB, nC]
    have B8 : Hid (Below w7.heap.size w7 w8) := b8
    clear b8
    go_upto_region 7 with fail
    with_reducible refine wp_region_list ?_
    (with_reducible refine wpList_plain rfl ?_); intro K hK; go_simp; (with_reducible refine hK _ _ ?_); clear hK K; try simp only [Act.put, nA, nB, nC]
    (with_reducible refine wpList_plain rfl ?_); intro K hK; go_simp; (with_reducible refine hK _ _ ?_); clear hK K; try simp only [Act.put, nA, nB, nC]
    (with_reducible refine wpList_plain rfl ?_); intro K hK; go_simp; (with_reducible refine hK _ _ ?_); clear hK K; try simp only [Act.put, nA, nB, nC]
    with_reducible refine wpList_step ?_
    intro K hK
    rw [if_pos (by rfl)]
    go_simp
    refine (awake_any w8).mono ?_; rintro e w9 ⟨rfl, b9⟩
    first | with_reducible refine hK _ _ ?_ | refine hK _ _ ?_
    clear hK K
    (try simp only [Act.put, nA, nB, nC])
    (with_reducible refine wpList_step ?_); intro K hK; rw [if_pos (by rfl)]; go_simp; (with_reducible refine hK _ _ ?_); clear hK K; try simp only [Act.put, nA, nB, nC]
    (with_reducible refine wpList_plain rfl ?_); intro K hK; go_simp; (with_reducible refine hK _ _ ?_); clear hK K; try simp only [Act.put, nA, nB, nC]
    (with_reducible refine wpList_plain rfl ?_); intro K hK; go_simp; (with_reducible refine hK _ _ ?_); clear hK K; try simp only [Act.put, nA, nB, nC]
    (with_reducible refine wpList_step ?_); intro K hK; rw [if_pos (by rfl)]; go_simp; (with_reducible refine hK _ _ ?_); clear hK K; try simp only [Act.put, nA, nB, nC]
    (with_reducible refine wpList_step ?_); intro K hK; rw [if_pos (by rfl)]; go_simp; (with_reducible refine hK _ _ ?_); clear hK K; try simp only [Act.put, nA, nB, nC]
    (with_reducible refine wpList_step ?_); intro K hK; rw [if_pos (by rfl)]; go_simp; (with_reducible refine hK _ _ ?_); clear hK K; try simp only [Act.put, nA, nB, nC]
    (with_reducible refine wpList_plain rfl ?_); intro K hK; go_simp; (with_reducible refine hK _ _ ?_); clear hK K; try simp only [Act.put, nA, nB, nC]
    have B9 : Hid (Below w7.heap.size w7 w9) := B8.out.trans (b9.mono B8.out.size)
    have hs9 := B9.out.size
    have C9 : Hid (Below w4.heap.size w4 w9) := B7.out.trans (B9.out.mono hs7)
    have F9 := Lib.hid (heap_below F4.out C9.out (by omega))
    have f0 := heap_cell F9.out (o := 0)
    have f1 := heap_cell F9.out (o := 1)
    clear b9 B8 F7
    go_upto_region 9 with fail
    with_reducible refine wp_region_list ?_
    (with_reducible refine wpList_plain rfl ?_); intro K hK; go_simp; (with_reducible refine hK _ _ ?_); clear hK K; try simp only [Act.put, nA, nB, nC]
    (with_reducible refine wpList_plain rfl ?_); intro K hK; go_simp; (with_reducible refine hK _ _ ?_); clear hK K; try simp only [Act.put, nA, nB, nC]
    obtain ⟨ck, hck⟩ : ∃ k, chkI a b [] count = k := ⟨_, rfl⟩
    rw [hck] at HSides
    have HCK := Lib.hid hck
    clear hck
    with_reducible refine wpList_plain rfl ?_
    intro K hK
    go_simp
    refine (refCheck_any a b count (.slice none 0 0) [] w9 ⟨fun c hc => by simp at hc, none, 0, rfl, Nat.le_refl _, by decide, fun h => by simp at h⟩).mono ?_; rintro e w10 ⟨rfl, b10⟩; rw [HCK.out]
    first | with_reducible refine hK _ _ ?_ | refine hK _ _ ?_
    clear hK K
    (try simp only [Act.put, nA, nB, nC])
    (with_reducible refine wpList_plain rfl ?_); intro K hK; go_simp; (with_reducible refine hK _ _ ?_); clear hK K; try simp only [Act.put, nA, nB, nC]
    have B10 : Hid (Below w7.heap.size w7 w10) := B9.out.trans (b10.mono hs9)
    have C10 : Hid (Below w4.heap.size w4 w10) := B7.out.trans (B10.out.mono hs7)
    have hs10 := C10.out.size
    clear b10 B9 F9 f0 f1 C9 hs9
    rcases HSides.out with ⟨hc0, hFF⟩ | ⟨hc0, hmB, hc2, hc6, r, hr, hcase⟩
    · have y1 : (ck != 0) = true := by simp [hc0]
      have hek2 : ek = 2 := by rw [← HEK.out, hFF]; rfl
      have hec2 : ec = [] := by rw [← HEC.out, hFF]; rfl
      subst hek2
      have han0 : an = 0 := by rw [HAN.out, hec2]; rfl
      subst han0
      have HB : Hid (Below N w w10) := B4.out.trans (C10.out.mono (by omega))
      clear hc0 hFF hec2
      go_wp2_with fail
      go_ret
      exact ⟨rfl, HB.out⟩
    · have y1 : (ck != 0) = false := by simp [hc0]
      have HRR := Lib.hid ((refRead_any a b (.slice lad nl lc) ps first count w10 (PRow.below HPR.out (by rw [HN.out]; exact B4.out.trans (C10.out.mono (by omega)))) HPO hmB hc2 hc6 hf).mono (fun e w' hp => hp.uni))
      rw [hr] at HRR
      obtain ⟨wk, hwk⟩ : ∃ k, rk r = k := ⟨_, rfl⟩
      obtain ⟨wcs, hwcs⟩ : ∃ k, rc r = k := ⟨_, rfl⟩
      rw [hwk, hwcs] at HRR
      have hsm := rc_small hr
      rw [hwcs] at hsm
      have HSM := Lib.hid hsm
      have F10 := Lib.hid (heap_below F4.out C10.out (by omega))
      have K10 := Lib.hid (heap_below K4.out C10.out (by omega))
      have f0 := heap_cell F10.out (o := 0)
      have f1 := heap_cell F10.out (o := 1)
      have k0 := heap_cell K10.out (o := 0)
      have HCS : Hid ((wk = -1 ∧ ek = err ∧ ec = []) ∨ (wk ≠ -1 ∧ ek = wk ∧ ec = wcs)) := by
        rcases hcase with ⟨h1, h2⟩ | ⟨h1, h2⟩
        · refine .inl ⟨?_, ?_, ?_⟩
          · rw [← hwk, h1]; rfl
          · rw [← HEK.out, h2]; rfl
          · rw [← HEC.out, h2]; rfl
        · refine .inr ⟨?_, ?_, ?_⟩
          · rw [← hwk]; exact h1
          · rw [← HEK.out, h2, hwk]
          · rw [← HEC.out, h2, hwcs]
      clear hc0 hmB hc2 hc6 hr hcase hwk hwcs hsm
      go_upto_region 11 with fail
      clear y1
      with_reducible refine wp_region_list ?_
      (with_reducible refine wpList_plain rfl ?_); intro K hK; go_simp; (with_reducible refine hK _ _ ?_); clear hK K; try simp only [Act.put, nA, nB, nC]
      (with_reducible refine wpList_plain rfl ?_); intro K hK; go_simp; (with_reducible refine hK _ _ ?_); clear hK K; try simp only [Act.put, nA, nB, nC]
      (with_reducible refine wpList_plain rfl ?_); intro K hK; go_simp; (with_reducible refine hK _ _ ?_); clear hK K; try simp only [Act.put, nA, nB, nC]
      (with_reducible refine wpList_plain rfl ?_); intro K hK; go_simp; (with_reducible refine hK _ _ ?_); clear hK K; try simp only [Act.put, nA, nB, nC]
      (with_reducible refine wpList_plain rfl ?_); intro K hK; go_simp; (with_reducible refine hK _ _ ?_); clear hK K; try simp only [Act.put, nA, nB, nC]
      with_reducible refine wpList_plain rfl ?_
      intro K hK
      go_simp
      refine HRR.out.mono ?_; rintro e w11 ⟨vw, bw, rfl, ow, dw, b11⟩; obtain ⟨wad, wc, hwv, hq1, hq2, hq3⟩ := ow.shape; obtain ⟨wn, hwn⟩ : ∃ n, bw.length = n := ⟨_, rfl⟩; rw [hwn] at hwv; subst hwv; clear hq1 hq2 hq3 hwn
      first | with_reducible refine hK _ _ ?_ | refine hK _ _ ?_
      clear hK K
      (try simp only [Act.put, nA, nB, nC])
      (with_reducible refine wpList_plain rfl ?_); intro K hK; go_simp; (with_reducible refine hK _ _ ?_); clear hK K; try simp only [Act.put, nA, nB, nC]
      (with_reducible refine wpList_plain rfl ?_); intro K hK; go_simp; (with_reducible refine hK _ _ ?_); clear hK K; try simp only [Act.put, nA, nB, nC]
      (with_reducible refine wpList_plain rfl ?_); intro K hK; go_simp; (with_reducible refine hK _ _ ?_); clear hK K; try simp only [Act.put, nA, nB, nC]
      (with_reducible refine wpList_plain rfl ?_); intro K hK; go_simp; (with_reducible refine hK _ _ ?_); clear hK K; try simp only [Act.put, nA, nB, nC]
      (with_reducible refine wpList_plain rfl ?_); intro K hK; go_simp; (with_reducible refine hK _ _ ?_); clear hK K; try simp only [Act.put, nA, nB, nC]
      have B11 : Hid (Below w7.heap.size w7 w11) := B10.out.trans (b11.mono B10.out.size)
      have C11 : Hid (Below w4.heap.size w4 w11) := B7.out.trans (B11.out.mono hs7)
      have hs11 := C11.out.size
      have hs711 := B11.out.size
      have WR11 : Hid (CRow w11 (.slice wad wn wc) wcs) := dw.row ow (fun c hc => (HSM.out.2 c hc).2)
      have OW11 := Lib.hid ow
      have DW11 := Lib.hid dw
      have hs710 : w7.heap.size ≤ w10.heap.size := B10.out.size
      clear HRR b11 ow dw B10 C10 hs10 F10 K10 f0 f1 k0
      have K11 := heap_below K4.out C11.out (by omega)
      have k1 := heap_cell K11 (o := 1)
      clear K11
      rcases HCS.out with ⟨h1, h2, h3⟩ | ⟨h1, h2, h3⟩
      · subst h1 h2
        have han0 : an = 0 := by rw [HAN.out, h3]; rfl
        subst han0
        have HB : Hid (Below N w w11) := B4.out.trans (C11.out.mono (by omega))
        clear h3
        go_wp2_with fail
        go_ret
        exact ⟨rfl, HB.out⟩
      · subst h2 h3
        have y2 : (ek == -1) = false := by simp [h1]
        clear h1 k1
        have OA11 := OA7.out.below B11.out (fun q hq => (OA7.out.lt q hq).2)
        have OB11 := OB7.out.below B11.out (fun q hq => (OB7.out.lt q hq).2)
        have DA11 := DA7.out.below B11.out
        have DB11 := DB7.out.below B11.out
        have RA11 : Hid (CRow w11 (.slice aad an ac) ec) := DA11.row OA11 (fun c hc => (HSM.out.2 c hc).2)
        have RB11 : Hid (CRow w11 (.slice bad bn bc) ec) := DB11.row OB11 (fun c hc => (HSM.out.2 c hc).2)
        clear OA11 OB11 DA11 DB11
        go_upto_region 14 with fail
        clear y2
        with_reducible refine wp_region_list ?_
        (with_reducible refine wpList_plain rfl ?_); intro K hK; go_simp; (with_reducible refine hK _ _ ?_); clear hK K; try simp only [Act.put, nA, nB, nC]
        (with_reducible refine wpList_plain rfl ?_); intro K hK; go_simp; (with_reducible refine hK _ _ ?_); clear hK K; try simp only [Act.put, nA, nB, nC]
        (with_reducible refine wpList_plain rfl ?_); intro K hK; go_simp; (with_reducible refine hK _ _ ?_); clear hK K; try simp only [Act.put, nA, nB, nC]
        (with_reducible refine wpList_plain rfl ?_); intro K hK; go_simp; (with_reducible refine hK _ _ ?_); clear hK K; try simp only [Act.put, nA, nB, nC]
        (with_reducible refine wpList_step ?_); intro K hK; rw [if_pos (by rfl)]; go_simp; (with_reducible refine hK _ _ ?_); clear hK K; try simp only [Act.put, nA, nB, nC]
        (with_reducible refine wpList_step ?_); intro K hK; rw [if_pos (by rfl)]; go_simp; (with_reducible refine hK _ _ ?_); clear hK K; try simp only [Act.put, nA, nB, nC]
        with_reducible refine wpList_step ?_
        intro K hK
        rw [if_pos (by rfl)]
        go_simp
        refine (Same_any _ _ ec ec w11 RA11 WR11).mono ?_; rintro e w12 ⟨rfl, b12⟩; rw [decide_eq_true rfl]
        first | with_reducible refine hK _ _ ?_ | refine hK _ _ ?_
        clear hK K
        (try simp only [Act.put, nA, nB, nC])
        (with_reducible refine wpList_step ?_); intro K hK; rw [if_pos (by rfl)]; go_simp; (with_reducible refine hK _ _ ?_); clear hK K; try simp only [Act.put, nA, nB, nC]
        (with_reducible refine wpList_plain rfl ?_); intro K hK; go_simp; (with_reducible refine hK _ _ ?_); clear hK K; try simp only [Act.put, nA, nB, nC]
        (with_reducible refine wpList_plain rfl ?_); intro K hK; go_simp; (with_reducible refine hK _ _ ?_); clear hK K; try simp only [Act.put, nA, nB, nC]
        (with_reducible refine wpList_step ?_); intro K hK; rw [if_pos (by rfl)]; go_simp; (with_reducible refine hK _ _ ?_); clear hK K; try simp only [Act.put, nA, nB, nC]
        (with_reducible refine wpList_step ?_); intro K hK; rw [if_pos (by rfl)]; go_simp; (with_reducible refine hK _ _ ?_); clear hK K; try simp only [Act.put, nA, nB, nC]
        with_reducible refine wpList_step ?_
        intro K hK
        rw [if_pos (by rfl)]
        go_simp
        refine (Same_any _ _ ec ec w12 (RB11.out.below b12) (WR11.out.below b12)).mono ?_; rintro e w13 ⟨rfl, b13⟩; rw [decide_eq_true rfl]
        first | with_reducible refine hK _ _ ?_ | refine hK _ _ ?_
        clear hK K
        (try simp only [Act.put, nA, nB, nC])
        (with_reducible refine wpList_step ?_); intro K hK; rw [if_pos (by rfl)]; go_simp; (with_reducible refine hK _ _ ?_); clear hK K; try simp only [Act.put, nA, nB, nC]
        (with_reducible refine wpList_plain rfl ?_); intro K hK; go_simp; (with_reducible refine hK _ _ ?_); clear hK K; try simp only [Act.put, nA, nB, nC]
        (with_reducible refine wpList_plain rfl ?_); intro K hK; go_simp; (with_reducible refine hK _ _ ?_); clear hK K; try simp only [Act.put, nA, nB, nC]
        (with_reducible refine wpList_step ?_); intro K hK; rw [if_pos (by rfl)]; go_simp; (with_reducible refine hK _ _ ?_); clear hK K; try simp only [Act.put, nA, nB, nC]
        have b1113 : Below w11.heap.size w11 w13 := b12.trans (b13.mono b12.size)
        have B13 : Hid (Below w7.heap.size w7 w13) := B11.out.trans (b1113.mono hs711)
        have hs13 := B13.out.size
        have hs1113 := b1113.size
        have hla : ba.length ≤ 65536 := by have := DA7.out.1; have := HSM.out.1; omega
        have hlb : bb.length ≤ 65536 := by have := DB7.out.1; have := HSM.out.1; omega
        have RDa : Hid (ReadR 2 w13 (.slice aad an ac) ba.length (brow ba)) := (OA7.out.toR.read).below B13.out
        have RDb : Hid (ReadR 2 w13 (.slice bad bn bc) bb.length (brow bb)) := (OB7.out.toR.read).below B13.out
        have B1113 := Lib.hid b1113
        clear b12 b13 RA11 RB11 b1113
        with_reducible refine wpList_step ?_
        intro K hK
        rw [if_pos (by rfl)]
        go_simp
        refine (inner_any _ ba w13 RDa DA7.out.form (by show _ ≤ _; omega)).mono ?_; rintro e w14 ⟨v14, rfl, o14, b14⟩
        first | with_reducible refine hK _ _ ?_ | refine hK _ _ ?_
        clear hK K
        (try simp only [Act.put, nA, nB, nC])
        (with_reducible refine wpList_step ?_); intro K hK; rw [if_pos (by rfl)]; go_simp; (with_reducible refine hK _ _ ?_); clear hK K; try simp only [Act.put, nA, nB, nC]
        with_reducible refine wpList_step ?_
        intro K hK
        rw [if_pos (by rfl)]
        go_simp
        refine (inner_any _ bb w14 (RDb.out.below b14) DB7.out.form (by show _ ≤ _; omega)).mono ?_; rintro e w15 ⟨v15, rfl, o15, b15⟩
        first | with_reducible refine hK _ _ ?_ | refine hK _ _ ?_
        clear hK K
        (try simp only [Act.put, nA, nB, nC])
        have O14 := o14.below b15
        obtain ⟨ti, hti, tz0, tz1, tz2⟩ := info_parts info_V
        with_reducible refine wpList_step ?_
        intro K hK
        rw [if_pos (by rfl)]
        refine wp_appR 42 28 ti _ 1 24 Try.underlying42 hti tz0 tz1 tz2 rfl (by decide) w15 _ _ rfl w13.heap.size _ _ _ rfl O14 _ rfl bb.length _ (src_read _ _ Try.underlying42 1 o15.read DB7.out.one) (by omega) (by have := b14.size; have := b15.size; omega) ?_
        intro v16 w16 o16 g16
        refine hK _ _ ?_
        clear hK K
        obtain ⟨xad, xc, hx16, hx17⟩ := o16.form
        obtain ⟨xn, hxn⟩ : ∃ n, ba.length + bb.length = n := ⟨_, rfl⟩
        rw [hxn] at hx16
        subst hx16
        (try simp only [Act.put, nA, nB, nC])
        (with_reducible refine wpList_step ?_); intro K hK; rw [if_pos (by rfl)]; go_simp; (with_reducible refine hK _ _ ?_); clear hK K; try simp only [Act.put, nA, nB, nC]
        (with_reducible refine wpList_step ?_); intro K hK; rw [if_pos (by rfl)]; go_simp; (with_reducible refine hK _ _ ?_); clear hK K; try simp only [Act.put, nA, nB, nC]
        (with_reducible refine wpList_step ?_); intro K hK; rw [if_pos (by rfl)]; go_simp; (with_reducible refine hK _ _ ?_); clear hK K; try simp only [Act.put, nA, nB, nC]
        obtain ⟨g, hg⟩ : ∃ g, w16.heap.size = g := ⟨_, rfl⟩
        obtain ⟨w17, hw17⟩ : ∃ W, w16.alloc (.cells #[.slice aad an ac, .slice bad bn bc] 44) = W := ⟨_, rfl⟩
        have b17 : Below w16.heap.size w16 w17 := by rw [← hw17]; exact (Below.refl _ _).alloc (Nat.le_refl _) _
        have r17 : w17.heap[g]? = some (.cells #[.slice aad an ac, .slice bad bn bc] 44 (0, 0)) := by rw [← hw17, ← hg]; exact heap_alloc_new w16 _
        have hs14 := b14.size
        have hs15 := b15.size
        have b16 : Below w13.heap.size w13 w16 := by
          refine (b14.trans (b15.mono hs14)).trans ?_
          rcases g16 with ⟨_, _, _, _, m5⟩ | ⟨b5, _⟩
          · exact m5.below (fun q hq hs => by have := (o14.lt q hs).1; omega) (by omega)
          · exact b5.mono (by omega)
        have hs16 := b16.size
        have b1317 : Below w13.heap.size w13 w17 := b16.trans (b17.mono hs16)
        have B717 : Hid (Below w7.heap.size w7 w17) := B13.out.trans (b1317.mono hs13)
        have OA17 := OA7.out.below B717.out (fun q hq => (OA7.out.lt q hq).2)
        have OB17 := OB7.out.below B717.out (fun q hq => (OB7.out.lt q hq).2)
        have DA17 := DA7.out.below B717.out
        have DB17 := DB7.out.below B717.out
        have HALL : ∀ z ∈ (ba.map (·.2) ++ bb.map (·.2)) ++ [.slice aad an ac, .slice bad bn bc], ∀ q, z.ownBlock = some q → w5.heap.size ≤ q ∧ q < w7.heap.size := fun z hz q hq => by
          rcases List.mem_append.1 hz with hz | hz
          · rcases List.mem_append.1 hz with hz | hz
            · exact DA7.out.lt z hz q hq
            · have := DB7.out.lt z hz q hq; have := HSM.out.1; have := B6.out.size; omega
          · rcases List.mem_cons.1 hz with rfl | hz
            · exact OA7.out.lt q hq
            · rw [List.mem_singleton.1 hz] at hq
              have := OB7.out.lt q hq; omega
        have hvn : (ba.map (·.2) ++ bb.map (·.2)).length = xn := by rw [List.length_append, List.length_map, List.length_map, hxn]
        have HAP := Lib.hid (apart_own (.slice xad xn xc) (.slice (some ⟨g, 0, none⟩) 2 2) (ba.map (·.2) ++ bb.map (·.2)) [.slice aad an ac, .slice bad bn bc] w17 (by rw [hvn, ← hxn]; have h := o16.read.below b17; rw [hxn] at h ⊢; exact h) (readR_pair w17 g _ _ _ r17)
          (sep_two DA17 OA17 DB17 OB17 HLA.out)
          (fun q hq z hz e => by have := (HALL z hz q e).2; have := (o16.lt q (by exact hq)).1; omega)
          (fun q hq z hz e => by have := (HALL z hz q e).2; have e2 : g = q := Option.some.inj hq; omega)
          (fun z hz => by
            rcases List.mem_append.1 hz with hz | hz
            · exact DA17.ownR (fun c hc => by have := (HSM.out.2 c hc).1; omega) z hz
            · exact DB17.ownR (fun c hc => by have := (HSM.out.2 c hc).1; omega) z hz)
          (fun z hz => by
            rcases List.mem_cons.1 hz with rfl | hz
            · exact ⟨_, _, by omega, (OA17.toR).mono (Nat.zero_le _)⟩
            · rw [List.mem_singleton.1 hz]
              exact ⟨_, _, by omega, (OB17.toR).mono (Nat.zero_le _)⟩)
          (by rw [hvn]; omega) (by show 2 ≤ _; omega))
        rw [hw17, hg]
        have hs717 := B717.out.size
        have hs1117 : w11.heap.size ≤ w17.heap.size := by have := b1317.size; omega
        with_reducible refine wpList_step ?_
        intro K hK
        rw [if_pos (by rfl)]
        go_simp
        refine HAP.out.mono ?_; rintro e w18 ⟨rfl, m18⟩
        first | with_reducible refine hK _ _ ?_ | refine hK _ _ ?_
        clear hK K
        (try simp only [Act.put, nA, nB, nC])
        (with_reducible refine wpList_step ?_); intro K hK; rw [if_pos (by rfl)]; go_simp; (with_reducible refine hK _ _ ?_); clear hK K; try simp only [Act.put, nA, nB, nC]
        (with_reducible refine wpList_plain rfl ?_); intro K hK; go_simp; (with_reducible refine hK _ _ ?_); clear hK K; try simp only [Act.put, nA, nB, nC]
        have C18 : Hid (Below w5.heap.size w5 w18) := by
          exact (B57.out.trans (B717.out.mono (by omega))).trans (m18.below (fun q hq hs => by obtain ⟨z, hz, e⟩ := hs; have := (HALL z hz q e).1; omega) (by omega))
        have b1117 : Below w11.heap.size w11 w17 := B1113.out.trans (b1317.mono hs1113)
        have OW17 := OW11.out.below b1117 (fun q hq => (OW11.out.lt q hq).2)
        have DW17 := DW11.out.below b1117
        have low : ∀ q, (∃ z ∈ (ba.map (·.2) ++ bb.map (·.2)) ++ [.slice aad an ac, .slice bad bn bc], z.ownBlock = some q) → q < w10.heap.size := fun q hs => by
          obtain ⟨z, hz, e⟩ := hs; have := (HALL z hz q e).2; omega
        have OW18 := OW17.mod m18 (fun q hq hs => by have := low q hs; have := (OW17.lt q hq).1; omega)
        have DW18 := DW17.modlow m18 low
        have WR18 : Hid (CRow w18 (.slice wad wn wc) ec) := DW18.row OW18 (fun c hc => (HSM.out.2 c hc).2)
        have hs518 := C18.out.size
        have C418 : Hid (Below w4.heap.size w4 w18) := B5.out.trans (C18.out.mono hs5)
        have hs418 := C418.out.size
        have F18 := Lib.hid (heap_below F4.out C418.out (by omega))
        have f0 := heap_cell F18.out (o := 0)
        have f1 := heap_cell F18.out (o := 1)
        clear HAP m18 low OW17 DW17 OW18 DW18 HALL hvn hxn b17 r17 b16 b1317 OA17 OB17 DA17 DB17 hw17 hg o16 g16 O14 o14 o15 b14 b15 hti tz0 tz1 tz2 RDa RDb hla hlb B1113 hx17 B13 B717 b1117 hs14 hs15 hs16 hs717 hs1117 hs13 hs1113 WR11 OW11 DW11 OA7 OB7 DA7 DB7 HLA B57 F18 C18 C11 B11
        go_upto_region 16 with fail
        with_reducible refine wp_region_list ?_
        (with_reducible refine wpList_plain rfl ?_); intro K hK; go_simp; (with_reducible refine hK _ _ ?_); clear hK K; try simp only [Act.put, nA, nB, nC]
        (with_reducible refine wpList_plain rfl ?_); intro K hK; go_simp; (with_reducible refine hK _ _ ?_); clear hK K; try simp only [Act.put, nA, nB, nC]
        (with_reducible refine wpList_plain rfl ?_); intro K hK; go_simp; (with_reducible refine hK _ _ ?_); clear hK K; try simp only [Act.put, nA, nB, nC]
        (with_reducible refine wpList_plain rfl ?_); intro K hK; go_simp; (with_reducible refine hK _ _ ?_); clear hK K; try simp only [Act.put, nA, nB, nC]
        with_reducible refine wpList_plain rfl ?_
        intro K hK
        go_simp
        refine (HRd.out w18 C418.out).mono ?_; rintro e w19 ⟨vc, bcs, rfl, oc, dc, b19⟩; obtain ⟨ccad, ccc, hccv, hq1, hq2, hq3⟩ := oc.shape; obtain ⟨ccn, hccn⟩ : ∃ n, bcs.length = n := ⟨_, rfl⟩; rw [hccn] at hccv; subst hccv; clear hq1 hq2 hq3 hccn
        first | with_reducible refine hK _ _ ?_ | refine hK _ _ ?_
        clear hK K
        (try simp only [Act.put, nA, nB, nC])
        (with_reducible refine wpList_plain rfl ?_); intro K hK; go_simp; (with_reducible refine hK _ _ ?_); clear hK K; try simp only [Act.put, nA, nB, nC]
        (with_reducible refine wpList_plain rfl ?_); intro K hK; go_simp; (with_reducible refine hK _ _ ?_); clear hK K; try simp only [Act.put, nA, nB, nC]
        (with_reducible refine wpList_plain rfl ?_); intro K hK; go_simp; (with_reducible refine hK _ _ ?_); clear hK K; try simp only [Act.put, nA, nB, nC]
        (with_reducible refine wpList_plain rfl ?_); intro K hK; go_simp; (with_reducible refine hK _ _ ?_); clear hK K; try simp only [Act.put, nA, nB, nC]
        (with_reducible refine wpList_plain rfl ?_); intro K hK; go_simp; (with_reducible refine hK _ _ ?_); clear hK K; try simp only [Act.put, nA, nB, nC]
        have C419 : Hid (Below w4.heap.size w4 w19) := C418.out.trans (b19.mono hs418)
        have hs419 := C419.out.size
        have RC19 : Hid (CRow w19 (.slice ccad ccn ccc) ec) := dc.row oc (fun c hc => (HSM.out.2 c hc).2)
        have WR19 : Hid (CRow w19 (.slice wad wn wc) ec) := WR18.out.below b19
        clear b19 oc dc C418 f0 f1 WR18
        go_upto_region 17 with fail
        with_reducible refine wp_region_list ?_
        (with_reducible refine wpList_plain rfl ?_); intro K hK; go_simp; (with_reducible refine hK _ _ ?_); clear hK K; try simp only [Act.put, nA, nB, nC]
        (with_reducible refine wpList_plain rfl ?_); intro K hK; go_simp; (with_reducible refine hK _ _ ?_); clear hK K; try simp only [Act.put, nA, nB, nC]
        with_reducible refine wpList_plain rfl ?_
        intro K hK
        go_simp
        refine (Same_any _ _ ec ec w19 RC19 WR19).mono ?_; rintro e w20 ⟨rfl, b20⟩; rw [decide_eq_true rfl]
        first | with_reducible refine hK _ _ ?_ | refine hK _ _ ?_
        clear hK K
        (try simp only [Act.put, nA, nB, nC])
        (with_reducible refine wpList_plain rfl ?_); intro K hK; go_simp; (with_reducible refine hK _ _ ?_); clear hK K; try simp only [Act.put, nA, nB, nC]
        have HB : Hid (Below N w w20) := B4.out.trans ((C419.out.trans (b20.mono hs419)).mono (by omega))
        clear b20 C419
        go_wp2_with fail
        go_ret
        exact ⟨rfl, HB.out⟩
end Go.Proofs.Ytkngmnfgdlnddaa

