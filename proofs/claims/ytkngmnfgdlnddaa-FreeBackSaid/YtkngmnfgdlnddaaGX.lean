/-
  The walk of free.Lay, where it lays. The plain part of FreeBack: what was laid reads again. The law's own comparison of two chains, where they are one. The plain part of FreeBack: the pages of its Book. The view of a uint64.
-/
import Derived.Test.YtkngmnfgdlnddaaGU
import Derived.Test.YtkngmnfgdlnddaaGK
import Derived.Test.YtkngmnfgdlnddaaGN
import Derived.Test.YtkngmnfgdlnddaaGH
set_option linter.unusedSimpArgs false
set_option linter.unusedVariables false
namespace Go.Proofs.Ytkngmnfgdlnddaa
open Go.RowKit Go.Lib Hw Go.Maps
set_option linter.unusedSimpArgs false
set_option linter.unusedVariables false

/-- the next batch's number -/
def nextP (A : List (Nat × List Nat)) (i : Nat) : Nat := match A[i]? with | some c => c.1 | none => 0
def pageP (a b : Int) (ver : Nat) (A : List (Nat × List Nat)) (i : Nat) : Pg := match A[i]? with | some c => ⟨3, c.1, ver, bodyS a b (nextP A (i + 1)) c.2⟩ | none => Pg.zero
def layP (a b : Int) (ver : Nat) (A : List (Nat × List Nat)) (k : Nat) : List Pg := (List.range k).map (pageP a b ver A)
theorem layP_len (a b : Int) (ver : Nat) (A : List (Nat × List Nat)) (k : Nat) : (layP a b ver A k).length = k := by unfold layP; rw [List.length_map, List.length_range]
theorem layP_succ (a b : Int) (ver : Nat) (A : List (Nat × List Nat)) (k : Nat) : layP a b ver A (k + 1) = layP a b ver A k ++ [pageP a b ver A k] := by unfold layP; rw [List.range_succ, List.map_append]; rfl
theorem info_Pg : (Try.prog.info? 97).map (fun i => (i.zero, i.size, i.bytes)) = some (some (.agg #[.int .u8 0, .int .u32 0, .int .u64 0, .string ⟨#[]⟩]), 4, 32) := by kernel_rfl
theorem pgs_snoc (ps : List Pg) (p : Pg) : pgs (ps ++ [p]) = pgs ps ++ p.cells := by unfold pgs; simp
set_option maxRecDepth 5000 in
set_option maxHeartbeats 8000000 in
theorem Lay_ok (a b : Int) (ver : Nat) (lv chv tv : Value) (ls cs : List (Nat × List Nat)) (op pg : Nat) (w : World) (hl : Hid (CRow w lv ls)) (hc : Hid (CRow w chv cs)) (hz : Hid ((ls.length + cs.length) * 32 ≤ 140737488355328)) (hz2 : Hid (∀ c ∈ ls ++ cs, c.2.length * 4 ≤ 140737488355328))
    (hv1 : 1 ≤ ver) (hv2 : ver ≤ 1099511627776) (hop : op ≤ cs.length) (hpg : pg < 4294967296) (hck : Hid (chkI a b (aftL cs (op : Int) ls) pg = 0)) (hbd : Hid (∀ i c, (aftL cs (op : Int) ls)[i]? = some c → bodyB a b (nextP (aftL cs (op : Int) ls) (i + 1)) c.2 = true)) :
    Calls Try.prog 49 #[.agg #[.int .i64 a, .int .i64 b], .int .u64 (ver : Int), chv, .agg #[tv, lv, .int .i64 (op : Int), .int .u32 (pg : Int)]] w fun e w' => ∃ v, e = .returned (.tuple #[v, .int .i64 0]) ∧ OwnR 97 4 w' w.heap.size v ls.length (pgs (layP a b ver (aftL cs (op : Int) ls) ls.length)) ∧ Below w.heap.size w w' := by
  obtain ⟨lad, lc, hlv, hx1⟩ := hl.out.form
  obtain ⟨cad, cc, hcv, hx2⟩ := hc.out.form
  subst hlv hcv
  obtain ⟨N, hN⟩ : ∃ N, w.heap.size = N := ⟨_, rfl⟩
  have HN := Lib.hid hN
  rw [hN]
  clear hN
  have hlc := chk_len hck.out
  have hAn : ls.length ≤ (aftL cs (op : Int) ls).length := by unfold aftL; rw [List.length_append]; omega
  obtain ⟨A, hA⟩ : ∃ A, aftL cs (op : Int) ls = A := ⟨_, rfl⟩
  have HA := Lib.hid hA
  rw [hA] at hlc hAn hck hbd ⊢
  obtain ⟨nc, hnc⟩ : ∃ k, cs.length = k := ⟨_, rfl⟩
  have HNC := Lib.hid hnc
  obtain ⟨nl, hnl⟩ : ∃ k, ls.length = k := ⟨_, rfl⟩
  have HNL := Lib.hid hnl
  obtain ⟨nA, hnA⟩ : ∃ k, A.length = k := ⟨_, rfl⟩
  have HNA := Lib.hid hnA
  have hA1 := hlc.1
  rw [hnA] at hAn hA1
  have HLC : Hid (∀ c ∈ A, c.1 < 4294967296 ∧ All4 c.2) := fun c hc => ⟨(hlc.2 c hc).2.1, (hlc.2 c hc).2.2⟩
  rw [hnc] at hx2 hop ⊢
  rw [hnl] at hx1 hAn ⊢
  have HAF : Hid (∀ W, Below N w W → Calls Try.prog 43 #[.slice cad nc cc, .agg #[tv, .slice lad nl lc, .int .i64 (op : Int), .int .u32 (pg : Int)]] W fun e w' => ∃ ad c, e = .returned (.slice ad nA c) ∧ CRow w' (.slice ad nA c) A ∧ Below W.heap.size W w') := fun W hb => by
    have h := After_any (.slice lad nl lc) (.slice cad nc cc) tv ls cs (op : Int) (pg : Int) W (by have := hl.out.below (by rw [HN.out]; exact hb); rw [hnl] at this; exact this) (by have := hc.out.below (by rw [HN.out]; exact hb); rw [hnc] at this; exact this) hz hz2
    refine h.mono ?_
    rintro e w' ⟨v, rfl, bs, ho, hd, hb2⟩
    rw [hA] at hd
    have hr := Dealt.row ho hd HLC.out
    obtain ⟨ad, c, e, _⟩ := hr.form
    subst e
    rw [hnA] at hr ⊢
    exact ⟨ad, c, rfl, hr, hb2⟩
  clear hnc hnl hnA hA hlc hl hc hz hz2 hx2
  go_enter Try.func49, Try.ntmps49
  go_upto_region 0 with fail
  with_reducible refine wp_region_list ?_
  refine wpList_boxB rfl _ _ rfl N HN.out #[.int .i64 a, .int .i64 b] rfl ?_
  intro w1 e1 b1 z1
  (try simp only [Act.put, nA, nB, nC])
  obtain ⟨M, hM⟩ : ∃ M, w1.heap.size = M := ⟨_, rfl⟩
  have HM : Hid (M = N + 1) := by show _ = _; rw [← hM]; omega
  refine wpList_boxB rfl _ _ rfl M hM #[tv, .slice lad nl lc, .int .i64 (op : Int), .int .u32 (pg : Int)] rfl ?_
  intro w2 e2 b2 z2
  (try simp only [Act.put, nA, nB, nC])
  (with_reducible refine wpList_plain rfl ?_); intro K hK; go_simp; (with_reducible refine hK _ _ ?_); clear hK K; try simp only [Act.put, nA, nB, nC]
  (with_reducible refine wpList_plain rfl ?_); intro K hK; go_simp; (with_reducible refine hK _ _ ?_); clear hK K; try simp only [Act.put, nA, nB, nC]
  have B2 : Hid (Below N w w2) := b1.trans (b2.mono (by have := HM.out; omega))
  have e3 := heap_below e1 b2 (by have := HM.out; omega)
  have Z2 : Hid (M < w2.heap.size) := heap_lt e2
  have E2 := Lib.hid e2
  have E3 := Lib.hid e3
  have d0 := heap_cell e2 (o := 0)
  have d1 := heap_cell e2 (o := 1)
  have d2 := heap_cell e2 (o := 2)
  have d3 := heap_cell e2 (o := 3)
  clear e1 b1 b2 z1 z2 hM e2 e3
  go_upto_region 1 with fail
  with_reducible refine wp_region_list ?_
  (with_reducible refine wpList_plain rfl ?_); intro K hK; go_simp; (with_reducible refine hK _ _ ?_); clear hK K; try simp only [Act.put, nA, nB, nC]
  (with_reducible refine wpList_plain rfl ?_); intro K hK; go_simp; (with_reducible refine hK _ _ ?_); clear hK K; try simp only [Act.put, nA, nB, nC]
  with_reducible refine wpList_plain rfl ?_
  intro K hK
  go_simp
  refine (HAF.out _ B2.out).mono ?_; rintro e w3 ⟨aad, ac, rfl, ra, b3⟩
  first | with_reducible refine hK _ _ ?_ | refine hK _ _ ?_
  clear hK K
  (try simp only [Act.put, nA, nB, nC])
  (with_reducible refine wpList_plain rfl ?_); intro K hK; go_simp; (with_reducible refine hK _ _ ?_); clear hK K; try simp only [Act.put, nA, nB, nC]
  have B3 : Hid (Below N w w3) := B2.out.trans (b3.mono (by have := HM.out; have := Z2.out; omega))
  have hz3 : M < w3.heap.size := by have := b3.size; have := Z2.out; omega
  have F2 := heap_below E2.out b3 Z2.out
  have F3 := heap_below E3.out b3 (by have := HM.out; have := Z2.out; omega)
  have G2 := Lib.hid F2
  have G3 := Lib.hid F3
  have RA := Lib.hid ra
  have c0 := heap_cell F3 (o := 0)
  have c1 := heap_cell F3 (o := 1)
  have g2 := heap_cell F2 (o := 2)
  have g3 := heap_cell F2 (o := 3)
  have y1 : decide ((ver : Int) < 1) = false := by simp; omega
  have y2 : decide ((ver : Int) > 1099511627776) = false := by simp; omega
  have y3 : decide ((op : Int) < 0) = false := by simp
  have y4 : decide ((op : Int) > (nc : Int)) = false := by simp; omega
  have y5 : decide (ver < 1) = false := by simp; omega
  have y6 : decide (1099511627776 < ver) = false := by simp; omega
  have y7 : decide (nc < op) = false := by simp; omega
  have HCK : Hid (Calls Try.prog 39 #[.agg #[.int .i64 a, .int .i64 b], .slice aad nA ac, .int .u32 (pg : Int)] w3 fun e w' => e = .returned (.int .i64 0) ∧ Below w3.heap.size w3 w') := by
    have h := Check_any a b pg _ A w3 hpg RA
    rw [hck.out] at h
    exact h
  clear d0 d1 d2 d3 E2 E3 b3 F2 F3 ra HAF Z2
  go_upto_region 2 with fail
  with_reducible refine wp_region_list ?_
  (with_reducible refine wpList_plain rfl ?_); intro K hK; go_simp; (with_reducible refine hK _ _ ?_); clear hK K; try simp only [Act.put, nA, nB, nC]
  (with_reducible refine wpList_plain rfl ?_); intro K hK; go_simp; (with_reducible refine hK _ _ ?_); clear hK K; try simp only [Act.put, nA, nB, nC]
  (with_reducible refine wpList_plain rfl ?_); intro K hK; go_simp; (with_reducible refine hK _ _ ?_); clear hK K; try simp only [Act.put, nA, nB, nC]
  (with_reducible refine wpList_step ?_); intro K hK; rw [if_pos (by rfl)]; go_simp; (with_reducible refine hK _ _ ?_); clear hK K; try simp only [Act.put, nA, nB, nC]
  (with_reducible refine wpList_step ?_); intro K hK; rw [if_pos (by rfl)]; go_simp; (with_reducible refine hK _ _ ?_); clear hK K; try simp only [Act.put, nA, nB, nC]
  (with_reducible refine wpList_plain rfl ?_); intro K hK; go_simp; (with_reducible refine hK _ _ ?_); clear hK K; try simp only [Act.put, nA, nB, nC]
  (with_reducible refine wpList_plain rfl ?_); intro K hK; go_simp; (with_reducible refine hK _ _ ?_); clear hK K; try simp only [Act.put, nA, nB, nC]
  (with_reducible refine wpList_step ?_); intro K hK; rw [if_pos (by rfl)]; go_simp; (with_reducible refine hK _ _ ?_); clear hK K; try simp only [Act.put, nA, nB, nC]
  (with_reducible refine wpList_step ?_); intro K hK; rw [if_pos (by rfl)]; go_simp; (with_reducible refine hK _ _ ?_); clear hK K; try simp only [Act.put, nA, nB, nC]
  (with_reducible refine wpList_step ?_); intro K hK; rw [if_pos (by rfl)]; go_simp; (with_reducible refine hK _ _ ?_); clear hK K; try simp only [Act.put, nA, nB, nC]
  (with_reducible refine wpList_plain rfl ?_); intro K hK; go_simp; (with_reducible refine hK _ _ ?_); clear hK K; try simp only [Act.put, nA, nB, nC]
  (with_reducible refine wpList_plain rfl ?_); intro K hK; go_simp; (with_reducible refine hK _ _ ?_); clear hK K; try simp only [Act.put, nA, nB, nC]
  (with_reducible refine wpList_step ?_); intro K hK; rw [if_pos (by rfl)]; go_simp; (with_reducible refine hK _ _ ?_); clear hK K; try simp only [Act.put, nA, nB, nC]
  (with_reducible refine wpList_step ?_); intro K hK; rw [if_pos (by rfl)]; go_simp; (with_reducible refine hK _ _ ?_); clear hK K; try simp only [Act.put, nA, nB, nC]
  (with_reducible refine wpList_step ?_); intro K hK; rw [if_pos (by rfl)]; go_simp; (with_reducible refine hK _ _ ?_); clear hK K; try simp only [Act.put, nA, nB, nC]
  (with_reducible refine wpList_step ?_); intro K hK; rw [if_pos (by rfl)]; go_simp; (with_reducible refine hK _ _ ?_); clear hK K; try simp only [Act.put, nA, nB, nC]
  (with_reducible refine wpList_step ?_); intro K hK; rw [if_pos (by rfl)]; go_simp; (with_reducible refine hK _ _ ?_); clear hK K; try simp only [Act.put, nA, nB, nC]
  (with_reducible refine wpList_plain rfl ?_); intro K hK; go_simp; (with_reducible refine hK _ _ ?_); clear hK K; try simp only [Act.put, nA, nB, nC]
  (with_reducible refine wpList_plain rfl ?_); intro K hK; go_simp; (with_reducible refine hK _ _ ?_); clear hK K; try simp only [Act.put, nA, nB, nC]
  (with_reducible refine wpList_step ?_); intro K hK; rw [if_pos (by rfl)]; go_simp; (with_reducible refine hK _ _ ?_); clear hK K; try simp only [Act.put, nA, nB, nC]
  (with_reducible refine wpList_step ?_); intro K hK; rw [if_pos (by rfl)]; go_simp; (with_reducible refine hK _ _ ?_); clear hK K; try simp only [Act.put, nA, nB, nC]
  (with_reducible refine wpList_step ?_); intro K hK; rw [if_pos (by rfl)]; go_simp; (with_reducible refine hK _ _ ?_); clear hK K; try simp only [Act.put, nA, nB, nC]
  (with_reducible refine wpList_step ?_); intro K hK; rw [if_pos (by rfl)]; go_simp; (with_reducible refine hK _ _ ?_); clear hK K; try simp only [Act.put, nA, nB, nC]
  with_reducible refine wpList_step ?_
  intro K hK
  rw [if_pos (by rfl)]
  go_simp
  refine HCK.out.mono ?_; rintro e w4 ⟨rfl, b4⟩
  first | with_reducible refine hK _ _ ?_ | refine hK _ _ ?_
  clear hK K
  (try simp only [Act.put, nA, nB, nC])
  (with_reducible refine wpList_step ?_); intro K hK; rw [if_pos (by rfl)]; go_simp; (with_reducible refine hK _ _ ?_); clear hK K; try simp only [Act.put, nA, nB, nC]
  (with_reducible refine wpList_plain rfl ?_); intro K hK; go_simp; (with_reducible refine hK _ _ ?_); clear hK K; try simp only [Act.put, nA, nB, nC]
  have B4 : Hid (Below N w w4) := B3.out.trans (b4.mono (by have := HM.out; omega))
  have hz4 : M < w4.heap.size := by have := b4.size; omega
  have F2 := heap_below G2.out b4 hz3
  have F3 := heap_below G3.out b4 (by have := HM.out; omega)
  have RB := Lib.hid (RA.out.below b4)
  obtain ⟨T, hT⟩ : ∃ T, w4.heap.size = T := ⟨_, rfl⟩
  have HT := Lib.hid hT
  have HF2 := Lib.hid F2
  have HF3 := Lib.hid F3
  have hTM : M < T := by rw [← hT]; exact hz4
  have d1 := heap_cell F2 (o := 1)
  clear b4 F2 F3 RA G2 G3 c0 c1 g2 g3 y1 y2 y3 y4 y5 y6 y7 HCK B3 hz3 hT hz4 hck
  go_upto_region 6 with fail
  go_loopw [11, 48] (fun lv iv wr => ∃ (i : Nat) (va : Option Addr) (vc : Nat), i ≤ nl ∧ Hid (OwnR 97 4 wr T (.slice va i vc) i (pgs (layP a b ver A i))) ∧ Hid (Below T w4 wr) ∧ T ≤ wr.heap.size ∧ lv = .slice va i vc ∧ iv = .int .i64 (i : Int)) (fun _ iv _ => nl - (intOf iv).toNat)
  case atStart => exact ⟨0, none, 0, Nat.zero_le _, OwnR.nil _ _ _ _, Below.refl _ _, by have := HT.out; omega, rfl, rfl⟩
  case round =>
    obtain ⟨i, va, vc, hi, HO, HB, hzr, rfl, rfl⟩ := hrel
    clear d1
    by_cases hlt : i < nl
    case pos =>
      have ii : (i : Int) < (nl : Int) := by omega
      have hix : i < A.length := by have := HNA.out; omega
      have rb := RB.out.below (by rw [HT.out]; exact HB.out)
      obtain ⟨vb, vo, nad, nn, e1, r1, u1, pp1⟩ := rb.at hix
      subst e1
      have hgi : A[i]? = some A[i] := List.getElem?_eq_getElem hix
      have hbdi := hbd.out i _ hgi
      have hlc := HLC.out _ (List.getElem_mem hix)
      have hpp : pageP a b ver A i = ⟨3, A[i].1, ver, bodyS a b (nextP A (i + 1)) A[i].2⟩ := by unfold pageP; rw [hgi]
      obtain ⟨⟨no, ys⟩, hx0⟩ : ∃ x, A[i] = x := ⟨_, rfl⟩
      rw [hx0] at r1 u1 pp1 hbdi hlc hpp
      simp only at r1 u1 pp1 hbdi hlc hpp
      obtain ⟨ny, hny⟩ : ∃ n, ys.length = n := ⟨_, rfl⟩
      rw [hny] at r1 u1
      have f0 : wr.cell? ⟨vb, vo + i * 2, none⟩ = some (.int .u32 (no : Int)) := r1 0 _ rfl
      have f1 : wr.cell? ⟨vb, vo + i * 2 + 1, none⟩ = some (.slice nad ny nn) := r1 1 _ rfl
      obtain ⟨i9, hi9⟩ : ∃ k9 : Nat, k9 = i + 1 := ⟨_, rfl⟩
      rw [← hi9] at hbdi hpp
      obtain ⟨nx, hnx⟩ : ∃ x, nextP A i9 = x := ⟨_, rfl⟩
      rw [hnx] at hbdi hpp
      obtain ⟨sb, hsb⟩ : ∃ s, bodyS a b nx ys = s := ⟨_, rfl⟩
      have hnxl : nx < 4294967296 := by
        rw [← hnx]
        unfold nextP
        cases h : A[i9]? with
        | none => decide
        | some c => exact (HLC.out c (List.mem_of_getElem? h)).1
      have HBD : Hid (∀ z : Int, z = (nx : Int) → Calls Try.prog 23 #[.agg #[.int .i64 a, .int .i64 b], .int .u32 z, .slice nad ny nn] wr.drew fun e w' => e = .returned (.tuple #[.string sb, .int .i64 0]) ∧ Below wr.drew.heap.size wr.drew w') := fun z hz => by
        subst hz
        have h := Body_any a b nx _ ys wr.drew hnxl (u1.below ((Below.refl _ _).drew))
        unfold BodyPost at h
        rw [(body_yes hbdi).2, hsb] at h
        exact h
      rw [hsb] at hpp
      have T1 : Hid (pgs (layP a b ver A i9) = pgs (layP a b ver A i) ++ [.int .u8 3, .int .u32 (no : Int), .int .u64 (ver : Int), .string sb]) := by
        show _ = _
        rw [hi9, layP_succ, pgs_snoc, hpp]
        rfl
      have HNX := Lib.hid hnx
      have ew1 : (i : Int) + 1 = (i9 : Int) := by omega
      have ew2 : IntKind.i64.wrap (i9 : Int) = (i9 : Int) := IntWalk.i64_in _ (by omega)
      have hi3 : i9 ≤ nl := by omega
      have hi4 : nl - i9 < nl - i := by omega
      have jA : (i : Int) < (nA : Int) := by omega
      have HE9 : Hid (i + 1 = i9) := hi9.symm
      have hsz : i9 * 32 ≤ 140737488355328 := by omega
      have hvl : vb < wr.heap.size := World.block_lt_of_cell? wr ⟨vb, vo + i * 2, none⟩ f0
      have hNl : N < wr.heap.size := by have := HM.out; omega
      have f3 := heap_below HF3.out HB.out (by have := HM.out; omega)
      have c0 := heap_cell f3 (o := 0)
      have c1 := heap_cell f3 (o := 1)
      have RBi := Lib.hid rb
      clear r1 u1 hny hi9 hnx hsb hbdi hpp hlc hx0 hgi hix rb pp1 hnxl f3 hlt
      have key : (∃ g : wr.cell? ⟨vb, vo + i9 * 2, none⟩ = some (.int .u32 (nx : Int)), i9 < nA) ∨ (¬ i9 < nA ∧ nx = 0) := by
        by_cases h9 : i9 < nA
        · have hix9 : i9 < A.length := by rw [HNA.out]; exact h9
          obtain ⟨b2, o2, na2, nn2, e2, r2, _⟩ := RBi.out.at hix9
          obtain ⟨rfl, rfl⟩ : vb = b2 ∧ vo = o2 := by cases e2; exact ⟨rfl, rfl⟩
          have e3 : nx = A[i9].1 := by rw [← HNX.out]; unfold nextP; rw [List.getElem?_eq_getElem hix9]
          exact .inl ⟨by rw [e3]; exact r2 0 _ rfl, h9⟩
        · refine .inr ⟨h9, ?_⟩
          rw [← HNX.out]
          unfold nextP
          rw [List.getElem?_eq_none (by rw [HNA.out]; omega)]
      rcases key with ⟨g0, h9⟩ | ⟨h9, h0⟩
      · have jj : (i9 : Int) < (nA : Int) := by omega
        have HB2 := Lib.hid (HBD.out _ rfl)
        clear h9 HBD RBi HNX
        go_upto_region 11 with fail
        clear g0 jj
        refine wp_region_held_drew (S := fun W => W.cell? ⟨N, 0, none⟩ = some (.int .i64 a) ∧ W.cell? ⟨N, 1, none⟩ = some (.int .i64 b) ∧ W.cell? ⟨vb, vo + i * 2 + 1, none⟩ = some (.slice nad ny nn)) (by kernel_rfl) ⟨c0, c1, f1⟩ (fun hHeld => ?_)
        refine' wpAnyH_take (i := 1) (oi := ⟨some 64, .move (.tmp 13), 27, "free.go:257", #[], none⟩) rfl (by kernel_rfl) (by kernel_rfl) (by kernel_rfl) (fun _ _ _ h => h) (Or.inl ⟨by rfl, _⟩) (by assumption) _
        rotate_left
        · (intro wS hSw; (try dsimp only at hSw); go_simp; try with_reducible rfl)
        try simp only [Act.put, nA, nB, nC]
        refine' wpAnyH_take (i := 2) (oi := ⟨some 65, .move (.tmp 10), 44, "free.go:257", #[], none⟩) rfl (by kernel_rfl) (by kernel_rfl) (by kernel_rfl) (fun _ _ _ h => h) (Or.inl ⟨by rfl, _⟩) (by assumption) _
        rotate_left
        · (intro wS hSw; (try dsimp only at hSw); go_simp; try with_reducible rfl)
        try simp only [Act.put, nA, nB, nC]
        refine' wpAnyH_take (i := 3) (oi := ⟨some 66, .move (.tmp 12), 3, "free.go:257", #[], none⟩) rfl (by kernel_rfl) (by kernel_rfl) (by kernel_rfl) (fun _ _ _ h => h) (Or.inl ⟨by rfl, _⟩) (by assumption) _
        rotate_left
        · (intro wS hSw; (try dsimp only at hSw); go_simp; try with_reducible rfl)
        try simp only [Act.put, nA, nB, nC]
        refine' wpAnyH_take (i := 4) (oi := ⟨some 67, .indexAddr 44 (.tmp 65) (.tmp 66), 0, "free.go:257", #[⟨2, .data⟩, ⟨3, .data⟩], none⟩) rfl (by kernel_rfl) (by kernel_rfl) (by kernel_rfl) (fun _ _ _ h => h) (Or.inl ⟨by rfl, _⟩) (by assumption) _
        rotate_left
        · (intro wS hSw; (try dsimp only at hSw); go_simp; try with_reducible rfl)
        try simp only [Act.put, nA, nB, nC]
        refine' wpAnyH_take (i := 5) (oi := ⟨some 68, .fieldAddr 64 (.tmp 67) 1, 0, "free.go:257", #[⟨4, .data⟩], none⟩) rfl (by kernel_rfl) (by kernel_rfl) (by kernel_rfl) (fun _ _ _ h => h) (Or.inl ⟨by rfl, _⟩) (by assumption) _
        rotate_left
        · (intro wS hSw; (try dsimp only at hSw); go_simp; try with_reducible rfl)
        try simp only [Act.put, nA, nB, nC]
        refine' wpAnyH_take (i := 0) (oi := ⟨some 63, .load 23 (.tmp 4), 23, "free.go:257", #[], none⟩) rfl (by kernel_rfl) (by kernel_rfl) (by kernel_rfl) (fun _ _ _ h => h) (Or.inl ⟨by rfl, _⟩) (by assumption) _
        rotate_left
        · (intro wS hSw; (try dsimp only at hSw); go_simp; try with_reducible rfl)
        try simp only [Act.put, nA, nB, nC]
        refine' wpAnyH_take (i := 6) (oi := ⟨some 69, .load 28 (.tmp 68), 28, "free.go:257", #[⟨5, .data⟩], none⟩) rfl (by kernel_rfl) (by kernel_rfl) (by kernel_rfl) (fun _ _ _ h => h) (Or.inl ⟨by rfl, _⟩) (by assumption) _
        rotate_left
        · (intro wS hSw; (try dsimp only at hSw); go_simp; try with_reducible rfl)
        try simp only [Act.put, nA, nB, nC]
        refine wpAnyH_ready (rs := [7]) (by kernel_rfl) (by simp) ?_
        refine AllReadyH.cons (o := ⟨some 70, .call ⟨.value (.func 23), #[.tmp 63, .tmp 64, .tmp 69], #[23, 27, 28]⟩, 33, "free.go:257", #[⟨0, .data⟩, ⟨1, .data⟩, ⟨6, .data⟩], none⟩) rfl (fun K hK => ?_) AllReadyH.nil
        go_simp
        (refine HB2.out.mono ?_; rintro e w5 ⟨rfl, b5⟩)
        refine hK.out _ _ ?_ (fun hHeld => ?_)
        · exact ⟨(b5.cell (p := ⟨N, 0, none⟩) hNl).trans hHeld.1, (b5.cell (p := ⟨N, 1, none⟩) hNl).trans hHeld.2.1, (b5.cell (p := ⟨vb, vo + i * 2 + 1, none⟩) hvl).trans hHeld.2.2⟩
        clear hK K
        try simp only [Act.put, nA, nB, nC]
        refine' wpAnyH_take (i := 8) (oi := ⟨some 62, .move (.tmp 70), 33, "free.go:257", #[⟨7, .data⟩], none⟩) rfl (by kernel_rfl) (by kernel_rfl) (by kernel_rfl) (fun _ _ _ h => h) (Or.inl ⟨by rfl, _⟩) (by assumption) _
        rotate_left
        · (intro wS hSw; (try dsimp only at hSw); go_simp; try with_reducible rfl)
        try simp only [Act.put, nA, nB, nC]
        refine' wpAnyH_take (i := 9) (oi := ⟨some 71, .extract (.tmp 62) 0, 9, "free.go:257", #[⟨8, .data⟩], none⟩) rfl (by kernel_rfl) (by kernel_rfl) (by kernel_rfl) (fun _ _ _ h => h) (Or.inl ⟨by rfl, _⟩) (by assumption) _
        rotate_left
        · (intro wS hSw; (try dsimp only at hSw); go_simp; try with_reducible rfl)
        try simp only [Act.put, nA, nB, nC]
        refine' wpAnyH_take (i := 10) (oi := { dst := Option.some 72, op := Op.extract (Operand.tmp 62) 1, type := 32, pos := "free.go:257", after := #[{ on := 8, ground := Ground.data }, { on := 11, ground := Ground.gcOnly Departure.lateStores }], guard := Option.none }) rfl (by kernel_rfl) (by kernel_rfl) (by kernel_rfl) (fun _ _ _ h => h) (Or.inl ⟨by rfl, _⟩) (by assumption) _
        rotate_left
        · (intro wS hSw; (try dsimp only at hSw); go_simp; try with_reducible rfl)
        try simp only [Act.put, nA, nB, nC]
        refine' wpAnyH_take (i := 11) (oi := { dst := Option.some 14, op := Op.assign (Operand.tmp 71), type := 9, pos := "free.go:257", after := #[{ on := 9, ground := Ground.data }, { on := 7, ground := Ground.chain }, { on := 0, ground := Ground.phase }, { on := 1, ground := Ground.phase }, { on := 2, ground := Ground.phase }, { on := 3, ground := Ground.phase }, { on := 4, ground := Ground.phase }, { on := 5, ground := Ground.phase }, { on := 6, ground := Ground.phase }, { on := 7, ground := Ground.phase }, { on := 8, ground := Ground.phase }, { on := 9, ground := Ground.phase }, { on := 10, ground := Ground.textOnly Departure.lateStores }], guard := Option.none }) rfl (by kernel_rfl) (by kernel_rfl) (by kernel_rfl) (fun _ _ _ h => h) (Or.inl ⟨by rfl, _⟩) (by assumption) _
        rotate_left
        · (intro wS hSw; (try dsimp only at hSw); go_simp; try with_reducible rfl)
        try simp only [Act.put, nA, nB, nC]
        refine' wpAnyH_take (i := 12) (oi := ⟨some 15, .assign (.tmp 72), 32, "free.go:257", #[⟨10, .data⟩, ⟨11, .chain⟩, ⟨0, .phase⟩, ⟨1, .phase⟩, ⟨2, .phase⟩, ⟨3, .phase⟩, ⟨4, .phase⟩, ⟨5, .phase⟩, ⟨6, .phase⟩, ⟨7, .phase⟩, ⟨8, .phase⟩, ⟨9, .phase⟩, ⟨10, .phase⟩, ⟨11, .phase⟩], none⟩) rfl (by kernel_rfl) (by kernel_rfl) (by kernel_rfl) (fun _ _ _ h => h) (Or.inl ⟨by rfl, _⟩) (by assumption) _
        rotate_left
        · (intro wS hSw; (try dsimp only at hSw); go_simp; try with_reducible rfl)
        try simp only [Act.put, nA, nB, nC]
        refine wpAnyH_done (by kernel_rfl) ?_ _
        have bw5 : Below wr.heap.size wr w5 := (Below.refl _ _).drew.trans b5
        have f5 : w5.cell? ⟨vb, vo + i * 2, none⟩ = some (.int .u32 (no : Int)) := (bw5.cell (p := ⟨vb, vo + i * 2, none⟩) hvl).trans f0
        have O5 := Lib.hid (HO.out.below bw5)
        have B5 : Hid (Below T w4 w5) := HB.out.trans (bw5.mono hzr)
        have hz5 : T ≤ w5.heap.size := by have := bw5.size; omega
        clear hHeld c0 c1 f1 f0 b5 bw5 HO HB HB2
        go_upto_region 14 with fail
        with_reducible refine wp_region_list ?_
        (with_reducible refine wpList_plain rfl ?_); intro K hK; go_simp; (with_reducible refine hK _ _ ?_); clear hK K; try simp only [Act.put, nA, nB, nC]
        (with_reducible refine wpList_plain rfl ?_); intro K hK; go_simp; (with_reducible refine hK _ _ ?_); clear hK K; try simp only [Act.put, nA, nB, nC]
        (with_reducible refine wpList_plain rfl ?_); intro K hK; go_simp; (with_reducible refine hK _ _ ?_); clear hK K; try simp only [Act.put, nA, nB, nC]
        (with_reducible refine wpList_plain rfl ?_); intro K hK; go_simp; (with_reducible refine hK _ _ ?_); clear hK K; try simp only [Act.put, nA, nB, nC]
        (with_reducible refine wpList_plain rfl ?_); intro K hK; go_simp; (with_reducible refine hK _ _ ?_); clear hK K; try simp only [Act.put, nA, nB, nC]
        (with_reducible refine wpList_plain rfl ?_); intro K hK; go_simp; (with_reducible refine hK _ _ ?_); clear hK K; try simp only [Act.put, nA, nB, nC]
        (with_reducible refine wpList_plain rfl ?_); intro K hK; go_simp; (with_reducible refine hK _ _ ?_); clear hK K; try simp only [Act.put, nA, nB, nC]
        (with_reducible refine wpList_plain rfl ?_); intro K hK; go_simp; (with_reducible refine hK _ _ ?_); clear hK K; try simp only [Act.put, nA, nB, nC]
        (with_reducible refine wpList_plain rfl ?_); intro K hK; go_simp; (with_reducible refine hK _ _ ?_); clear hK K; try simp only [Act.put, nA, nB, nC]
        (with_reducible refine wpList_plain rfl ?_); intro K hK; go_simp; (with_reducible refine hK _ _ ?_); clear hK K; try simp only [Act.put, nA, nB, nC]
        obtain ⟨wa, hwa⟩ : ∃ W, w5.alloc (.cells #[.int .u8 3, .int .u32 (no : Int), .int .u64 (ver : Int), .string sb] 97) = W := ⟨_, rfl⟩
        have ba : Below w5.heap.size w5 wa := by rw [← hwa]; exact (Below.refl _ _).alloc (Nat.le_refl _) _
        have ha : wa.heap[w5.heap.size]? = some (.cells #[.int .u8 3, .int .u32 (no : Int), .int .u64 (ver : Int), .string sb] 97 (0, 0)) := by rw [← hwa]; exact heap_alloc_new w5 _
        obtain ⟨ti, hti, tz0, tz1, tz2⟩ := info_parts info_Pg
        have hra := O5.out.below ba
        have hsz2 : (i + 1) * 32 ≤ 140737488355328 := by rw [HE9.out]; exact hsz
        have hzw : T ≤ wa.heap.size := by have := ba.size; omega
        rw [hwa]
        refine wpList_appR 82 97 ti _ 4 32 Try.underlying82 hti tz0 tz1 tz2 rfl (by decide) wa rfl _ _ rfl T _ _ _ rfl hra _ rfl 1 [.int .u8 3, .int .u32 (no : Int), .int .u64 (ver : Int), .string sb] (src_laid _ _ Try.underlying82 4 wa [.int .u8 3, .int .u32 (no : Int), .int .u64 (ver : Int), .string sb] rfl (by simp [Value.oneCell']) _ w5.heap.size ha) hsz2 hzw ?_
        intro v6 w6 o6 g6
        rw [← T1.out, HE9.out] at o6
        obtain ⟨ad6, c6, hv6, hy6⟩ := o6.form
        subst hv6
        (try simp only [Act.put, nA, nB, nC])
        (with_reducible refine wpList_plain rfl ?_); intro K hK; go_simp; (with_reducible refine hK _ _ ?_); clear hK K; try simp only [Act.put, nA, nB, nC]
        have HO6 := Lib.hid o6
        have HB6 : Hid (Below T w4 w6) := by
          refine B5.out.trans ((ba.mono hz5).trans ?_)
          rcases g6 with ⟨ad5, cap5, e1, e2, m5⟩ | ⟨b5, _⟩
          · exact m5.below (n := T) (fun q hq hs => by have := (hra.lt q hs).1; omega) hzw
          · exact b5.mono hzw
        have hz6 : T ≤ w6.heap.size := by have := HB6.out.size; have := HT.out; omega
        clear o6 g6 hy6 hra ha ba hwa hsz2 hzw O5 B5 hti tz0 tz1 tz2 T1 f5 hHeld
        go_wp2_with fail
        exact ⟨⟨i9, ad6, c6, hi3, HO6, HB6, hz6, rfl, rfl⟩, by simp only [intOf, Int.toNat_natCast]; exact hi4⟩
      · have jj : ¬ (i9 : Int) < (nA : Int) := by omega
        have HB2 := Lib.hid (HBD.out 0 (by rw [h0]; rfl))
        clear h9 HBD RBi HNX h0
        go_upto_region 11 with fail
        clear jj
        refine wp_region_held_drew (S := fun W => W.cell? ⟨N, 0, none⟩ = some (.int .i64 a) ∧ W.cell? ⟨N, 1, none⟩ = some (.int .i64 b) ∧ W.cell? ⟨vb, vo + i * 2 + 1, none⟩ = some (.slice nad ny nn)) (by kernel_rfl) ⟨c0, c1, f1⟩ (fun hHeld => ?_)
        refine' wpAnyH_take (i := 1) (oi := ⟨some 64, .move (.tmp 13), 27, "free.go:257", #[], none⟩) rfl (by kernel_rfl) (by kernel_rfl) (by kernel_rfl) (fun _ _ _ h => h) (Or.inl ⟨by rfl, _⟩) (by assumption) _
        rotate_left
        · (intro wS hSw; (try dsimp only at hSw); go_simp; try with_reducible rfl)
        try simp only [Act.put, nA, nB, nC]
        refine' wpAnyH_take (i := 2) (oi := ⟨some 65, .move (.tmp 10), 44, "free.go:257", #[], none⟩) rfl (by kernel_rfl) (by kernel_rfl) (by kernel_rfl) (fun _ _ _ h => h) (Or.inl ⟨by rfl, _⟩) (by assumption) _
        rotate_left
        · (intro wS hSw; (try dsimp only at hSw); go_simp; try with_reducible rfl)
        try simp only [Act.put, nA, nB, nC]
        refine' wpAnyH_take (i := 3) (oi := ⟨some 66, .move (.tmp 12), 3, "free.go:257", #[], none⟩) rfl (by kernel_rfl) (by kernel_rfl) (by kernel_rfl) (fun _ _ _ h => h) (Or.inl ⟨by rfl, _⟩) (by assumption) _
        rotate_left
        · (intro wS hSw; (try dsimp only at hSw); go_simp; try with_reducible rfl)
        try simp only [Act.put, nA, nB, nC]
        refine' wpAnyH_take (i := 4) (oi := ⟨some 67, .indexAddr 44 (.tmp 65) (.tmp 66), 0, "free.go:257", #[⟨2, .data⟩, ⟨3, .data⟩], none⟩) rfl (by kernel_rfl) (by kernel_rfl) (by kernel_rfl) (fun _ _ _ h => h) (Or.inl ⟨by rfl, _⟩) (by assumption) _
        rotate_left
        · (intro wS hSw; (try dsimp only at hSw); go_simp; try with_reducible rfl)
        try simp only [Act.put, nA, nB, nC]
        refine' wpAnyH_take (i := 5) (oi := ⟨some 68, .fieldAddr 64 (.tmp 67) 1, 0, "free.go:257", #[⟨4, .data⟩], none⟩) rfl (by kernel_rfl) (by kernel_rfl) (by kernel_rfl) (fun _ _ _ h => h) (Or.inl ⟨by rfl, _⟩) (by assumption) _
        rotate_left
        · (intro wS hSw; (try dsimp only at hSw); go_simp; try with_reducible rfl)
        try simp only [Act.put, nA, nB, nC]
        refine' wpAnyH_take (i := 0) (oi := ⟨some 63, .load 23 (.tmp 4), 23, "free.go:257", #[], none⟩) rfl (by kernel_rfl) (by kernel_rfl) (by kernel_rfl) (fun _ _ _ h => h) (Or.inl ⟨by rfl, _⟩) (by assumption) _
        rotate_left
        · (intro wS hSw; (try dsimp only at hSw); go_simp; try with_reducible rfl)
        try simp only [Act.put, nA, nB, nC]
        refine' wpAnyH_take (i := 6) (oi := ⟨some 69, .load 28 (.tmp 68), 28, "free.go:257", #[⟨5, .data⟩], none⟩) rfl (by kernel_rfl) (by kernel_rfl) (by kernel_rfl) (fun _ _ _ h => h) (Or.inl ⟨by rfl, _⟩) (by assumption) _
        rotate_left
        · (intro wS hSw; (try dsimp only at hSw); go_simp; try with_reducible rfl)
        try simp only [Act.put, nA, nB, nC]
        refine wpAnyH_ready (rs := [7]) (by kernel_rfl) (by simp) ?_
        refine AllReadyH.cons (o := ⟨some 70, .call ⟨.value (.func 23), #[.tmp 63, .tmp 64, .tmp 69], #[23, 27, 28]⟩, 33, "free.go:257", #[⟨0, .data⟩, ⟨1, .data⟩, ⟨6, .data⟩], none⟩) rfl (fun K hK => ?_) AllReadyH.nil
        go_simp
        (refine HB2.out.mono ?_; rintro e w5 ⟨rfl, b5⟩)
        refine hK.out _ _ ?_ (fun hHeld => ?_)
        · exact ⟨(b5.cell (p := ⟨N, 0, none⟩) hNl).trans hHeld.1, (b5.cell (p := ⟨N, 1, none⟩) hNl).trans hHeld.2.1, (b5.cell (p := ⟨vb, vo + i * 2 + 1, none⟩) hvl).trans hHeld.2.2⟩
        clear hK K
        try simp only [Act.put, nA, nB, nC]
        refine' wpAnyH_take (i := 8) (oi := ⟨some 62, .move (.tmp 70), 33, "free.go:257", #[⟨7, .data⟩], none⟩) rfl (by kernel_rfl) (by kernel_rfl) (by kernel_rfl) (fun _ _ _ h => h) (Or.inl ⟨by rfl, _⟩) (by assumption) _
        rotate_left
        · (intro wS hSw; (try dsimp only at hSw); go_simp; try with_reducible rfl)
        try simp only [Act.put, nA, nB, nC]
        refine' wpAnyH_take (i := 9) (oi := ⟨some 71, .extract (.tmp 62) 0, 9, "free.go:257", #[⟨8, .data⟩], none⟩) rfl (by kernel_rfl) (by kernel_rfl) (by kernel_rfl) (fun _ _ _ h => h) (Or.inl ⟨by rfl, _⟩) (by assumption) _
        rotate_left
        · (intro wS hSw; (try dsimp only at hSw); go_simp; try with_reducible rfl)
        try simp only [Act.put, nA, nB, nC]
        refine' wpAnyH_take (i := 10) (oi := { dst := Option.some 72, op := Op.extract (Operand.tmp 62) 1, type := 32, pos := "free.go:257", after := #[{ on := 8, ground := Ground.data }, { on := 11, ground := Ground.gcOnly Departure.lateStores }], guard := Option.none }) rfl (by kernel_rfl) (by kernel_rfl) (by kernel_rfl) (fun _ _ _ h => h) (Or.inl ⟨by rfl, _⟩) (by assumption) _
        rotate_left
        · (intro wS hSw; (try dsimp only at hSw); go_simp; try with_reducible rfl)
        try simp only [Act.put, nA, nB, nC]
        refine' wpAnyH_take (i := 11) (oi := { dst := Option.some 14, op := Op.assign (Operand.tmp 71), type := 9, pos := "free.go:257", after := #[{ on := 9, ground := Ground.data }, { on := 7, ground := Ground.chain }, { on := 0, ground := Ground.phase }, { on := 1, ground := Ground.phase }, { on := 2, ground := Ground.phase }, { on := 3, ground := Ground.phase }, { on := 4, ground := Ground.phase }, { on := 5, ground := Ground.phase }, { on := 6, ground := Ground.phase }, { on := 7, ground := Ground.phase }, { on := 8, ground := Ground.phase }, { on := 9, ground := Ground.phase }, { on := 10, ground := Ground.textOnly Departure.lateStores }], guard := Option.none }) rfl (by kernel_rfl) (by kernel_rfl) (by kernel_rfl) (fun _ _ _ h => h) (Or.inl ⟨by rfl, _⟩) (by assumption) _
        rotate_left
        · (intro wS hSw; (try dsimp only at hSw); go_simp; try with_reducible rfl)
        try simp only [Act.put, nA, nB, nC]
        refine' wpAnyH_take (i := 12) (oi := ⟨some 15, .assign (.tmp 72), 32, "free.go:257", #[⟨10, .data⟩, ⟨11, .chain⟩, ⟨0, .phase⟩, ⟨1, .phase⟩, ⟨2, .phase⟩, ⟨3, .phase⟩, ⟨4, .phase⟩, ⟨5, .phase⟩, ⟨6, .phase⟩, ⟨7, .phase⟩, ⟨8, .phase⟩, ⟨9, .phase⟩, ⟨10, .phase⟩, ⟨11, .phase⟩], none⟩) rfl (by kernel_rfl) (by kernel_rfl) (by kernel_rfl) (fun _ _ _ h => h) (Or.inl ⟨by rfl, _⟩) (by assumption) _
        rotate_left
        · (intro wS hSw; (try dsimp only at hSw); go_simp; try with_reducible rfl)
        try simp only [Act.put, nA, nB, nC]
        refine wpAnyH_done (by kernel_rfl) ?_ _
        have bw5 : Below wr.heap.size wr w5 := (Below.refl _ _).drew.trans b5
        have f5 : w5.cell? ⟨vb, vo + i * 2, none⟩ = some (.int .u32 (no : Int)) := (bw5.cell (p := ⟨vb, vo + i * 2, none⟩) hvl).trans f0
        have O5 := Lib.hid (HO.out.below bw5)
        have B5 : Hid (Below T w4 w5) := HB.out.trans (bw5.mono hzr)
        have hz5 : T ≤ w5.heap.size := by have := bw5.size; omega
        clear hHeld c0 c1 f1 f0 b5 bw5 HO HB HB2
        go_upto_region 14 with fail
        with_reducible refine wp_region_list ?_
        (with_reducible refine wpList_plain rfl ?_); intro K hK; go_simp; (with_reducible refine hK _ _ ?_); clear hK K; try simp only [Act.put, nA, nB, nC]
        (with_reducible refine wpList_plain rfl ?_); intro K hK; go_simp; (with_reducible refine hK _ _ ?_); clear hK K; try simp only [Act.put, nA, nB, nC]
        (with_reducible refine wpList_plain rfl ?_); intro K hK; go_simp; (with_reducible refine hK _ _ ?_); clear hK K; try simp only [Act.put, nA, nB, nC]
        (with_reducible refine wpList_plain rfl ?_); intro K hK; go_simp; (with_reducible refine hK _ _ ?_); clear hK K; try simp only [Act.put, nA, nB, nC]
        (with_reducible refine wpList_plain rfl ?_); intro K hK; go_simp; (with_reducible refine hK _ _ ?_); clear hK K; try simp only [Act.put, nA, nB, nC]
        (with_reducible refine wpList_plain rfl ?_); intro K hK; go_simp; (with_reducible refine hK _ _ ?_); clear hK K; try simp only [Act.put, nA, nB, nC]
        (with_reducible refine wpList_plain rfl ?_); intro K hK; go_simp; (with_reducible refine hK _ _ ?_); clear hK K; try simp only [Act.put, nA, nB, nC]
        (with_reducible refine wpList_plain rfl ?_); intro K hK; go_simp; (with_reducible refine hK _ _ ?_); clear hK K; try simp only [Act.put, nA, nB, nC]
        (with_reducible refine wpList_plain rfl ?_); intro K hK; go_simp; (with_reducible refine hK _ _ ?_); clear hK K; try simp only [Act.put, nA, nB, nC]
        (with_reducible refine wpList_plain rfl ?_); intro K hK; go_simp; (with_reducible refine hK _ _ ?_); clear hK K; try simp only [Act.put, nA, nB, nC]
        obtain ⟨wa, hwa⟩ : ∃ W, w5.alloc (.cells #[.int .u8 3, .int .u32 (no : Int), .int .u64 (ver : Int), .string sb] 97) = W := ⟨_, rfl⟩
        have ba : Below w5.heap.size w5 wa := by rw [← hwa]; exact (Below.refl _ _).alloc (Nat.le_refl _) _
        have ha : wa.heap[w5.heap.size]? = some (.cells #[.int .u8 3, .int .u32 (no : Int), .int .u64 (ver : Int), .string sb] 97 (0, 0)) := by rw [← hwa]; exact heap_alloc_new w5 _
        obtain ⟨ti, hti, tz0, tz1, tz2⟩ := info_parts info_Pg
        have hra := O5.out.below ba
        have hsz2 : (i + 1) * 32 ≤ 140737488355328 := by rw [HE9.out]; exact hsz
        have hzw : T ≤ wa.heap.size := by have := ba.size; omega
        rw [hwa]
        refine wpList_appR 82 97 ti _ 4 32 Try.underlying82 hti tz0 tz1 tz2 rfl (by decide) wa rfl _ _ rfl T _ _ _ rfl hra _ rfl 1 [.int .u8 3, .int .u32 (no : Int), .int .u64 (ver : Int), .string sb] (src_laid _ _ Try.underlying82 4 wa [.int .u8 3, .int .u32 (no : Int), .int .u64 (ver : Int), .string sb] rfl (by simp [Value.oneCell']) _ w5.heap.size ha) hsz2 hzw ?_
        intro v6 w6 o6 g6
        rw [← T1.out, HE9.out] at o6
        obtain ⟨ad6, c6, hv6, hy6⟩ := o6.form
        subst hv6
        (try simp only [Act.put, nA, nB, nC])
        (with_reducible refine wpList_plain rfl ?_); intro K hK; go_simp; (with_reducible refine hK _ _ ?_); clear hK K; try simp only [Act.put, nA, nB, nC]
        have HO6 := Lib.hid o6
        have HB6 : Hid (Below T w4 w6) := by
          refine B5.out.trans ((ba.mono hz5).trans ?_)
          rcases g6 with ⟨ad5, cap5, e1, e2, m5⟩ | ⟨b5, _⟩
          · exact m5.below (n := T) (fun q hq hs => by have := (hra.lt q hs).1; omega) hzw
          · exact b5.mono hzw
        have hz6 : T ≤ w6.heap.size := by have := HB6.out.size; have := HT.out; omega
        clear o6 g6 hy6 hra ha ba hwa hsz2 hzw O5 B5 hti tz0 tz1 tz2 T1 f5 hHeld
        go_wp2_with fail
        exact ⟨⟨i9, ad6, c6, hi3, HO6, HB6, hz6, rfl, rfl⟩, by simp only [intOf, Int.toNat_natCast]; exact hi4⟩
    case neg =>
      have ii : ¬ (i : Int) < (nl : Int) := by omega
      obtain rfl : i = nl := by omega
      have HF : Hid (OwnR 97 4 wr N (.slice va i vc) i (pgs (layP a b ver A i)) ∧ Below N w wr) := ⟨HO.out.mono (by have := HM.out; omega), B4.out.trans (HB.out.mono (by have := HM.out; omega))⟩
      clear hlt HO HB hzr
      go_wp2_with fail
      go_ret2
      exact ⟨_, rfl, HF.out.1, HF.out.2⟩
end Go.Proofs.Ytkngmnfgdlnddaa

namespace Go.Proofs.Ytkngmnfgdlnddaa
open Go.RowKit Go.Lib Hw Go.Maps
set_option linter.unusedSimpArgs false
set_option linter.unusedVariables false

/-- a chain that is right -/
structure RightC (a b : Int) (A : List (Nat × List Nat)) (pages : Nat) : Prop where
  may : mayB a b = true
  lo : 2 ≤ pages
  hi : pages ≤ 65536
  nodup : (flat A).Nodup
  rng : ∀ x ∈ flat A, 2 ≤ x ∧ x < pages
  fit : ∀ c ∈ A, (c.2.length : Int) ≤ entI a b ∧ risB c.2 = true
theorem right_of {a b : Int} {A : List (Nat × List Nat)} {pages : Nat} (h : chkI a b A pages = 0) : RightC a b A pages := by
  unfold chkI at h
  split at h
  · rename_i hm
    simp only [Bool.and_eq_true, decide_eq_true_eq] at hm
    cases hs : seenGo (entI a b) pages A [] with
    | none => rw [hs] at h; cases h
    | some r =>
      obtain ⟨h1, h2, h3, h4⟩ := seenGo_some A [] r hs
      have hM := h2 ⟨List.nodup_nil, fun x hx => by simp at hx⟩
      rw [h1, List.append_nil] at hM
      exact ⟨hm.1, hm.2.1, hm.2.2, (List.reverse_perm (flat A)).nodup_iff.1 hM.1, h3, h4⟩
  · cases h
theorem RightC.chk {a b : Int} {A : List (Nat × List Nat)} {pages : Nat} (h : RightC a b A pages) : chkI a b A pages = 0 := by
  unfold chkI
  rw [if_pos (by simp [h.may, h.lo, h.hi])]
  obtain ⟨r, hr⟩ := seenGo_all A [] (by rw [List.append_nil]; exact h.nodup) h.rng h.fit
  rw [hr]
theorem RightC.take {a b : Int} {A : List (Nat × List Nat)} {pages : Nat} (h : RightC a b A pages) (k : Nat) : RightC a b (A.take k) pages := by
  have e : flat A = flat (A.take k) ++ flat (A.drop k) := by
    unfold flat
    rw [← List.flatMap_append, List.take_append_drop]
  refine ⟨h.may, h.lo, h.hi, ?_, fun x hx => h.rng x (by rw [e]; exact List.mem_append_left _ hx), fun c hc => h.fit c (List.mem_of_mem_take hc)⟩
  have := h.nodup
  rw [e] at this
  exact (List.nodup_append.1 this).1
theorem firsts_flat : ∀ (A : List (Nat × List Nat)), (A.map (·.1)).Sublist (flat A)
  | [] => List.Sublist.slnil
  | c :: r => by
    show (c.1 :: r.map (·.1)).Sublist (c.1 :: c.2 ++ flat r)
    rw [List.cons_append]
    exact List.Sublist.cons_cons _ ((firsts_flat r).trans (List.sublist_append_right _ _))
theorem RightC.next {a b : Int} {A : List (Nat × List Nat)} {pages : Nat} (h : RightC a b A pages) (i : Nat) : nextP A i = 0 ∨ (2 ≤ nextP A i ∧ nextP A i < 65536) := by
  unfold nextP
  cases e : A[i]? with
  | none => exact .inl rfl
  | some c =>
    have hm : c.1 ∈ flat A := List.mem_flatMap.2 ⟨c, List.mem_of_getElem? e, List.mem_cons_self ..⟩
    have := h.rng _ hm
    have := h.hi
    exact .inr (by simp only; omega)
theorem RightC.body {a b : Int} {A : List (Nat × List Nat)} {pages : Nat} (h : RightC a b A pages) (n : Nat) (hn : n = 0 ∨ (2 ≤ n ∧ n < 65536)) {c : Nat × List Nat} (hc : c ∈ A) : bodyB a b n c.2 = true ∧ All4 c.2 ∧ c.1 < 4294967296 ∧ c.2.length < 4294967296 := by
  obtain ⟨f1, f2⟩ := h.fit c hc
  have hr : ∀ x ∈ c.1 :: c.2, 2 ≤ x ∧ x < 65536 := fun x hx => by
    have := h.rng x (List.mem_flatMap.2 ⟨c, hc, hx⟩)
    have := h.hi
    omega
  have hE := entI_bd a b
  refine ⟨?_, fun x hx => by have := hr x (List.mem_cons_of_mem _ hx); omega, by have := hr c.1 (List.mem_cons_self ..); omega, by omega⟩
  unfold bodyB
  simp only [Bool.and_eq_true, Bool.or_eq_true, decide_eq_true_eq, Bool.not_eq_true']
  refine ⟨h.may, ?_, f1, ?_, f2⟩
  · rcases hn with hn | hn
    · exact .inl hn
    · exact .inr (by unfold numB; simp [hn])
  · rw [Bool.eq_false_iff]
    intro ha
    obtain ⟨x, hx, hq⟩ := List.any_eq_true.1 ha
    have := hr x (List.mem_cons_of_mem _ hx)
    unfold numB at hq
    simp [this] at hq
theorem next_body (next : Nat) (xs : List Nat) (h : next < 4294967296) : nextOf (bstr (bodyL next xs)) = next := by
  unfold nextOf bodyL piece
  rw [bstr_list]
  have h1 : (be 4 next).length = 4 := be_length 4 next
  rw [List.drop_zero, List.take_append_of_le_length (by omega), List.take_of_length_le (by omega), told_of_be]
  exact Nat.mod_eq_of_lt h
theorem flat4_drop : ∀ (xs : List Nat) (i : Nat), (xs.flatMap (be 4)).drop (4 * i) = (xs.drop i).flatMap (be 4)
  | xs, 0 => by rw [Nat.mul_zero, List.drop_zero, List.drop_zero]
  | [], i + 1 => by simp
  | x :: r, i + 1 => by
    rw [List.flatMap_cons, List.drop_succ_cons, ← flat4_drop r i]
    have h1 : (be 4 x).length = 4 := be_length 4 x
    have e : 4 * (i + 1) = (be 4 x).length + 4 * i := by omega
    rw [e, List.drop_append]
    simp
theorem nums_body (next : Nat) (xs : List Nat) (h : All4 xs) : numsOf (bstr (bodyL next xs)) xs.length = xs := by
  unfold numsOf
  refine List.ext_getElem (by simp) (fun i h1 h2 => ?_)
  rw [List.getElem_map, List.getElem_range]
  unfold bodyL piece
  rw [bstr_list]
  have e1 : (be 4 next).length = 4 := be_length 4 next
  have e2 : (be 4 xs.length).length = 4 := be_length 4 xs.length
  have e3 : (be 4 next ++ (be 4 xs.length ++ xs.flatMap (be 4))).drop (8 + 4 * i) = (xs.drop i).flatMap (be 4) := by
    rw [← List.append_assoc, ← flat4_drop]
    have e : 8 + 4 * i = (be 4 next ++ be 4 xs.length).length + 4 * i := by rw [List.length_append]; omega
    rw [e, List.drop_append]
    simp
  have e4 : (be 4 xs[i]).length = 4 := be_length 4 _
  rw [e3, List.drop_eq_getElem_cons h2, List.flatMap_cons, List.take_append_of_le_length (by omega), List.take_of_length_le (by omega), told_of_be]
  exact Nat.mod_eq_of_lt (h _ (List.getElem_mem h2))
theorem from_body {a b : Int} {next : Nat} {xs : List Nat} (h : bodyB a b next xs = true) (hn : next < 4294967296) (hx : All4 xs) (hl : xs.length < 4294967296) : fromB a b (bodyS a b next xs) = true ∧ nextOf (bodyS a b next xs) = next ∧ numsOf (bodyS a b next xs) (cntOf (bodyS a b next xs)) = xs := by
  have e := (body_yes h).1
  have hm : mayB a b = true := by unfold bodyB at h; simp only [Bool.and_eq_true] at h; exact h.1
  rw [e]
  have c := cnt_body next xs hl
  have n := next_body next xs hn
  have u := nums_body next xs hx
  refine ⟨?_, n, by rw [c, u]⟩
  unfold fromB
  rw [c, n, u, h, e, hm]
  have hz : (bstr (bodyL next xs)).size = 8 + 4 * xs.length := by
    rw [bstr_size]
    unfold bodyL
    rw [List.length_append, List.length_append, flat4, be_length, be_length]
    omega
  rw [hz]
  simp
  omega
theorem find_at {ps : List Pg} {no k : Nat} (hk : k < ps.length) (h : ps[k].no = no) (hn : ∀ j (hj : j < k), ps[j].no ≠ no) : findP ps no = some ps[k] := by
  unfold findP
  rw [List.find?_eq_some_iff_getElem]
  exact ⟨by simp [h], k, hk, rfl, fun j hj => by simp [hn j hj]⟩
/-- pages that hold a right chain are read as that chain -/
theorem read_back {a b : Int} {A : List (Nat × List Nat)} {pages : Nat} {ps : List Pg} (err : Int) (hr : RightC a b A pages) (hl : ps.length = A.length) (hp : ∀ i (h : i < A.length) (h2 : i < ps.length), ps[i].kind = 3 ∧ ps[i].no = A[i].1 ∧ ps[i].body = bodyS a b (nextP A (i + 1)) A[i].2) : readF a b ps err (nextP A 0) pages = .inr A := by
  have hlen := (chk_len hr.chk).1
  have hA : (A.map (·.1)).Nodup := (firsts_flat A).nodup hr.nodup
  have key : ∀ f k, k ≤ A.length → A.length - k < f → readG a b ps err pages f (nextP A k) (A.take k) = .inr A := by
    intro f
    induction f with
    | zero => intro k _ h; omega
    | succ f ih =>
      intro k hk hf
      rw [readG]
      by_cases he : k = A.length
      · have e : nextP A k = 0 := by unfold nextP; rw [List.getElem?_eq_none (by omega)]
        rw [if_pos e, List.take_of_length_le (by omega)]
      · have hk2 : k < A.length := by omega
        have e : nextP A k = A[k].1 := by unfold nextP; rw [List.getElem?_eq_getElem hk2]
        have hm := List.getElem_mem hk2
        have hr1 := hr.rng A[k].1 (List.mem_flatMap.2 ⟨_, hm, List.mem_cons_self ..⟩)
        rw [if_neg (by omega)]
        obtain ⟨p1, p2, p3⟩ := hp k hk2 (by omega)
        have hfd := find_at (ps := ps) (no := A[k].1) (k := k) (by omega) p2 (fun j hj => by
          obtain ⟨_, q2, _⟩ := hp j (by omega) (by omega)
          rw [q2]
          intro hc
          have h1 := (List.getElem_inj (i := j) (j := k) (h₀ := by rw [List.length_map]; omega) (h₁ := by rw [List.length_map]; omega) hA).1 (by rw [List.getElem_map, List.getElem_map]; exact hc)
          omega)
        rw [e, hfd]
        simp only
        obtain ⟨b1, b2, b3, b4⟩ := hr.body _ (hr.next (k + 1)) hm
        have hnx : nextP A (k + 1) < 4294967296 := by have := hr.next (k + 1); omega
        obtain ⟨f1, f2, f3⟩ := from_body b1 hnx b2 b4
        rw [if_pos p1, p3, if_pos f1, f2, f3]
        have et : A.take k ++ [(A[k].1, A[k].2)] = A.take (k + 1) := (List.take_succ_eq_append_getElem hk2).symm
        rw [et, if_pos (hr.take (k + 1)).chk]
        exact ih (k + 1) (by omega) (by omega)
  unfold readF
  rw [if_pos (by simp [hr.may, hr.lo, hr.hi])]
  exact key 65538 0 (Nat.zero_le _) (by omega)
end Go.Proofs.Ytkngmnfgdlnddaa

namespace Go.Proofs.Ytkngmnfgdlnddaa
open Go.RowKit Go.Lib Hw Go.Maps
set_option linter.unusedSimpArgs false
set_option linter.unusedVariables false

set_option maxRecDepth 5000 in
set_option maxHeartbeats 8000000 in
theorem same_eq (u v : Value) (xs : List (Nat × List Nat)) (w : World) (hu : Hid (CRow w u xs)) (hv : Hid (CRow w v xs)) :
    Calls Try.prog 50 #[u, v] w fun e w' => e = .returned (.bool true) ∧ Below w.heap.size w w' := by
  obtain ⟨ad, c, hu1, hl⟩ := hu.out.form
  obtain ⟨bd, d, hv1, hm⟩ := hv.out.form
  subst hu1 hv1
  obtain ⟨n, hn⟩ : ∃ n, xs.length = n := ⟨_, rfl⟩
  have HN := Lib.hid hn
  obtain ⟨Z, hZ⟩ : ∃ Z, w.heap.size = Z := ⟨_, rfl⟩
  have HZ := Lib.hid hZ
  rw [hn] at hu hv hl ⊢
  rw [hZ]
  clear hZ
  clear hn hm
  have e1 : ((n : Int) != (n : Int)) = false := by simp
  go_enter Try.func50, Try.ntmps50
  go_upto_region 4 with fail
  clear e1
  go_loopw [5] (fun iv wr => ∃ (k : Nat), k ≤ n ∧ Hid (Below Z w wr) ∧ Z ≤ wr.heap.size ∧ iv = .int .i64 (k : Int)) (fun iv _ => n - (intOf iv).toNat)
  case atStart => exact ⟨0, Nat.zero_le _, Below.refl _ _, by have := HZ.out; omega, rfl⟩
  case round =>
    obtain ⟨k, hk, HB, hzr, rfl⟩ := hrel
    obtain ⟨wA, hwA⟩ : ∃ W, W = wr := ⟨_, rfl⟩
    subst hwA
    by_cases hlt : k < n
    case neg =>
      have ik : ¬ (k : Int) < (n : Int) := by omega
      have hb := HB.out
      have HR := Lib.hid hb
      clear hb hlt
      go_wp2_with fail
      go_ret
      exact ⟨rfl, HR.out⟩
    case pos =>
      have ik : (k : Int) < (n : Int) := by omega
      have hkx : k < xs.length := by rw [HN.out]; exact hlt
      obtain ⟨b1, o1, n1, c1, e1, r1, u1, pp1⟩ := (hu.out.below (by rw [HZ.out]; exact HB.out)).at hkx
      obtain ⟨b2, o2, n2, c2, e2, r2, u2, pp2⟩ := (hv.out.below (by rw [HZ.out]; exact HB.out)).at hkx
      subst e1 e2
      clear pp1 pp2
      obtain ⟨⟨x, xl⟩, hx⟩ : ∃ x, xs[k] = x := ⟨_, rfl⟩
      rw [hx] at r1 u1 r2 u2
      simp only at r1 u1 r2 u2
      obtain ⟨m, hmm⟩ : ∃ m, xl.length = m := ⟨_, rfl⟩
      rw [hmm] at r1 r2 u1 u2
      have f1 := r1 0 _ rfl
      have f2 := r1 1 _ rfl
      have f3 := r2 0 _ rfl
      have f4 := r2 1 _ rfl
      unfold uN at f1 f3
      rw [Nat.add_zero] at f1 f3
      have U1 := Lib.hid u1
      have U2 := Lib.hid u2
      have HMM := Lib.hid hmm
      obtain ⟨k9, hk9⟩ : ∃ k9 : Nat, k9 = k + 1 := ⟨_, rfl⟩
      have ew1 : (k : Int) + 1 = (k9 : Int) := by omega
      have ew2 : IntKind.i64.wrap (k9 : Int) = (k9 : Int) := IntWalk.i64_in _ (by omega)
      have hk3 : k9 ≤ n := by omega
      have hk4 : n - k9 < n - k := by omega
      have en : ((x : Int) != (x : Int)) = false := by simp
      have el : ((m : Int) != (m : Int)) = false := by simp
      have G1 := Lib.hid f1
      have G2 := Lib.hid f2
      have G3 := Lib.hid f3
      have G4 := Lib.hid f4
      clear hx r1 r2 u1 u2 hkx hmm hk9
      have HSZ : Hid (∀ j, j < m → ∃ (d1 p1 d2 p2 : Nat) (y : Int), n1 = some ⟨d1, p1, none⟩ ∧ n2 = some ⟨d2, p2, none⟩ ∧ d1 < wA.heap.size ∧ d2 < wA.heap.size ∧ wA.cell? ⟨d1, p1 + j, none⟩ = some (.int .u32 y) ∧ wA.cell? ⟨d2, p2 + j, none⟩ = some (.int .u32 y)) := fun j hj => by
        have hjx : j < xl.length := by rw [HMM.out]; exact hj
        obtain ⟨a1, q1, z1, _, g1⟩ := U1.out.form
        obtain ⟨d1, p1, y1, x1⟩ := g1 (by omega)
        obtain ⟨a2, q2, z2, _, g2⟩ := U2.out.form
        obtain ⟨d2, p2, y2, x2⟩ := g2 (by omega)
        have v1 := x1 j hjx
        have v2 := x2 j hjx
        exact ⟨d1, p1, d2, p2, ((xl[j] : Nat) : Int), (Value.slice.inj z1).1.trans y1, (Value.slice.inj z2).1.trans y2, World.block_lt_of_cell? wA _ v1, World.block_lt_of_cell? wA _ v2, v1, v2⟩
      have hml : m ≤ 9223372036854775807 := by obtain ⟨_, _, e, h, _⟩ := U1.out.form; have := (Value.slice.inj e).2.1; omega
      have l1 : b1 < wA.heap.size := World.block_lt_of_cell? wA _ f1
      have l2 : b2 < wA.heap.size := World.block_lt_of_cell? wA _ f3
      go_upto_region 6 with fail
      go_quiet (fail)
      have bq := below_dN wA nq
      obtain ⟨wq, hwq⟩ : ∃ W, W = wA.drewN nq := ⟨_, rfl⟩
      have BQ : Hid (Below wA.heap.size wA wq) := by rw [hwq]; exact bq
      rw [← hwq]
      clear bq hwq f1 f2 f3 f4 en el
      go_upto_region 9 with fail
      go_loopw [6] (fun iv wr2 => ∃ (j : Nat), j ≤ m ∧ Hid (Below wA.heap.size wA wr2) ∧ iv = .int .i64 (j : Int)) (fun iv _ => m - (intOf iv).toNat)
      case atStart => exact ⟨0, Nat.zero_le _, BQ, rfl⟩
      case round =>
        obtain ⟨j, hj, HJ, rfl⟩ := hrel
        have h2 := (HJ.out.cell (p := ⟨b1, o1 + k * 2 + 1, none⟩) l1).trans G2.out
        have h4 := (HJ.out.cell (p := ⟨b2, o2 + k * 2 + 1, none⟩) l2).trans G4.out
        by_cases hlj : j < m
        case neg =>
          have ij : ¬ (j : Int) < (m : Int) := by omega
          have B9 : Hid (Below Z w wr) := HB.out.trans (HJ.out.mono hzr)
          have hz9 : Z ≤ wr.heap.size := by have := HJ.out.size; omega
          clear hlj HB HJ
          go_wp2_with fail
          exact ⟨⟨k9, hk3, B9, hz9, rfl⟩, by simp only [intOf, Int.toNat_natCast]; exact hk4⟩
        case pos =>
          have ij : (j : Int) < (m : Int) := by omega
          obtain ⟨d1, p1, d2, p2, y, rfl, rfl, s1, s2, v1, v2⟩ := HSZ.out j hlj
          have u1 := (HJ.out.cell (p := ⟨d1, p1 + j, none⟩) s1).trans v1
          have u2 := (HJ.out.cell (p := ⟨d2, p2 + j, none⟩) s2).trans v2
          obtain ⟨j9, hj9⟩ : ∃ k9 : Nat, k9 = j + 1 := ⟨_, rfl⟩
          have ex1 : (j : Int) + 1 = (j9 : Int) := by omega
          have ex2 : IntKind.i64.wrap (j9 : Int) = (j9 : Int) := IntWalk.i64_in _ (by omega)
          have hj3 : j9 ≤ m := by omega
          have hj4 : m - j9 < m - j := by omega
          have en : (y != y) = false := by simp
          clear hj9 v1 v2
          go_upto_region 11 with fail
          go_quiet (fail)
          have bq := below_dN wr nq
          obtain ⟨wq, hwq⟩ : ∃ W, W = wr.drewN nq := ⟨_, rfl⟩
          have BQ2 : Hid (Below wA.heap.size wA wq) := by rw [hwq]; exact HJ.out.trans (bq.mono HJ.out.size)
          rw [← hwq]
          clear bq hwq u1 u2 h2 h4 hlj HJ
          go_wp2_with fail
          exact ⟨⟨j9, hj3, BQ2, rfl⟩, by simp only [intOf, Int.toNat_natCast]; exact hj4⟩
end Go.Proofs.Ytkngmnfgdlnddaa

namespace Go.Proofs.Ytkngmnfgdlnddaa
open Go.RowKit Go.Lib Hw Go.Maps
set_option linter.unusedSimpArgs false
set_option linter.unusedVariables false

/-- the Book's pages behind k batches of the rest -/
def backP (a b : Int) (ver : Nat) (A cs : List (Nat × List Nat)) (nl op k : Nat) : List Pg := layP a b ver A nl ++ (List.range k).map (fun j => pageP a b 1 cs (op + j))
theorem backP_len (a b : Int) (ver : Nat) (A cs : List (Nat × List Nat)) (nl op k : Nat) : (backP a b ver A cs nl op k).length = nl + k := by unfold backP; rw [List.length_append, layP_len, List.length_map, List.length_range]
theorem backP_zero (a b : Int) (ver : Nat) (A cs : List (Nat × List Nat)) (nl op : Nat) : backP a b ver A cs nl op 0 = layP a b ver A nl := by unfold backP; simp
theorem backP_succ (a b : Int) (ver : Nat) (A cs : List (Nat × List Nat)) (nl op k : Nat) : backP a b ver A cs nl op (k + 1) = backP a b ver A cs nl op k ++ [pageP a b 1 cs (op + k)] := by unfold backP; rw [List.range_succ, List.map_append, ← List.append_assoc]; rfl
theorem aft_eq {cs ls : List (Nat × List Nat)} {op : Nat} (h : op ≤ cs.length) : aftL cs (op : Int) ls = ls ++ cs.drop op := by
  unfold aftL
  have : clampN (op : Int) cs.length = op := by unfold clampN; omega
  rw [this]
theorem tail_get {A cs ls : List (Nat × List Nat)} {op : Nat} (hA : A = ls ++ cs.drop op) (j : Nat) : A[ls.length + j]? = cs[op + j]? := by
  rw [hA, List.getElem?_append_right (by omega), List.getElem?_drop]
  congr 1
  omega
theorem tail_next {A cs ls : List (Nat × List Nat)} {op : Nat} (hA : A = ls ++ cs.drop op) (j : Nat) : nextP A (ls.length + j + 1) = nextP cs (op + j + 1) := by
  have h := tail_get hA (j + 1)
  unfold nextP
  rw [Nat.add_assoc, h, Nat.add_assoc]
theorem pageP_at {a b : Int} {ver : Nat} {A : List (Nat × List Nat)} {i : Nat} (h : i < A.length) : pageP a b ver A i = ⟨3, A[i].1, ver, bodyS a b (nextP A (i + 1)) A[i].2⟩ := by
  unfold pageP
  rw [List.getElem?_eq_getElem h]
theorem back_lo {a b : Int} {ver : Nat} {A cs : List (Nat × List Nat)} {nl op k i : Nat} (h : i < nl) : (backP a b ver A cs nl op k)[i]? = some (pageP a b ver A i) := by
  unfold backP
  rw [List.getElem?_append_left (by rw [layP_len]; exact h)]
  unfold layP
  rw [List.getElem?_map, List.getElem?_range h]
  rfl
theorem back_up {a b : Int} {ver : Nat} {A cs : List (Nat × List Nat)} {nl op k j : Nat} (h : j < k) : (backP a b ver A cs nl op k)[nl + j]? = some (pageP a b 1 cs (op + j)) := by
  unfold backP
  rw [List.getElem?_append_right (by rw [layP_len]; omega), layP_len, Nat.add_sub_cancel_left, List.getElem?_map, List.getElem?_range h]
  rfl
theorem back_hp {a b : Int} {ver : Nat} {A cs ls : List (Nat × List Nat)} {op : Nat} (hA : A = ls ++ cs.drop op) (hop : op ≤ cs.length) : (backP a b ver A cs ls.length op (cs.length - op)).length = A.length ∧
    ∀ i (h : i < A.length) (h2 : i < (backP a b ver A cs ls.length op (cs.length - op)).length), (backP a b ver A cs ls.length op (cs.length - op))[i].kind = 3 ∧ (backP a b ver A cs ls.length op (cs.length - op))[i].no = A[i].1 ∧ (backP a b ver A cs ls.length op (cs.length - op))[i].body = bodyS a b (nextP A (i + 1)) A[i].2 := by
  have hl : A.length = ls.length + (cs.length - op) := by rw [hA, List.length_append, List.length_drop]
  refine ⟨by rw [backP_len, hl], fun i h h2 => ?_⟩
  by_cases hi : i < ls.length
  · have e := back_lo (a := a) (b := b) (ver := ver) (A := A) (cs := cs) (op := op) (k := cs.length - op) hi
    rw [List.getElem?_eq_getElem h2] at e
    have e := Option.some.inj e
    rw [e, pageP_at h]
    exact ⟨rfl, rfl, rfl⟩
  · obtain ⟨j, rfl⟩ : ∃ j, i = ls.length + j := ⟨i - ls.length, by omega⟩
    have e := back_up (a := a) (b := b) (ver := ver) (A := A) (cs := cs) (nl := ls.length) (op := op) (k := cs.length - op) (j := j) (by omega)
    rw [List.getElem?_eq_getElem h2] at e
    have e := Option.some.inj e
    have hc : op + j < cs.length := by omega
    have g := tail_get hA j
    rw [List.getElem?_eq_getElem h, List.getElem?_eq_getElem hc] at g
    have g2 := Option.some.inj g
    rw [e, pageP_at hc, ← g2, tail_next hA j]
    exact ⟨rfl, rfl, rfl⟩
theorem bodyS_small (a b : Int) (next : Nat) (xs : List Nat) : (bodyS a b next xs).size ≤ 8 + 4 * 2038 := by
  cases h : bodyB a b next xs with
  | false => rw [(body_no h).1]; decide
  | true =>
    rw [(body_yes h).1, bstr_size]
    unfold bodyL
    rw [List.length_append, List.length_append, flat4, be_length, be_length]
    unfold bodyB at h
    simp only [Bool.and_eq_true, decide_eq_true_eq] at h
    have := entI_bd a b
    omega
theorem back_ok {a b : Int} {ver pages : Nat} {A cs ls : List (Nat × List Nat)} {op : Nat} (hr : RightC a b A pages) (hA : A = ls ++ cs.drop op) (hop : op ≤ cs.length) : PgOk (backP a b ver A cs ls.length op (cs.length - op)) := fun p hp => by
  obtain ⟨i, hi, rfl⟩ := List.mem_iff_getElem.1 hp
  obtain ⟨h1, h2⟩ := back_hp (a := a) (b := b) (ver := ver) hA hop
  obtain ⟨q1, q2, q3⟩ := h2 i (by omega) hi
  rw [q1, q2, q3]
  have hm := List.getElem_mem (l := A) (n := i) (by omega)
  have := hr.rng (A[i]'(by omega)).1 (List.mem_flatMap.2 ⟨_, hm, List.mem_cons_self ..⟩)
  have := hr.hi
  have := bodyS_small a b (nextP A (i + 1)) (A[i]'(by omega)).2
  exact ⟨by omega, by omega, by omega⟩
/-- the rest's bodies -/
theorem rest_body {a b : Int} {pages : Nat} {A cs ls : List (Nat × List Nat)} {op : Nat} (hr : RightC a b A pages) (hA : A = ls ++ cs.drop op) {j : Nat} (hj : op + j < cs.length) : bodyB a b (nextP cs (op + j + 1)) cs[op + j].2 = true ∧ nextP cs (op + j + 1) < 4294967296 := by
  rw [← tail_next hA j]
  have hn := hr.next (ls.length + j + 1)
  have hm : cs[op + j] ∈ A := by
    rw [hA]
    refine List.mem_append_right _ ?_
    have e : cs[op + j] = (cs.drop op)[j]'(by rw [List.length_drop]; omega) := by rw [List.getElem_drop]
    rw [e]
    exact List.getElem_mem _
  exact ⟨(hr.body _ hn hm).1, by omega⟩
end Go.Proofs.Ytkngmnfgdlnddaa

namespace Go.Proofs.Ytkngmnfgdlnddaa
open Go.ChangeShapes Go.WideShapes Go.ChangeAt Go.RowKit Go.Joins Go.Deep Hw
open Go.Lib
set_option linter.unusedVariables false
section
variable {H : Type} {enc : TypeId × Value → H} {W : World} {base : Nat} {sp : Nat → Bool} {b1 : Nat} {held : Bool}
def IsU64 (v : Value) : Prop := ∃ n : Nat, v = .int .u64 (n : Int) ∧ n < 18446744073709551616
set_option maxRecDepth 100000 in
theorem view_u64 {v : Value} {d : DataW H} {p : List MemPlace} (hv : Value.okWide Try.prog W .any b1 92 v) (h : DataW.Trod enc Try.prog W base sp held 92 v d p) : IsU64 v := by
  obtain ⟨a, rfl, rfl, rfl, wa⟩ := open_int Try.underlying92 hv h
  have hb := wf_u64_bd wa
  exact ⟨a.toNat, by rw [Int.toNat_of_nonneg hb.1], by omega⟩
end
end Go.Proofs.Ytkngmnfgdlnddaa

