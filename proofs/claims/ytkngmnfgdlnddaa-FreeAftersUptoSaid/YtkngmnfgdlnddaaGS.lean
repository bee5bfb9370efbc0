/-
  The reference's After.
-/
import Derived.Test.YtkngmnfgdlnddaaGI
set_option linter.unusedSimpArgs false
set_option linter.unusedVariables false
namespace Go.Proofs.Ytkngmnfgdlnddaa
open Go.RowKit Go.Lib Hw Go.Maps
set_option linter.unusedSimpArgs false
set_option linter.unusedVariables false

set_option maxRecDepth 5000 in
set_option maxHeartbeats 4000000 in
theorem Twin_any (pg : Nat) (v : Value) (ys : List Nat) (w : World) (hv : Hid (URow w v ys)) (hz : ys.length * 4 ≤ 140737488355328) :
    Calls Try.prog 75 #[.agg #[.int .u32 (pg : Int), v]] w fun e w' => ∃ u, e = .returned (.agg #[.int .u32 (pg : Int), u]) ∧ OwnO w' w.heap.size u ys ∧ Below w.heap.size w w' := by
  obtain ⟨ad, c, hv1, hx1, hx2⟩ := hv.out.form
  clear hx1 hx2
  subst hv1
  obtain ⟨N, hN⟩ : ∃ N, w.heap.size = N := ⟨_, rfl⟩
  have HN := Lib.hid hN
  rw [hN]
  clear hN
  obtain ⟨n, hn⟩ : ∃ n, ys.length = n := ⟨_, rfl⟩
  have HL := Lib.hid hn
  rw [hn] at hv ⊢
  clear hn
  go_enter Try.func75, Try.ntmps75
  go_upto_region 0 with fail
  with_reducible refine wp_region_list ?_
  refine wpList_boxB rfl _ _ rfl N HN.out #[.int .u32 (pg : Int), .slice ad n c] rfl ?_
  intro w1 e1 b1 z1
  (try simp only [Act.put, nA, nB, nC])
  refine wpList_allocB rfl 64 rfl (N + 1) z1 (.agg #[.int .u32 0, .slice none 0 0]) (fun _ => by kernel_rfl) ?_
  intro w2 e2 b2 z2
  (try simp only [Act.put, nA, nB, nC])
  have f1 := heap_below e1 b2 (by omega)
  have B2 : Hid (Below N w w2) := b1.trans (b2.mono (by omega))
  have F1 := Lib.hid f1
  have E2 := Lib.hid e2
  have c0 := heap_cell f1 (o := 0)
  have c1 := heap_cell f1 (o := 1)
  have hz2 : N + 1 < w2.heap.size := by omega
  clear e1 b1 z1 b2 f1 e2 z2
  go_upto_region 2 with fail
  with_reducible refine wp_region_list ?_
  (with_reducible refine wpList_plain rfl ?_); intro K hK; go_simp; (with_reducible refine hK _ _ ?_); clear hK K; try simp only [Act.put, nA, nB, nC]
  (with_reducible refine wpList_plain rfl ?_); intro K hK; go_simp; (with_reducible refine hK _ _ ?_); clear hK K; try simp only [Act.put, nA, nB, nC]
  (with_reducible refine wpList_plain rfl ?_); intro K hK; go_simp; (with_reducible refine hK _ _ ?_); clear hK K; try simp only [Act.put, nA, nB, nC]
  refine wpList_appO w2 rfl _ _ rfl (N + 2) (.slice none 0 0) [] rfl (OwnO.nil _ _) _ rfl ys (src_row (hv.out.below (by rw [HN.out]; exact B2.out))) (by simpa using hz) (by omega) ?_
  intro v3 w3 o3 m3 n3
  rw [List.nil_append] at o3
  obtain ⟨uad, uc, hv3, hq1, hq2, hq3⟩ := o3.shape
  obtain ⟨un, hun⟩ : ∃ n, ys.length = n := ⟨_, rfl⟩
  rw [hun] at hv3
  subst hv3
  (try simp only [Act.put, nA, nB, nC])
  (with_reducible refine wpList_plain rfl ?_); intro K hK; go_simp; (with_reducible refine hK _ _ ?_); clear hK K; try simp only [Act.put, nA, nB, nC]
  have b3 : Below w2.heap.size w2 w3 := m3.below (fun k hk e => by cases e) (Nat.le_refl _)
  have F3 := Lib.hid (heap_below F1.out b3 (by omega))
  have E3 := heap_below E2.out b3 (by omega)
  have B3 : Hid (Below N w w3) := B2.out.trans (b3.mono (by omega))
  have O3 := Lib.hid o3
  have hz3 : N + 1 < w3.heap.size := by have := b3.size; omega
  have c0 := heap_cell F3.out (o := 0)
  clear c1 hq1 hq2 hq3 hun m3 n3 b3 o3 F1 E2 B2
  go_upto_region 3 with fail
  with_reducible refine wp_region_list ?_
  (with_reducible refine wpList_plain rfl ?_); intro K hK; go_simp; (with_reducible refine hK _ _ ?_); clear hK K; try simp only [Act.put, nA, nB, nC]
  (with_reducible refine wpList_plain rfl ?_); intro K hK; go_simp; (with_reducible refine hK _ _ ?_); clear hK K; try simp only [Act.put, nA, nB, nC]
  (with_reducible refine wpList_plain rfl ?_); intro K hK; go_simp; (with_reducible refine hK _ _ ?_); clear hK K; try simp only [Act.put, nA, nB, nC]
  (with_reducible refine wpList_plain rfl ?_); intro K hK; go_simp; (with_reducible refine hK _ _ ?_); clear hK K; try simp only [Act.put, nA, nB, nC]
  refine wpList_storeB rfl 64 _ _ rfl (N + 1) #[.int .u32 (pg : Int), .slice uad un uc] rfl rfl 64 _ E3 info_B rfl (by simp [Value.oneCell']) ?_
  intro w4 e4 m4
  (try simp only [Act.put, nA, nB, nC])
  have O4 := Lib.hid (O3.out.mod m4 (fun q hq hs => by have := (O3.out.lt q hq).1; omega))
  have B4 : Hid (Below N w w4) := B3.out.trans (m4.below (fun q hq hs => by omega) (by omega))
  have d0 := heap_cell e4 (o := 0)
  have d1 := heap_cell e4 (o := 1)
  clear c0 E3 F3 O3 B3 m4
  go_wp2_with fail
  refine bodyPost_ret (v := .agg #[.int .u32 (pg : Int), .slice uad un uc]) (by simp [results, Try.results75, go_sem, d0, d1]) rfl ⟨_, rfl, O4.out.mono (by omega), B4.out⟩
set_option maxRecDepth 5000 in
set_option maxHeartbeats 8000000 in
theorem refAfter_any (lv chv tv : Value) (ls cs : List (Nat × List Nat)) (op : Int) (pg : Int) (w : World) (hl : Hid (CRow w lv ls)) (hc : Hid (CRow w chv cs)) (hz : Hid ((ls.length + cs.length) * 32 ≤ 140737488355328)) (hz2 : Hid (∀ c ∈ ls ++ cs, c.2.length * 4 ≤ 140737488355328)) :
    Calls Try.prog 42 #[chv, .agg #[tv, lv, .int .i64 op, .int .u32 pg]] w fun e w' => ∃ v, e = .returned v ∧ ∃ bs, OwnC w' w.heap.size v bs ∧ Dealt w' w.heap.size v bs (aftL cs op ls) ∧ Below w.heap.size w w' := by
  obtain ⟨lad, lc, hlv, hx1⟩ := hl.out.form
  obtain ⟨cad, cc, hcv, hx2⟩ := hc.out.form
  subst hlv hcv
  obtain ⟨N, hN⟩ : ∃ N, w.heap.size = N := ⟨_, rfl⟩
  have HN := Lib.hid hN
  rw [hN]
  clear hN
  obtain ⟨nc, hnc⟩ : ∃ k, cs.length = k := ⟨_, rfl⟩
  have HNC := Lib.hid hnc
  obtain ⟨nl, hnl⟩ : ∃ k, ls.length = k := ⟨_, rfl⟩
  have HNL := Lib.hid hnl
  obtain ⟨k0, hk0⟩ : ∃ k, clampN op nc = k := ⟨_, rfl⟩
  have hk1 : k0 ≤ nc := by rw [← hk0]; exact clampN_le op nc
  have ek : Hid (∀ j : Nat, j < nc → (op ≤ (j : Int) ↔ k0 ≤ j)) := fun j hj => by rw [← hk0]; unfold clampN; omega
  have HAF : Hid (aftL cs op ls = ls ++ cs.drop k0) := by show _ = _; unfold aftL; rw [hnc, hk0]
  rw [hnc] at hc hx2 ⊢
  rw [hnl] at hl hx1 ⊢
  clear hnc hnl hk0
  go_enter Try.func42, Try.ntmps42
  go_upto_region 0 with fail
  with_reducible refine wp_region_list ?_
  refine wpList_boxB rfl _ _ rfl N HN.out #[tv, .slice lad nl lc, .int .i64 op, .int .u32 pg] rfl ?_
  intro w2 e2 b2 z2
  (try simp only [Act.put, nA, nB, nC])
  (with_reducible refine wpList_plain rfl ?_); intro K hK; go_simp; (with_reducible refine hK _ _ ?_); clear hK K; try simp only [Act.put, nA, nB, nC]
  obtain ⟨M, hM⟩ : ∃ M, M = N + 1 := ⟨_, rfl⟩
  have E2 := Lib.hid e2
  have B2 := Lib.hid b2
  have HM := Lib.hid hM
  have Z2 : Hid (w2.heap.size = M) := by show _ = _; omega
  have CL : Hid (CRow w2 (.slice lad nl lc) ls) := hl.out.below (by rw [HN.out]; exact B2.out)
  have CC : Hid (CRow w2 (.slice cad nc cc) cs) := hc.out.below (by rw [HN.out]; exact B2.out)
  clear e2 b2 z2 hM hl hc
  go_upto_region 3 with fail
  go_loopw [5, 6] (fun lv iv wr => ∃ (i : Nat) (va : Option Addr) (vn vc : Nat) (bs : List (Nat × Value)), i ≤ nl ∧ Hid (OwnC wr M (.slice va vn vc) bs) ∧ Hid (Dealt wr M (.slice va vn vc) bs (ls.take i)) ∧ Hid (Below M w2 wr) ∧ M ≤ wr.heap.size ∧ lv = .slice va vn vc ∧ iv = .int .i64 (i : Int)) (fun _ iv _ => nl - (intOf iv).toNat)
  case atStart => exact ⟨0, none, 0, 0, [], Nat.zero_le _, OwnC.nil _ _, Dealt.nil _ _ _, Below.refl _ _, by have := Z2.out; omega, rfl, rfl⟩
  case round =>
    obtain ⟨i, va, vn, vc, bs, hi, HO, HD, HB, hzr, rfl, rfl⟩ := hrel
    have Er := heap_below E2.out HB.out (by have := HM.out; omega)
    have c1 := heap_cell Er (o := 1)
    by_cases hlt : i < nl
    case pos =>
      have ii : (i : Int) < (nl : Int) := by omega
      obtain ⟨i9, hi9⟩ : ∃ k9 : Nat, k9 = i + 1 := ⟨_, rfl⟩
      have ew1 : (i : Int) + 1 = (i9 : Int) := by omega
      have ew2 : IntKind.i64.wrap (i9 : Int) = (i9 : Int) := IntWalk.i64_in _ (by omega)
      have hi3 : i9 ≤ nl := by omega
      have hi4 : nl - i9 < nl - i := by omega
      have HI9 := Lib.hid hi9
      have hix : i < ls.length := by have := HNL.out; omega
      have hzc := hz2.out _ (List.mem_append_left _ (List.getElem_mem hix))
      obtain ⟨vb, vo, nad, nn, e1, r1, u1, pp1⟩ := CL.out.at hix
      subst e1
      obtain ⟨⟨pg1, ys⟩, hx0⟩ : ∃ x, ls[i] = x := ⟨_, rfl⟩
      rw [hx0] at r1 u1 pp1 hzc
      simp only at r1 u1 pp1 hzc
      have hvb : vb < M := by rw [← Z2.out]; exact World.block_lt_of_cell? w2 ⟨vb, vo + i * 2 + 0, none⟩ (r1 0 _ rfl)
      have HR := Lib.hid (range_block r1 (HB.out.block vb hvb))
      have HU := Lib.hid u1
      obtain ⟨ny, hny⟩ : ∃ n, ys.length = n := ⟨_, rfl⟩
      rw [hny] at HR HU
      have HTW := Lib.hid (Twin_any pg1 (.slice nad ny nn) ys wr (HU.out.below (by rw [Z2.out]; exact HB.out)) hzc)
      have HX0 := Lib.hid hx0
      clear hny u1 pp1 hzc r1 hx0
      have T1 : Hid (ls.take i9 = ls.take i ++ [(pg1, ys)]) := by show _ = _; rw [HI9.out, List.take_succ_eq_append_getElem hix, HX0.out]
      clear hi9 hlt Er HX0 hix
      go_upto_region 5 with fail
      with_reducible refine wp_region_list ?_
      (with_reducible refine wpList_plain rfl ?_); intro K hK; go_simp; (with_reducible refine hK _ _ ?_); clear hK K; try simp only [Act.put, nA, nB, nC]
      (with_reducible refine wpList_plain rfl ?_); intro K hK; go_simp; (with_reducible refine hK _ _ ?_); clear hK K; try simp only [Act.put, nA, nB, nC]
      (with_reducible refine wpList_plain rfl ?_); intro K hK; go_simp; (with_reducible refine hK _ _ ?_); clear hK K; try simp only [Act.put, nA, nB, nC]
      (with_reducible refine wpList_plain rfl ?_); intro K hK; go_simp; (with_reducible refine hK _ _ ?_); clear hK K; try simp only [Act.put, nA, nB, nC]
      (with_reducible refine wpList_plain rfl ?_); intro K hK; go_simp; (with_reducible refine hK _ _ ?_); clear hK K; try simp only [Act.put, nA, nB, nC]
      refine wpList_load_mid rfl 64 _ rfl vb (vo + i * 2) rfl [uN pg1, .slice nad ny nn] _ HR.out Try.underlying64 rfl info_B ?_
      (try simp only [Act.put, nA, nB, nC])
      with_reducible refine wpList_plain rfl ?_
      intro K hK
      go_simp
      refine HTW.out.mono ?_; rintro e w5 ⟨u, rfl, o5, b5⟩; obtain ⟨uad, uc, hue, hq1, hq2, hq3⟩ := o5.shape; obtain ⟨un, hun⟩ : ∃ n, ys.length = n := ⟨_, rfl⟩; rw [hun] at hue; clear hq1 hq2 hq3 hun; subst hue
      first | with_reducible refine hK _ _ ?_ | refine hK _ _ ?_
      clear hK K
      (try simp only [Act.put, nA, nB, nC])
      (with_reducible refine wpList_plain rfl ?_); intro K hK; go_simp; (with_reducible refine hK _ _ ?_); clear hK K; try simp only [Act.put, nA, nB, nC]
      obtain ⟨wa, hwa⟩ : ∃ W, w5.alloc (.cells #[.int .u32 (pg1 : Int), .slice uad un uc] 64) = W := ⟨_, rfl⟩
      have ba' : Below w5.heap.size w5 wa := by rw [← hwa]; exact (Below.refl _ _).alloc (Nat.le_refl _) _
      have ha : wa.heap[w5.heap.size]? = some (.cells (bpair (pg1, .slice uad un uc)).toArray 64 (0, 0)) := by rw [← hwa]; exact heap_alloc_new w5 _
      have O5 := HO.out.below b5 (fun g hg => (HO.out.lt g hg).2)
      have Oa := O5.below ba' (fun g hg => (O5.lt g hg).2)
      have hza : M ≤ wa.heap.size := by have := ba'.size; have := b5.size; omega
      have hbl : (bs.length + 1) * 32 ≤ 140737488355328 := by obtain ⟨hh, _⟩ := HD.out; rw [List.length_take] at hh; have := hz.out; have := HNL.out; omega
      rw [hwa]
      with_reducible refine wpList_plain rfl ?_
      intro K hK
      refine wp_appC2 wa (pg1, .slice uad un uc) rfl _ _ rfl M (.slice va vn vc) bs rfl Oa w5.heap.size 1 rfl ha hbl hza ?_
      intro v6 w6 O6 M6 F6
      refine hK _ _ ?_
      clear hK K
      obtain ⟨ad6, cp6, hv6, hy1, hy2, hy3⟩ := O6.shape
      clear hy1 hy2 hy3
      rw [List.length_append, List.length_singleton] at hv6
      subst hv6
      (try simp only [Act.put, nA, nB, nC])
      (with_reducible refine wpList_plain rfl ?_); intro K hK; go_simp; (with_reducible refine hK _ _ ?_); clear hK K; try simp only [Act.put, nA, nB, nC]
      have HO6 := Lib.hid O6
      have HB6 : Hid (Below M w2 w6) := (HB.out.trans ((b5.trans (ba'.mono b5.size)).mono hzr)).trans (M6.below (n := M) (fun j hj e => by have := (Oa.lt j e).1; omega) (by omega))
      have hz6 : M ≤ w6.heap.size := Nat.le_trans hza M6.size
      have HD6 : Hid (Dealt w6 M (.slice ad6 (bs.length + 1) cp6) (bs ++ [(pg1, .slice uad un uc)]) (ls.take i9)) := by
        show Dealt _ _ _ _ _
        rw [T1.out]
        exact HD.out.snoc hzr HO.out b5 o5 ba' M6 F6
      clear O6 M6 F6 O5 Oa ba' ha hwa HO HD HB hza hzr hbl b5 o5 HTW HR HU
      clear c1
      go_wp2_with fail
      exact ⟨⟨i9, ad6, bs.length + 1, cp6, _, hi3, HO6, HD6, HB6, hz6, rfl, rfl⟩, by simp only [intOf, Int.toNat_natCast]; exact hi4⟩
    case neg =>
      have ii : ¬ (i : Int) < (nl : Int) := by omega
      have HD0 : Hid (Dealt wr M (.slice va vn vc) bs (ls ++ (cs.drop k0).take (0 - k0))) := by
        have h := HD.out
        have ht : ls.take i = ls := List.take_of_length_le (by rw [HNL.out]; omega)
        rw [ht] at h
        show Dealt _ _ _ _ _
        rw [Nat.zero_sub, List.take_zero, List.append_nil]
        exact h
      clear hlt hi HD Er
      go_upto_region 7 with fail
      clear c1 ii
      go_loopw [5, 7] (fun lv iv wr => ∃ (i : Nat) (va : Option Addr) (vn vc : Nat) (bs : List (Nat × Value)), i ≤ nc ∧ Hid (OwnC wr M (.slice va vn vc) bs) ∧ Hid (Dealt wr M (.slice va vn vc) bs (ls ++ (cs.drop k0).take (i - k0))) ∧ Hid (Below M w2 wr) ∧ M ≤ wr.heap.size ∧ lv = .slice va vn vc ∧ iv = .int .i64 (i : Int)) (fun _ iv _ => nc - (intOf iv).toNat)
      case atStart => exact ⟨0, va, vn, vc, bs, Nat.zero_le _, HO, HD0, HB, hzr, rfl, rfl⟩
      case round =>
        clear HO HD0 HB hzr
        obtain ⟨i, va, vn, vc, bs, hi, HO, HD, HB, hzr, rfl, rfl⟩ := hrel
        have Er := heap_below E2.out HB.out (by have := HM.out; omega)
        have c2 := heap_cell Er (o := 2)
        by_cases hlt : i < nc
        case pos =>
          have ii : (i : Int) < (nc : Int) := by omega
          obtain ⟨i9, hi9⟩ : ∃ k9 : Nat, k9 = i + 1 := ⟨_, rfl⟩
          have ew1 : (i : Int) + 1 = (i9 : Int) := by omega
          have ew2 : IntKind.i64.wrap (i9 : Int) = (i9 : Int) := IntWalk.i64_in _ (by omega)
          have hi3 : i9 ≤ nc := by omega
          have hi4 : nc - i9 < nc - i := by omega
          have HI9 := Lib.hid hi9
          have hop := ek.out i hlt
          by_cases hki : k0 ≤ i
          case neg =>
            have y1 : decide (op ≤ (i : Int)) = false := decide_eq_false (by omega)
            have HD5 : Hid (Dealt wr M (.slice va vn vc) bs (ls ++ (cs.drop k0).take (i9 - k0))) := by
              have h := HD.out
              rw [show i - k0 = 0 by omega] at h
              show Dealt _ _ _ _ _
              rw [show i9 - k0 = 0 by omega]
              exact h
            clear hi9 hlt Er hop hki HD
            go_wp2_with fail
            exact ⟨⟨i9, va, vn, vc, bs, hi3, HO, HD5, HB, hzr, rfl, rfl⟩, by simp only [intOf, Int.toNat_natCast]; exact hi4⟩
          case pos =>
            have y1 : decide (op ≤ (i : Int)) = true := decide_eq_true (by omega)
            have hix : i < cs.length := by have := HNC.out; omega
            have hzc := hz2.out _ (List.mem_append_right _ (List.getElem_mem hix))
            obtain ⟨vb, vo, nad, nn, e1, r1, u1, pp1⟩ := CC.out.at hix
            subst e1
            obtain ⟨⟨pg1, ys⟩, hx0⟩ : ∃ x, cs[i] = x := ⟨_, rfl⟩
            rw [hx0] at r1 u1 pp1 hzc
            simp only at r1 u1 pp1 hzc
            have hvb : vb < M := by rw [← Z2.out]; exact World.block_lt_of_cell? w2 ⟨vb, vo + i * 2 + 0, none⟩ (r1 0 _ rfl)
            have HR := Lib.hid (range_block r1 (HB.out.block vb hvb))
            have HU := Lib.hid u1
            obtain ⟨ny, hny⟩ : ∃ n, ys.length = n := ⟨_, rfl⟩
            rw [hny] at HR HU
            have HTW := Lib.hid (Twin_any pg1 (.slice nad ny nn) ys wr (HU.out.below (by rw [Z2.out]; exact HB.out)) hzc)
            have HX0 := Lib.hid hx0
            clear hny u1 pp1 hzc r1 hx0
            have T1 : Hid (ls ++ (cs.drop k0).take (i9 - k0) = ls ++ (cs.drop k0).take (i - k0) ++ [(pg1, ys)]) := by
              have h1 : i - k0 < (cs.drop k0).length := by rw [List.length_drop]; omega
              have h2 := List.take_succ_eq_append_getElem h1
              have h3 : (cs.drop k0)[i - k0] = (pg1, ys) := by
                rw [List.getElem_drop]
                simp only [show k0 + (i - k0) = i by omega]
                exact HX0.out
              rw [h3] at h2
              show _ = _
              rw [show i9 - k0 = i - k0 + 1 by omega, h2, List.append_assoc]
            clear hi9 hlt Er hop HX0 hix
            go_upto_region 10 with fail
            clear c2 y1
            with_reducible refine wp_region_list ?_
            (with_reducible refine wpList_plain rfl ?_); intro K hK; go_simp; (with_reducible refine hK _ _ ?_); clear hK K; try simp only [Act.put, nA, nB, nC]
            (with_reducible refine wpList_plain rfl ?_); intro K hK; go_simp; (with_reducible refine hK _ _ ?_); clear hK K; try simp only [Act.put, nA, nB, nC]
            (with_reducible refine wpList_plain rfl ?_); intro K hK; go_simp; (with_reducible refine hK _ _ ?_); clear hK K; try simp only [Act.put, nA, nB, nC]
            (with_reducible refine wpList_plain rfl ?_); intro K hK; go_simp; (with_reducible refine hK _ _ ?_); clear hK K; try simp only [Act.put, nA, nB, nC]
            refine wpList_load_mid rfl 64 _ rfl vb (vo + i * 2) rfl [uN pg1, .slice nad ny nn] _ HR.out Try.underlying64 rfl info_B ?_
            (try simp only [Act.put, nA, nB, nC])
            with_reducible refine wpList_plain rfl ?_
            intro K hK
            go_simp
            refine HTW.out.mono ?_; rintro e w5 ⟨u, rfl, o5, b5⟩; obtain ⟨uad, uc, hue, hq1, hq2, hq3⟩ := o5.shape; obtain ⟨un, hun⟩ : ∃ n, ys.length = n := ⟨_, rfl⟩; rw [hun] at hue; clear hq1 hq2 hq3 hun; subst hue
            first | with_reducible refine hK _ _ ?_ | refine hK _ _ ?_
            clear hK K
            (try simp only [Act.put, nA, nB, nC])
            (with_reducible refine wpList_plain rfl ?_); intro K hK; go_simp; (with_reducible refine hK _ _ ?_); clear hK K; try simp only [Act.put, nA, nB, nC]
            obtain ⟨wa, hwa⟩ : ∃ W, w5.alloc (.cells #[.int .u32 (pg1 : Int), .slice uad un uc] 64) = W := ⟨_, rfl⟩
            have ba' : Below w5.heap.size w5 wa := by rw [← hwa]; exact (Below.refl _ _).alloc (Nat.le_refl _) _
            have ha : wa.heap[w5.heap.size]? = some (.cells (bpair (pg1, .slice uad un uc)).toArray 64 (0, 0)) := by rw [← hwa]; exact heap_alloc_new w5 _
            have O5 := HO.out.below b5 (fun g hg => (HO.out.lt g hg).2)
            have Oa := O5.below ba' (fun g hg => (O5.lt g hg).2)
            have hza : M ≤ wa.heap.size := by have := ba'.size; have := b5.size; omega
            have hbl : (bs.length + 1) * 32 ≤ 140737488355328 := by obtain ⟨hh, _⟩ := HD.out; rw [List.length_append, List.length_take, List.length_drop] at hh; have := hz.out; have := HNL.out; have := HNC.out; omega
            rw [hwa]
            with_reducible refine wpList_plain rfl ?_
            intro K hK
            refine wp_appC2 wa (pg1, .slice uad un uc) rfl _ _ rfl M (.slice va vn vc) bs rfl Oa w5.heap.size 1 rfl ha hbl hza ?_
            intro v6 w6 O6 M6 F6
            refine hK _ _ ?_
            clear hK K
            obtain ⟨ad6, cp6, hv6, hy1, hy2, hy3⟩ := O6.shape
            clear hy1 hy2 hy3
            rw [List.length_append, List.length_singleton] at hv6
            subst hv6
            (try simp only [Act.put, nA, nB, nC])
            (with_reducible refine wpList_plain rfl ?_); intro K hK; go_simp; (with_reducible refine hK _ _ ?_); clear hK K; try simp only [Act.put, nA, nB, nC]
            have HO6 := Lib.hid O6
            have HB6 : Hid (Below M w2 w6) := (HB.out.trans ((b5.trans (ba'.mono b5.size)).mono hzr)).trans (M6.below (n := M) (fun j hj e => by have := (Oa.lt j e).1; omega) (by omega))
            have hz6 : M ≤ w6.heap.size := Nat.le_trans hza M6.size
            have HD6 : Hid (Dealt w6 M (.slice ad6 (bs.length + 1) cp6) (bs ++ [(pg1, .slice uad un uc)]) (ls ++ (cs.drop k0).take (i9 - k0))) := by
              show Dealt _ _ _ _ _
              rw [T1.out]
              exact HD.out.snoc hzr HO.out b5 o5 ba' M6 F6
            clear O6 M6 F6 O5 Oa ba' ha hwa HO HD HB hza hzr hbl b5 o5 HTW HR HU
            go_wp2_with fail
            exact ⟨⟨i9, ad6, bs.length + 1, cp6, _, hi3, HO6, HD6, HB6, hz6, rfl, rfl⟩, by simp only [intOf, Int.toNat_natCast]; exact hi4⟩
        case neg =>
          have ii : ¬ (i : Int) < (nc : Int) := by omega
          have HF : Hid (OwnC wr N (.slice va vn vc) bs ∧ Dealt wr N (.slice va vn vc) bs (aftL cs op ls) ∧ Below N w wr) := by
            refine ⟨HO.out.mono (by have := HM.out; omega), ?_, B2.out.trans (HB.out.mono (by have := HM.out; omega))⟩
            have h := HD.out
            have ht : (cs.drop k0).take (i - k0) = cs.drop k0 := List.take_of_length_le (by rw [List.length_drop, HNC.out]; omega)
            rw [ht, ← HAF.out] at h
            exact h.mono (by have := HM.out; omega)
          clear hlt hi HO HD HB hzr Er c2
          go_wp2_with fail
          go_ret
          exact ⟨_, rfl, bs, HF.out.1, HF.out.2.1, HF.out.2.2⟩
end Go.Proofs.Ytkngmnfgdlnddaa

