/-
  The walk of Plan.
-/
import Derived.Test.YtkngmnfgdlnddaaGG
set_option linter.unusedSimpArgs false
set_option linter.unusedVariables false
namespace Go.Proofs.Ytkngmnfgdlnddaa
open Go.RowKit Go.Lib Hw Go.Maps
set_option linter.unusedSimpArgs false
set_option linter.unusedVariables false

def zeroPlan : Value := .agg #[.slice none 0 0, .slice none 0 0, .int .i64 0, .int .u32 0]
def PlanPost (w0 : World) (r : Int ⊕ PlanV) (e : Ending) (w' : World) : Prop :=
  Below w0.heap.size w0 w' ∧ match r with
  | .inl k => e = .returned (.tuple #[zeroPlan, .int .i64 k])
  | .inr p => ∃ tv lv bs N1, e = .returned (.tuple #[.agg #[tv, lv, .int .i64 (p.opened : Int), .int .u32 (p.pages : Int)], .int .i64 0]) ∧ w0.heap.size ≤ N1 ∧ OwnM w' w0.heap.size tv p.trees ∧ (∀ g, tv.ownBlock = some g → g < N1) ∧ OwnC w' N1 lv bs ∧ Dealt w' N1 lv bs p.lists
set_option maxRecDepth 5000 in
set_option maxHeartbeats 80000000 in
theorem Plan_any (a b : Int) (pages most : Nat) (trees : Int) (chv hv rv : Value) (chain : List (Nat × List Nat)) (held rel : List Nat) (w : World) (hch : Hid (CRow w chv chain)) (hhe : Hid (URow w hv held)) (hre : Hid (URow w rv rel)) (hp : pages < 4294967296) (hm : most < 4294967296) (htr : trees ≤ 9223372036854775807) :
    Calls Try.prog 31 #[.agg #[.int .i64 a, .int .i64 b], .agg #[chv, .int .u32 (pages : Int), hv, .int .i64 trees, rv, .int .u32 (most : Int)]] w (PlanPost w (planF a b chain pages held trees rel most)) := by
  obtain ⟨cad, ccap, hcv, hcl, hcm, _⟩ := hch.out.2
  obtain ⟨had, hcap, hhv, hhl, _⟩ := hhe.out.form
  obtain ⟨rad, rcap, hrv, hrl, _⟩ := hre.out.form
  subst hcv hhv hrv
  obtain ⟨N, hN⟩ : ∃ N, w.heap.size = N := ⟨_, rfl⟩
  have HN := Lib.hid hN
  obtain ⟨r, hr⟩ : ∃ r, planF a b chain pages held trees rel most = r := ⟨_, rfl⟩
  have HF := Lib.hid hr
  rw [hr]
  have HErr : Hid (∀ k W, r = .inl k → Below N w W → PlanPost w r (.returned (.tuple #[zeroPlan, .int .i64 k])) W) := fun k W h1 h2 => by
    rw [h1]
    exact ⟨by rw [hN]; exact h2, rfl⟩
  have HYes : Hid (∀ p tv lv bs N1 W, r = .inr p → Below N w W → N ≤ N1 → OwnM W N tv p.trees → (∀ g, tv.ownBlock = some g → g < N1) → OwnC W N1 lv bs → Dealt W N1 lv bs p.lists → PlanPost w r (.returned (.tuple #[.agg #[tv, lv, .int .i64 (p.opened : Int), .int .u32 (p.pages : Int)], .int .i64 0])) W) := fun p tv lv bs N1 W h1 h2 h3 h4 h5 h6 h7 => by
    rw [h1]
    exact ⟨by rw [hN]; exact h2, tv, lv, bs, N1, rfl, by rw [hN]; exact h3, by rw [hN]; exact h4, h5, h6, h7⟩
  obtain ⟨R, hR⟩ : ∃ R, PlanPost w r = R := ⟨_, rfl⟩
  rw [hR] at HErr HYes ⊢
  unfold zeroPlan at HErr
  obtain ⟨q, hq⟩ : ∃ q, mayB a b = q := ⟨_, rfl⟩
  have HQ := Lib.hid hq
  clear hN hr hR hq
  go_enter Try.func31, Try.ntmps31
  go_upto_region 0 with fail
  with_reducible refine wp_region_list ?_
  refine wpList_boxB rfl _ _ rfl N HN.out #[.int .i64 a, .int .i64 b] rfl ?_
  intro w1 e1 b1 z1
  (try simp only [Act.put, nA, nB, nC])
  refine wpList_boxB rfl _ _ rfl (N + 1) z1 #[.slice cad chain.length ccap, .int .u32 (pages : Int), .slice had held.length hcap, .int .i64 trees, .slice rad rel.length rcap, .int .u32 (most : Int)] rfl ?_
  intro w2 e2 b2 z2
  (try simp only [Act.put, nA, nB, nC])
  refine wpList_allocB rfl 48 rfl (N + 2) z2 (.agg #[.slice none 0 0, .slice none 0 0, .int .i64 0, .int .u32 0]) (fun _ => by kernel_rfl) ?_
  intro w3 e3 b3 z3
  (try simp only [Act.put, nA, nB, nC])
  (with_reducible refine wpList_plain rfl ?_); intro K hK; go_simp; (first | with_reducible refine hK _ _ ?_ | refine hK _ _ ?_); clear hK K; try simp only [Act.put, nA, nB, nC]
  have E1 : Hid (w3.heap[N]? = some (.cells #[.int .i64 a, .int .i64 b] 23 (0, 0))) := heap_below (heap_below e1 b2 (by omega)) b3 (by omega)
  have E2 : Hid (w3.heap[N + 1]? = some (.cells #[.slice cad chain.length ccap, .int .u32 (pages : Int), .slice had held.length hcap, .int .i64 trees, .slice rad rel.length rcap, .int .u32 (most : Int)] 46 (0, 0))) := heap_below e2 b3 (by omega)
  have E3 : Hid (w3.heap[N + 2]? = some (.cells #[.slice none 0 0, .slice none 0 0, .int .i64 0, .int .u32 0] 48 (0, 0))) := e3
  have B3 : Hid (Below N w w3) := b1.trans ((b2.mono (by omega)).trans (b3.mono (by omega)))
  have Z3 := Lib.hid z3
  clear e1 b1 z1 e2 b2 z2 e3 b3 z3
  have k0 := heap_cell E1.out (o := 0)
  have k1 := heap_cell E1.out (o := 1)
  go_upto_region 1 with fail
  with_reducible refine wp_region_list ?_
  (with_reducible refine wpList_plain rfl ?_); intro K hK; go_simp; (first | with_reducible refine hK _ _ ?_ | refine hK _ _ ?_); clear hK K; try simp only [Act.put, nA, nB, nC]
  with_reducible refine wpList_plain rfl ?_
  intro K hK
  go_simp
  refine (Right_any a b w3).mono ?_; rintro e w4 ⟨rfl, b4⟩; rw [HQ.out]
  first | with_reducible refine hK _ _ ?_ | refine hK _ _ ?_
  clear hK K
  (try simp only [Act.put, nA, nB, nC])
  have F1 := Lib.hid (heap_below E1.out b4 (heap_lt E1.out))
  have F2 := Lib.hid (heap_below E2.out b4 (heap_lt E2.out))
  have F3 := Lib.hid (heap_below E3.out b4 (heap_lt E3.out))
  have B4 : Hid (Below N w w4) := B3.out.trans (b4.mono (by have := Z3.out; omega))
  have hz4 : N + 3 ≤ w4.heap.size := by have := b4.size; have := Z3.out; omega
  clear k0 k1 b4 E1 E2 E3 B3 Z3
  (with_reducible refine wpList_plain rfl ?_); intro K hK; go_simp; (first | with_reducible refine hK _ _ ?_ | refine hK _ _ ?_); clear hK K; try simp only [Act.put, nA, nB, nC]
  (with_reducible refine wpList_plain rfl ?_); intro K hK; go_simp; (first | with_reducible refine hK _ _ ?_ | refine hK _ _ ?_); clear hK K; try simp only [Act.put, nA, nB, nC]
  have p1 := heap_cell F2.out (o := 1)
  have p3 := heap_cell F2.out (o := 3)
  have p5 := heap_cell F2.out (o := 5)
  have g0 := heap_cell F3.out (o := 0)
  have g1 := heap_cell F3.out (o := 1)
  have g2 := heap_cell F3.out (o := 2)
  have g3 := heap_cell F3.out (o := 3)
  have fz0 := heap_free F3.out 0
  have fz1 := heap_free F3.out 1
  have fz2 := heap_free F3.out 2
  have fz3 := heap_free F3.out 3
  cases q
  case false =>
    have HE : Hid (r = .inl 2) := by show _ = _; rw [← HF.out]; unfold planF argB; rw [HQ.out]; rfl
    go_wp2_with fail
    have BW := (((B4.out.setCell (p := ⟨N + 2, 0, none⟩) (by show N ≤ N + 2; omega) (.slice none 0 0)).setCell (p := ⟨N + 2, 1, none⟩) (by show N ≤ N + 2; omega) (.slice none 0 0)).setCell (p := ⟨N + 2, 2, none⟩) (by show N ≤ N + 2; omega) (.int .i64 0)).setCell (p := ⟨N + 2, 3, none⟩) (by show N ≤ N + 2; omega) (.int .u32 0)
    have HW := heap_set (o := 3) (heap_set (o := 2) (heap_set (o := 1) (heap_set (o := 0) F3.out (.slice none 0 0)) (.slice none 0 0)) (.int .i64 0)) (.int .u32 0)
    obtain ⟨W, hW⟩ : ∃ W, ((((w4.setCell ⟨N + 2, 0, none⟩ (.slice none 0 0)).setCell ⟨N + 2, 1, none⟩ (.slice none 0 0)).setCell ⟨N + 2, 2, none⟩ (.int .i64 0)).setCell ⟨N + 2, 3, none⟩ (.int .u32 0)) = W := ⟨_, rfl⟩
    rw [hW] at BW HW
    rw [hW]
    have c0 := heap_cell HW (o := 0)
    have c1 := heap_cell HW (o := 1)
    have c2 := heap_cell HW (o := 2)
    have c3 := heap_cell HW (o := 3)
    refine bodyPost_ret (v := .tuple #[.agg #[.slice none 0 0, .slice none 0 0, .int .i64 0, .int .u32 0], .int .i64 2]) (by simp [results, Try.results31, go_sem, c0, c1, c2, c3]) rfl ?_
    exact HErr.out 2 _ HE.out BW
  case true =>
    by_cases h2 : 2 ≤ pages
    case neg =>
      have h2_0 : decide (pages < 2) = true := decide_eq_true (by omega)
      have h2_1 : decide ((pages : Int) < 2) = true := decide_eq_true (by omega)
      have HE : Hid (r = .inl 2) := by show _ = _; rw [← HF.out]; unfold planF; rw [if_neg (by unfold argB; simp; omega)]
      go_wp2_with fail
      have BW := (((B4.out.setCell (p := ⟨N + 2, 0, none⟩) (by show N ≤ N + 2; omega) (.slice none 0 0)).setCell (p := ⟨N + 2, 1, none⟩) (by show N ≤ N + 2; omega) (.slice none 0 0)).setCell (p := ⟨N + 2, 2, none⟩) (by show N ≤ N + 2; omega) (.int .i64 0)).setCell (p := ⟨N + 2, 3, none⟩) (by show N ≤ N + 2; omega) (.int .u32 0)
      have HW := heap_set (o := 3) (heap_set (o := 2) (heap_set (o := 1) (heap_set (o := 0) F3.out (.slice none 0 0)) (.slice none 0 0)) (.int .i64 0)) (.int .u32 0)
      obtain ⟨W, hW⟩ : ∃ W, ((((w4.setCell ⟨N + 2, 0, none⟩ (.slice none 0 0)).setCell ⟨N + 2, 1, none⟩ (.slice none 0 0)).setCell ⟨N + 2, 2, none⟩ (.int .i64 0)).setCell ⟨N + 2, 3, none⟩ (.int .u32 0)) = W := ⟨_, rfl⟩
      rw [hW] at BW HW
      rw [hW]
      have c0 := heap_cell HW (o := 0)
      have c1 := heap_cell HW (o := 1)
      have c2 := heap_cell HW (o := 2)
      have c3 := heap_cell HW (o := 3)
      refine bodyPost_ret (v := .tuple #[.agg #[.slice none 0 0, .slice none 0 0, .int .i64 0, .int .u32 0], .int .i64 2]) (by simp [results, Try.results31, go_sem, c0, c1, c2, c3]) rfl ?_
      exact HErr.out 2 _ HE.out BW
    case pos =>
      have h2_0 : decide (pages < 2) = false := decide_eq_false (by omega)
      have h2_1 : decide ((pages : Int) < 2) = false := decide_eq_false (by omega)
      by_cases h3 : pages ≤ 65536
      case neg =>
        have h3_0 : decide (65536 < pages) = true := decide_eq_true (by omega)
        have h3_1 : decide (65536 < (pages : Int)) = true := decide_eq_true (by omega)
        have HE : Hid (r = .inl 2) := by show _ = _; rw [← HF.out]; unfold planF; rw [if_neg (by unfold argB; simp; omega)]
        go_wp2_with fail
        have BW := (((B4.out.setCell (p := ⟨N + 2, 0, none⟩) (by show N ≤ N + 2; omega) (.slice none 0 0)).setCell (p := ⟨N + 2, 1, none⟩) (by show N ≤ N + 2; omega) (.slice none 0 0)).setCell (p := ⟨N + 2, 2, none⟩) (by show N ≤ N + 2; omega) (.int .i64 0)).setCell (p := ⟨N + 2, 3, none⟩) (by show N ≤ N + 2; omega) (.int .u32 0)
        have HW := heap_set (o := 3) (heap_set (o := 2) (heap_set (o := 1) (heap_set (o := 0) F3.out (.slice none 0 0)) (.slice none 0 0)) (.int .i64 0)) (.int .u32 0)
        obtain ⟨W, hW⟩ : ∃ W, ((((w4.setCell ⟨N + 2, 0, none⟩ (.slice none 0 0)).setCell ⟨N + 2, 1, none⟩ (.slice none 0 0)).setCell ⟨N + 2, 2, none⟩ (.int .i64 0)).setCell ⟨N + 2, 3, none⟩ (.int .u32 0)) = W := ⟨_, rfl⟩
        rw [hW] at BW HW
        rw [hW]
        have c0 := heap_cell HW (o := 0)
        have c1 := heap_cell HW (o := 1)
        have c2 := heap_cell HW (o := 2)
        have c3 := heap_cell HW (o := 3)
        refine bodyPost_ret (v := .tuple #[.agg #[.slice none 0 0, .slice none 0 0, .int .i64 0, .int .u32 0], .int .i64 2]) (by simp [results, Try.results31, go_sem, c0, c1, c2, c3]) rfl ?_
        exact HErr.out 2 _ HE.out BW
      case pos =>
        have h3_0 : decide (65536 < pages) = false := decide_eq_false (by omega)
        have h3_1 : decide (65536 < (pages : Int)) = false := decide_eq_false (by omega)
        by_cases h4 : pages ≤ most
        case neg =>
          have h4_0 : decide (most < pages) = true := decide_eq_true (by omega)
          have h4_1 : decide ((most : Int) < (pages : Int)) = true := decide_eq_true (by omega)
          have HE : Hid (r = .inl 2) := by show _ = _; rw [← HF.out]; unfold planF; rw [if_neg (by unfold argB; simp; omega)]
          go_wp2_with fail
          have BW := (((B4.out.setCell (p := ⟨N + 2, 0, none⟩) (by show N ≤ N + 2; omega) (.slice none 0 0)).setCell (p := ⟨N + 2, 1, none⟩) (by show N ≤ N + 2; omega) (.slice none 0 0)).setCell (p := ⟨N + 2, 2, none⟩) (by show N ≤ N + 2; omega) (.int .i64 0)).setCell (p := ⟨N + 2, 3, none⟩) (by show N ≤ N + 2; omega) (.int .u32 0)
          have HW := heap_set (o := 3) (heap_set (o := 2) (heap_set (o := 1) (heap_set (o := 0) F3.out (.slice none 0 0)) (.slice none 0 0)) (.int .i64 0)) (.int .u32 0)
          obtain ⟨W, hW⟩ : ∃ W, ((((w4.setCell ⟨N + 2, 0, none⟩ (.slice none 0 0)).setCell ⟨N + 2, 1, none⟩ (.slice none 0 0)).setCell ⟨N + 2, 2, none⟩ (.int .i64 0)).setCell ⟨N + 2, 3, none⟩ (.int .u32 0)) = W := ⟨_, rfl⟩
          rw [hW] at BW HW
          rw [hW]
          have c0 := heap_cell HW (o := 0)
          have c1 := heap_cell HW (o := 1)
          have c2 := heap_cell HW (o := 2)
          have c3 := heap_cell HW (o := 3)
          refine bodyPost_ret (v := .tuple #[.agg #[.slice none 0 0, .slice none 0 0, .int .i64 0, .int .u32 0], .int .i64 2]) (by simp [results, Try.results31, go_sem, c0, c1, c2, c3]) rfl ?_
          exact HErr.out 2 _ HE.out BW
        case pos =>
          have h4_0 : decide (most < pages) = false := decide_eq_false (by omega)
          have h4_1 : decide ((most : Int) < (pages : Int)) = false := decide_eq_false (by omega)
          by_cases h5 : most ≤ 65536
          case neg =>
            have h5_0 : decide (65536 < most) = true := decide_eq_true (by omega)
            have h5_1 : decide (65536 < (most : Int)) = true := decide_eq_true (by omega)
            have HE : Hid (r = .inl 2) := by show _ = _; rw [← HF.out]; unfold planF; rw [if_neg (by unfold argB; simp; omega)]
            go_wp2_with fail
            have BW := (((B4.out.setCell (p := ⟨N + 2, 0, none⟩) (by show N ≤ N + 2; omega) (.slice none 0 0)).setCell (p := ⟨N + 2, 1, none⟩) (by show N ≤ N + 2; omega) (.slice none 0 0)).setCell (p := ⟨N + 2, 2, none⟩) (by show N ≤ N + 2; omega) (.int .i64 0)).setCell (p := ⟨N + 2, 3, none⟩) (by show N ≤ N + 2; omega) (.int .u32 0)
            have HW := heap_set (o := 3) (heap_set (o := 2) (heap_set (o := 1) (heap_set (o := 0) F3.out (.slice none 0 0)) (.slice none 0 0)) (.int .i64 0)) (.int .u32 0)
            obtain ⟨W, hW⟩ : ∃ W, ((((w4.setCell ⟨N + 2, 0, none⟩ (.slice none 0 0)).setCell ⟨N + 2, 1, none⟩ (.slice none 0 0)).setCell ⟨N + 2, 2, none⟩ (.int .i64 0)).setCell ⟨N + 2, 3, none⟩ (.int .u32 0)) = W := ⟨_, rfl⟩
            rw [hW] at BW HW
            rw [hW]
            have c0 := heap_cell HW (o := 0)
            have c1 := heap_cell HW (o := 1)
            have c2 := heap_cell HW (o := 2)
            have c3 := heap_cell HW (o := 3)
            refine bodyPost_ret (v := .tuple #[.agg #[.slice none 0 0, .slice none 0 0, .int .i64 0, .int .u32 0], .int .i64 2]) (by simp [results, Try.results31, go_sem, c0, c1, c2, c3]) rfl ?_
            exact HErr.out 2 _ HE.out BW
          case pos =>
            have h5_0 : decide (65536 < most) = false := decide_eq_false (by omega)
            have h5_1 : decide (65536 < (most : Int)) = false := decide_eq_false (by omega)
            by_cases h6 : 0 ≤ trees
            case neg =>
              have h6_0 : decide (trees < 0) = true := decide_eq_true (by omega)
              have HE : Hid (r = .inl 2) := by show _ = _; rw [← HF.out]; unfold planF; rw [if_neg (by unfold argB; simp; omega)]
              go_wp2_with fail
              have BW := (((B4.out.setCell (p := ⟨N + 2, 0, none⟩) (by show N ≤ N + 2; omega) (.slice none 0 0)).setCell (p := ⟨N + 2, 1, none⟩) (by show N ≤ N + 2; omega) (.slice none 0 0)).setCell (p := ⟨N + 2, 2, none⟩) (by show N ≤ N + 2; omega) (.int .i64 0)).setCell (p := ⟨N + 2, 3, none⟩) (by show N ≤ N + 2; omega) (.int .u32 0)
              have HW := heap_set (o := 3) (heap_set (o := 2) (heap_set (o := 1) (heap_set (o := 0) F3.out (.slice none 0 0)) (.slice none 0 0)) (.int .i64 0)) (.int .u32 0)
              obtain ⟨W, hW⟩ : ∃ W, ((((w4.setCell ⟨N + 2, 0, none⟩ (.slice none 0 0)).setCell ⟨N + 2, 1, none⟩ (.slice none 0 0)).setCell ⟨N + 2, 2, none⟩ (.int .i64 0)).setCell ⟨N + 2, 3, none⟩ (.int .u32 0)) = W := ⟨_, rfl⟩
              rw [hW] at BW HW
              rw [hW]
              have c0 := heap_cell HW (o := 0)
              have c1 := heap_cell HW (o := 1)
              have c2 := heap_cell HW (o := 2)
              have c3 := heap_cell HW (o := 3)
              refine bodyPost_ret (v := .tuple #[.agg #[.slice none 0 0, .slice none 0 0, .int .i64 0, .int .u32 0], .int .i64 2]) (by simp [results, Try.results31, go_sem, c0, c1, c2, c3]) rfl ?_
              exact HErr.out 2 _ HE.out BW
            case pos =>
              have h6_0 : decide (trees < 0) = false := decide_eq_false (by omega)
              have HA : Hid (planF a b chain pages held trees rel most = match seenGo (entI a b) pages chain [] with | none => .inl 90 | some acc => match numsGo pages rel acc with | none => .inl 90 | some _ => plan2 (entI a b) chain pages held trees.toNat rel most) := by
                show _ = _
                unfold planF
                rw [if_pos (by unfold argB; rw [HQ.out]; simp; omega)]
                rfl
              have hCR4 : Hid (CRow w4 (.slice cad chain.length ccap) chain) := hch.out.below (by rw [HN.out]; exact B4.out)
              have p0 := heap_cell F2.out (o := 0)
              have k0 := heap_cell F1.out (o := 0)
              have k1 := heap_cell F1.out (o := 1)
              go_upto_region 3 with fail
              clear h2_0 h2_1 h3_0 h3_1 h4_0 h4_1 h5_0 h5_1 h6_0
              with_reducible refine wp_region_list ?_
              (with_reducible refine wpList_plain rfl ?_); intro K hK; go_simp; (first | with_reducible refine hK _ _ ?_ | refine hK _ _ ?_); clear hK K; try simp only [Act.put, nA, nB, nC]
              (with_reducible refine wpList_plain rfl ?_); intro K hK; go_simp; (first | with_reducible refine hK _ _ ?_ | refine hK _ _ ?_); clear hK K; try simp only [Act.put, nA, nB, nC]
              (with_reducible refine wpList_plain rfl ?_); intro K hK; go_simp; (first | with_reducible refine hK _ _ ?_ | refine hK _ _ ?_); clear hK K; try simp only [Act.put, nA, nB, nC]
              (with_reducible refine wpList_plain rfl ?_); intro K hK; go_simp; (first | with_reducible refine hK _ _ ?_ | refine hK _ _ ?_); clear hK K; try simp only [Act.put, nA, nB, nC]
              (with_reducible refine wpList_plain rfl ?_); intro K hK; go_simp; (first | with_reducible refine hK _ _ ?_ | refine hK _ _ ?_); clear hK K; try simp only [Act.put, nA, nB, nC]
              cases hs : seenGo (entI a b) pages chain []
              case none =>
                have HS := Lib.hid hs
                have HE : Hid (r = .inl 90) := by show _ = _; rw [← HF.out, HA.out, hs]
                clear hs
                with_reducible refine wpList_plain rfl ?_
                intro K hK
                go_simp
                refine (seen_no a b pages _ chain w4 hp hCR4 HS).mono ?_; rintro e w5 ⟨rfl, b5⟩
                first | with_reducible refine hK _ _ ?_ | refine hK _ _ ?_
                clear hK K
                (try simp only [Act.put, nA, nB, nC])
                have F5 := Lib.hid (heap_below F3.out b5 (by omega))
                have B5 : Hid (Below N w w5) := B4.out.trans (b5.mono (by omega))
                clear b5 g0 g1 g2 g3 fz0 fz1 fz2 fz3
                have g0 := heap_cell F5.out (o := 0)
                have g1 := heap_cell F5.out (o := 1)
                have g2 := heap_cell F5.out (o := 2)
                have g3 := heap_cell F5.out (o := 3)
                have fz0 := heap_free F5.out 0
                have fz1 := heap_free F5.out 1
                have fz2 := heap_free F5.out 2
                have fz3 := heap_free F5.out 3
                go_wp2_with fail
                have BW := (((B5.out.setCell (p := ⟨N + 2, 0, none⟩) (by show N ≤ N + 2; omega) (.slice none 0 0)).setCell (p := ⟨N + 2, 1, none⟩) (by show N ≤ N + 2; omega) (.slice none 0 0)).setCell (p := ⟨N + 2, 2, none⟩) (by show N ≤ N + 2; omega) (.int .i64 0)).setCell (p := ⟨N + 2, 3, none⟩) (by show N ≤ N + 2; omega) (.int .u32 0)
                have HW := heap_set (o := 3) (heap_set (o := 2) (heap_set (o := 1) (heap_set (o := 0) F5.out (.slice none 0 0)) (.slice none 0 0)) (.int .i64 0)) (.int .u32 0)
                obtain ⟨W, hW⟩ : ∃ W, ((((w5.setCell ⟨N + 2, 0, none⟩ (.slice none 0 0)).setCell ⟨N + 2, 1, none⟩ (.slice none 0 0)).setCell ⟨N + 2, 2, none⟩ (.int .i64 0)).setCell ⟨N + 2, 3, none⟩ (.int .u32 0)) = W := ⟨_, rfl⟩
                rw [hW] at BW HW
                rw [hW]
                have c0 := heap_cell HW (o := 0)
                have c1 := heap_cell HW (o := 1)
                have c2 := heap_cell HW (o := 2)
                have c3 := heap_cell HW (o := 3)
                refine bodyPost_ret (v := .tuple #[.agg #[.slice none 0 0, .slice none 0 0, .int .i64 0, .int .u32 0], .int .i64 90]) (by simp [results, Try.results31, go_sem, c0, c1, c2, c3]) rfl ?_
                exact HErr.out 90 _ HE.out BW
              case some acc =>
                have HS := Lib.hid hs
                have HA2 : Hid (r = match numsGo pages rel acc with | none => .inl 90 | some _ => plan2 (entI a b) chain pages held trees.toNat rel most) := by show _ = _; rw [← HF.out, HA.out, hs]
                obtain ⟨hacc1, hacc2, _, _⟩ := seenGo_some chain [] acc hs
                have HM0 : Hid (Met pages acc) := hacc2 ⟨List.nodup_nil, fun x h => by simp at h⟩
                clear hs hacc1 hacc2
                with_reducible refine wpList_plain rfl ?_
                intro K hK
                go_simp
                refine (seen_yes a b pages _ chain w4 hp hCR4 acc HS).mono ?_; rintro e w5 ⟨g, rfl, hg5, s5, b5⟩
                first | with_reducible refine hK _ _ ?_ | refine hK _ _ ?_
                clear hK K
                (try simp only [Act.put, nA, nB, nC])
                have G1 := Lib.hid (heap_below F1.out b5 (by omega))
                have G2 := Lib.hid (heap_below F2.out b5 (by omega))
                have G3 := Lib.hid (heap_below F3.out b5 (by omega))
                have S5 := Lib.hid s5
                have B5 : Hid (Below N w w5) := B4.out.trans (b5.mono (by omega))
                have hz5 : N + 3 ≤ w5.heap.size := by have := b5.size; omega
                have hgN : N + 3 ≤ g := by omega
                clear b5 s5 g0 g1 g2 g3 fz0 fz1 fz2 fz3 p0 p1 p3 p5 k0 k1 F1 F2 F3 hCR4 B4
                (with_reducible refine wpList_plain rfl ?_); intro K hK; go_simp; (first | with_reducible refine hK _ _ ?_ | refine hK _ _ ?_); clear hK K; try simp only [Act.put, nA, nB, nC]
                (with_reducible refine wpList_plain rfl ?_); intro K hK; go_simp; (first | with_reducible refine hK _ _ ?_ | refine hK _ _ ?_); clear hK K; try simp only [Act.put, nA, nB, nC]
                (with_reducible refine wpList_plain rfl ?_); intro K hK; go_simp; (first | with_reducible refine hK _ _ ?_ | refine hK _ _ ?_); clear hK K; try simp only [Act.put, nA, nB, nC]
                (with_reducible refine wpList_plain rfl ?_); intro K hK; go_simp; (first | with_reducible refine hK _ _ ?_ | refine hK _ _ ?_); clear hK K; try simp only [Act.put, nA, nB, nC]
                (with_reducible refine wpList_plain rfl ?_); intro K hK; go_simp; (first | with_reducible refine hK _ _ ?_ | refine hK _ _ ?_); clear hK K; try simp only [Act.put, nA, nB, nC]
                have p4 := heap_cell G2.out (o := 4)
                go_upto_region 7 with fail
                clear p4
                go_loopw [65] (fun iv wr => ∃ (j : Nat) (ac : List Nat), j ≤ rel.length ∧ Hid (numsGo pages rel acc = numsGo pages (rel.drop j) ac) ∧ Hid (SetM wr g ac.length (fun z => ac.contains z)) ∧ Hid (Met pages ac) ∧ Hid (Mod (fun k => k = g) w5 wr) ∧ iv = .int .i64 (j : Int)) (fun iv _ => rel.length - (intOf iv).toNat)
                case atStart => exact ⟨0, acc, Nat.zero_le _, rfl, S5, HM0, Mod.refl _ _, rfl⟩
                case round =>
                  obtain ⟨j, ac, hj, HG, SJ, MJ, MB, rfl⟩ := hrel
                  have J1 := Lib.hid (MB.out.heap G1.out (by omega))
                  have J2 := Lib.hid (MB.out.heap G2.out (by omega))
                  have J3 := Lib.hid (MB.out.heap G3.out (by omega))
                  have BJ : Hid (Below N w wr) := B5.out.trans (MB.out.below (n := N) (fun k hk e => by omega) (by omega))
                  by_cases hlt : j < rel.length
                  case neg =>
                    obtain rfl : j = rel.length := by omega
                    have ij : ¬ (rel.length : Int) < (rel.length : Int) := by omega
                    have hg3 := HG.out
                    rw [List.drop_length, numsGo] at hg3
                    have HA3 : Hid (r = plan2 (entI a b) chain pages held trees.toNat rel most) := by show _ = _; rw [HA2.out, hg3]
                    have HGood : Hid (Good pages chain rel) := good_of HS.out hg3
                    have HTok : Hid (TOk most pages chain.length ⟨0, leftS chain, [], 0, pages⟩) := tok_start HS.out hg3 h4
                    have hmm := @run_makeMap Try.prog
                    obtain ⟨hb, hhb⟩ : ∃ k, wr.heap.size = k := ⟨_, rfl⟩
                    have hzb : N + 3 ≤ hb := by have := MB.out.size; omega
                    clear hg3 HG HA2 HA S5 MJ SJ
                    go_upto_region 14 with fail
                    with_reducible refine wp_region_list ?_
                    (with_reducible refine wpList_plain rfl ?_); intro K hK; go_simp; (first | with_reducible refine hK _ _ ?_ | refine hK _ _ ?_); clear hK K; try simp only [Act.put, nA, nB, nC]
                    (with_reducible refine wpList_plain rfl ?_); intro K hK; go_simp; (first | with_reducible refine hK _ _ ?_ | refine hK _ _ ?_); clear hK K; try simp only [Act.put, nA, nB, nC]
                    obtain ⟨w6, hw6⟩ : ∃ W, (wr.alloc (.map #[] 0)).alloc (.map #[] 0) = W := ⟨_, rfl⟩
                    have z6 : w6.heap.size = hb + 2 := by rw [← hw6]; simp only [World.size_alloc]; omega
                    have S6 : Hid (SetM w6 hb 0 (fun _ => false)) := by
                      have h1 := SetM.made wr
                      rw [← hw6, ← hhb]
                      exact h1.mod (Mod.of (fun _ => False) ((Below.refl _ _).alloc (Nat.le_refl _) _)) (fun h => h)
                    have T6 : Hid (SetM w6 (hb + 1) 0 (fun _ => false)) := by
                      have h1 := SetM.made (wr.alloc (.map #[] 0))
                      rw [World.size_alloc, hhb] at h1
                      rw [← hw6]
                      exact h1
                    have b6 : Below wr.heap.size wr w6 := by rw [← hw6]; exact ((Below.refl _ _).alloc (Nat.le_refl _) _).alloc (by simp only [World.size_alloc]; omega) _
                    have K1 := Lib.hid (heap_below J1.out b6 (by omega))
                    have K2 := Lib.hid (heap_below J2.out b6 (by omega))
                    have K3 := Lib.hid (heap_below J3.out b6 (by omega))
                    have B6 : Hid (Below N w w6) := BJ.out.trans (b6.mono (by omega))
                    rw [hw6]
                    clear hw6 b6 hmm J1 J2 J3 BJ hhb MB G1 G2 G3
                    have p0 := heap_cell K2.out (o := 0)
                    have p5 := heap_cell K2.out (o := 5)
                    (with_reducible refine wpList_plain rfl ?_); intro K hK; go_simp; (first | with_reducible refine hK _ _ ?_ | refine hK _ _ ?_); clear hK K; try simp only [Act.put, nA, nB, nC]
                    (with_reducible refine wpList_plain rfl ?_); intro K hK; go_simp; (first | with_reducible refine hK _ _ ?_ | refine hK _ _ ?_); clear hK K; try simp only [Act.put, nA, nB, nC]
                    (with_reducible refine wpList_plain rfl ?_); intro K hK; go_simp; (first | with_reducible refine hK _ _ ?_ | refine hK _ _ ?_); clear hK K; try simp only [Act.put, nA, nB, nC]
                    (with_reducible refine wpList_plain rfl ?_); intro K hK; go_simp; (first | with_reducible refine hK _ _ ?_ | refine hK _ _ ?_); clear hK K; try simp only [Act.put, nA, nB, nC]
                    (with_reducible refine wpList_plain rfl ?_); intro K hK; go_simp; (first | with_reducible refine hK _ _ ?_ | refine hK _ _ ?_); clear hK K; try simp only [Act.put, nA, nB, nC]
                    refine wpList_boxB rfl _ _ rfl (hb + 2) z6 #[.slice none 0 0, .slice none 0 0, .int .i64 0, .int .u32 0, .map (some hb), .map (some (hb + 1)), .int .u32 (most : Int), .slice cad chain.length ccap] rfl ?_
                    intro w7 e7 b7 z7
                    (try simp only [Act.put, nA, nB, nC])
                    have T7 : TB w7 (hb + 2) (.slice none 0 0) (.slice none 0 0) 0 0 hb (hb + 1) most (.slice cad chain.length ccap) := e7
                    (with_reducible refine wpList_plain rfl ?_); intro K hK; go_simp; (first | with_reducible refine hK _ _ ?_ | refine hK _ _ ?_); clear hK K; try simp only [Act.put, nA, nB, nC]
                    have p1 := heap_cell (heap_below K2.out b7 (by omega)) 1
                    have t3 := heap_cell T7 (o := 3)
                    have f3 := heap_free T7 3
                    go_upto_region 15 with fail
                    with_reducible refine wp_region_list ?_
                    (with_reducible refine wpList_plain rfl ?_); intro K hK; go_simp; (first | with_reducible refine hK _ _ ?_ | refine hK _ _ ?_); clear hK K; try simp only [Act.put, nA, nB, nC]
                    (with_reducible refine wpList_plain rfl ?_); intro K hK; go_simp; (first | with_reducible refine hK _ _ ?_ | refine hK _ _ ?_); clear hK K; try simp only [Act.put, nA, nB, nC]
                    (with_reducible refine wpList_plain rfl ?_); intro K hK; go_simp; (first | with_reducible refine hK _ _ ?_ | refine hK _ _ ?_); clear hK K; try simp only [Act.put, nA, nB, nC]
                    (with_reducible refine wpList_plain rfl ?_); intro K hK; go_simp; (first | with_reducible refine hK _ _ ?_ | refine hK _ _ ?_); clear hK K; try simp only [Act.put, nA, nB, nC]
                    (with_reducible refine wpList_plain rfl ?_); intro K hK; go_simp; (first | with_reducible refine hK _ _ ?_ | refine hK _ _ ?_); clear hK K; try simp only [Act.put, nA, nB, nC]
                    (with_reducible refine wpList_plain rfl ?_); intro K hK; go_simp; (first | with_reducible refine hK _ _ ?_ | refine hK _ _ ?_); clear hK K; try simp only [Act.put, nA, nB, nC]
                    (with_reducible refine wpList_plain rfl ?_); intro K hK; go_simp; (first | with_reducible refine hK _ _ ?_ | refine hK _ _ ?_); clear hK K; try simp only [Act.put, nA, nB, nC]
                    obtain ⟨w8, hw8⟩ : ∃ W, w7.setCell ⟨hb + 2, 3, none⟩ (.int .u32 (pages : Int)) = W := ⟨_, rfl⟩
                    have T8 : Hid (TB w8 (hb + 2) (.slice none 0 0) (.slice none 0 0) 0 pages hb (hb + 1) most (.slice cad chain.length ccap)) := by
                      unfold TB at T7
                      show TB w8 _ _ _ _ _ _ _ _ _
                      unfold TB
                      rw [← hw8, heap_set T7]
                      rfl
                    have b8 : Below (hb + 2) w6 w8 := by rw [← hw8]; exact b7.setCell (p := ⟨hb + 2, 3, none⟩) (Nat.le_refl _) _
                    have z8 : w8.heap.size = hb + 3 := by rw [← hw8]; simp only [World.size_setCell]; exact z7
                    have S8 := Lib.hid (S6.out.mod (Mod.of (fun _ => False) (by rw [z6]; exact b8)) (fun h => h))
                    have U8 := Lib.hid (T6.out.mod (Mod.of (fun _ => False) (by rw [z6]; exact b8)) (fun h => h))
                    have K1 := Lib.hid (heap_below K1.out b8 (by omega))
                    have K2 := Lib.hid (heap_below K2.out b8 (by omega))
                    have K3 := Lib.hid (heap_below K3.out b8 (by omega))
                    have B8 : Hid (Below N w w8) := B6.out.trans (b8.mono (by omega))
                    rw [hw8]
                    clear hw8 b8 b7 z7 e7 T7 p1 p0 p5 t3 f3 S6 T6 B6 z6
                    have p2 := heap_cell K2.out (o := 2)
                    go_upto_region 17 with fail
                    clear p2
                    go_loopw [107] (fun iv wr2 => ∃ (j : Nat), j ≤ held.length ∧ Hid (SetM wr2 hb j (fun z => (held.take j).contains z)) ∧ Hid (Mod (fun k => k = hb) w8 wr2) ∧ iv = .int .i64 (j : Int)) (fun iv _ => held.length - (intOf iv).toNat)
                    case atStart => exact ⟨0, Nat.zero_le _, S8, Mod.refl _ _, rfl⟩
                    case round =>
                      obtain ⟨j, hj, SH, MH, rfl⟩ := hrel
                      have X1 := Lib.hid (MH.out.heap K1.out (by omega))
                      have X2 := Lib.hid (MH.out.heap K2.out (by omega))
                      have X3 := Lib.hid (MH.out.heap K3.out (by omega))
                      have XT := Lib.hid (T8.out.mod MH.out (by omega))
                      have XU := Lib.hid (U8.out.mod MH.out (by omega))
                      have BX : Hid (Below N w wr) := B8.out.trans (MH.out.below (n := N) (fun k hk e => by omega) (by omega))
                      have hzx : hb + 3 ≤ wr.heap.size := by have := MH.out.size; omega
                      by_cases hlt2 : j < held.length
                      case pos =>
                        have ij : (j : Int) < (held.length : Int) := by omega
                        have hu2 := hhe.out.below (by rw [HN.out]; exact BX.out)
                        obtain ⟨ad9, c9, e9, _, hx9⟩ := hu2.form
                        obtain ⟨nb, no, e8, hcs⟩ := hx9 (by omega)
                        have e7 := (Value.slice.inj e9).1
                        rw [e8] at e7
                        subst e7
                        have hc := hcs j hlt2
                        have hxl := hhe.out.1 _ (List.getElem_mem hlt2)
                        have htk : ∀ z, (held.take (j + 1)).contains z = (decide (z = held[j]) || (held.take j).contains z) := fun z => by
                          rw [List.take_succ_eq_append_getElem hlt2, Bool.eq_iff_iff, Bool.or_eq_true, List.contains_iff_mem, List.contains_iff_mem, List.mem_append, List.mem_singleton, decide_eq_true_eq]
                          exact or_comm
                        obtain ⟨y, hy⟩ : ∃ y, held[j] = y := ⟨_, rfl⟩
                        rw [hy] at hc hxl htk
                        unfold uN at hc
                        have HTK := Lib.hid htk
                        clear hy hcs e9 e8 hu2 hx9 htk
                        have t4 := heap_cell XT.out (o := 4)
                        go_upto_region 19 with fail
                        clear hc
                        with_reducible refine wp_region_list ?_
                        (with_reducible refine wpList_plain rfl ?_); intro K hK; go_simp; (first | with_reducible refine hK _ _ ?_ | refine hK _ _ ?_); clear hK K; try simp only [Act.put, nA, nB, nC]
                        (with_reducible refine wpList_plain rfl ?_); intro K hK; go_simp; (first | with_reducible refine hK _ _ ?_ | refine hK _ _ ?_); clear hK K; try simp only [Act.put, nA, nB, nC]
                        (with_reducible refine wpList_plain rfl ?_); intro K hK; go_simp; (first | with_reducible refine hK _ _ ?_ | refine hK _ _ ?_); clear hK K; try simp only [Act.put, nA, nB, nC]
                        (with_reducible refine wpList_plain rfl ?_); intro K hK; go_simp; (first | with_reducible refine hK _ _ ?_ | refine hK _ _ ?_); clear hK K; try simp only [Act.put, nA, nB, nC]
                        (with_reducible refine wpList_plain rfl ?_); intro K hK; go_simp; (first | with_reducible refine hK _ _ ?_ | refine hK _ _ ?_); clear hK K; try simp only [Act.put, nA, nB, nC]
                        refine wpList_putM rfl _ _ _ rfl SH.out (by omega) rfl y hxl rfl rfl (fun w9 h9 m9 => ?_)
                        (try simp only [Act.put, nA, nB, nC])
                        have S9 : Hid (SetM w9 hb (j + 1) (fun z => (held.take (j + 1)).contains z)) := by
                          obtain ⟨D, q1, q2, q3⟩ := h9
                          exact ⟨D, q1, q2, fun x hx => by show _ = (held.take (j + 1)).contains x; rw [HTK.out]; exact q3 x hx⟩
                        have M9 := Lib.hid (MH.out.then m9)
                        clear h9 m9 t4
                        go_wp2_with fail
                        exact ⟨⟨j + 1, by omega, S9, M9, by go_num⟩, by simp [intOf]; omega⟩
                      case neg =>
                        obtain rfl : j = held.length := by omega
                        have ij : ¬ (held.length : Int) < (held.length : Int) := by omega
                        have SH2 : Hid (SetM wr hb held.length (heldS held)) := by
                          have h := SH.out
                          rw [List.take_length] at h
                          exact h
                        clear SH MH S8 U8 T8 K1 K2 K3 B8
                        obtain ⟨wH, hwH⟩ : ∃ W, W = wr := ⟨_, rfl⟩
                        subst hwH
                        have p0 := heap_cell X2.out (o := 0)
                        go_upto_region 22 with fail
                        clear p0
                        have hgl : (flat chain).length ≤ pages := by
                          have h := HGood.out
                          have h1 := nodup_le (flat chain) (List.range pages) (List.nodup_append.1 h.1).1 (fun x hx => List.mem_range.2 (h.2 x (List.mem_append_left _ hx)))
                          rwa [List.length_range] at h1
                        go_loopw [120] (fun iv wr2 => ∃ (j : Nat), j ≤ chain.length ∧ Hid (SetM wr2 (hb + 1) (flat (chain.take j)).length (leftS (chain.take j))) ∧ Hid (Mod (fun k => k = hb + 1) wH wr2) ∧ iv = .int .i64 (j : Int)) (fun iv _ => chain.length - (intOf iv).toNat)
                        case atStart => exact ⟨0, Nat.zero_le _, XU, Mod.refl _ _, rfl⟩
                        case round =>
                          obtain ⟨j, hj, SL, ML, rfl⟩ := hrel
                          by_cases hlt3 : j < chain.length
                          case pos =>
                            have ij : (j : Int) < (chain.length : Int) := by omega
                            have BY : Below N w wr := BX.out.trans (ML.out.below (n := N) (fun k hk e => by omega) (by omega))
                            obtain ⟨cb, co, nad, nc, hca, hr, hu, hcb, hnb, hpg0⟩ := chain_at hch.out (by rw [HN.out]; exact BY) hlt3
                            have hfl := flat_take_succ hlt3
                            have hfl2 : (flat (chain.take (j + 1))).length ≤ (flat chain).length := by
                              rw [flat_split chain (j + 1), List.length_append]
                              omega
                            have hls : ∀ z, leftS (chain.take (j + 1)) z = (leftS (chain.take j) z || chain[j].2.contains z) := fun z => by
                              unfold leftS
                              rw [List.take_succ_eq_append_getElem hlt3, List.any_append]
                              simp
                            obtain ⟨⟨pg0, xs⟩, hcx⟩ : ∃ c, chain[j] = c := ⟨_, rfl⟩
                            rw [hcx] at hr hu hfl hls hnb
                            simp only at hr hu hls hnb
                            rw [hfl, List.length_append, List.length_cons] at hfl2
                            have HFL : Hid ((flat (chain.take (j + 1))).length = (flat (chain.take j)).length + (xs.length + 1)) := by show _ = _; rw [hfl, List.length_append, List.length_cons]
                            subst hca
                            have HR := Lib.hid hr
                            have HU := Lib.hid hu
                            have HLS := Lib.hid hls
                            have HNB := Lib.hid hnb
                            obtain ⟨wJ, hwJ⟩ : ∃ W, W = wr := ⟨_, rfl⟩
                            subst hwJ
                            have hzj : hb + 3 ≤ wJ.heap.size := by have := ML.out.size; omega
                            clear hr hu hcx hls hnb hfl BY
                            go_upto_region 23 with fail
                            with_reducible refine wp_region_list ?_
                            (with_reducible refine wpList_plain rfl ?_); intro K hK; go_simp; (first | with_reducible refine hK _ _ ?_ | refine hK _ _ ?_); clear hK K; try simp only [Act.put, nA, nB, nC]
                            refine wpList_load_mid rfl 64 _ rfl cb (co + j * 2) rfl [uN pg0, .slice nad xs.length nc] _ HR.out Try.underlying64 rfl info_B ?_
                            (try simp only [Act.put, nA, nB, nC])
                            obtain ⟨bb, hbb⟩ : ∃ b, wJ.heap.size = b := ⟨_, rfl⟩
                            refine wpList_allocB rfl 64 rfl bb hbb (.agg #[.int .u32 0, .slice none 0 0]) (fun _ => by kernel_rfl) ?_
                            intro w8 e8 b8 z8
                            (try simp only [Act.put, nA, nB, nC])
                            refine wpList_storeB rfl 64 _ _ rfl bb #[.int .u32 (pg0 : Int), .slice nad xs.length nc] rfl rfl 64 _ e8 info_B rfl (by simp [Value.oneCell']) ?_
                            intro w9 e9 m9
                            (try simp only [Act.put, nA, nB, nC])
                            have b9 : Below wJ.heap.size wJ w9 := by
                              rw [hbb]
                              exact b8.trans (m9.below (n := bb) (fun k hk e => by omega) (by omega))
                            have S9 := Lib.hid (SL.out.mod (Mod.of (fun _ => False) b9) (fun h => h))
                            have M9 : Hid (Mod (fun k => k = hb + 1) wH w9) := ML.out.then (Mod.of _ b9)
                            have HU9 := Lib.hid (HU.out.below b9)
                            have hcb9 : cb < bb := by rw [← hbb]; have := HN.out; omega
                            have c1 := heap_cell e9 (o := 1)
                            have hzz : bb ≤ w9.heap.size := by have := b9.size; omega
                            clear e8 b8 z8 m9 HR HU SL b9 hbb e9
                            go_upto_region 25 with fail
                            clear c1
                            go_loopw [127] (fun iv wr3 => ∃ (k : Nat), k ≤ xs.length ∧ Hid (SetM wr3 (hb + 1) ((flat (chain.take j)).length + k) (fun z => leftS (chain.take j) z || (xs.take k).contains z)) ∧ Hid (Mod (fun k => k = hb + 1) w9 wr3) ∧ iv = .int .i64 (k : Int)) (fun iv _ => xs.length - (intOf iv).toNat)
                            case atStart => exact ⟨0, Nat.zero_le _, by obtain ⟨D, q1, q2, q3⟩ := S9.out; exact ⟨D, q1, q2, fun x hx => by simpa using q3 x hx⟩, Mod.refl _ _, rfl⟩
                            case round =>
                              obtain ⟨k, hk, SK, MK, rfl⟩ := hrel
                              by_cases hlt4 : k < xs.length
                              case pos =>
                                have ik : (k : Int) < (xs.length : Int) := by omega
                                have hu2 := HU9.out.mod MK.out (fun hp g hg e => by have := HNB.out hp g hg; have := HN.out; omega)
                                obtain ⟨ad9, c9, e9, _, hx9⟩ := hu2.form
                                obtain ⟨nb, no, e8, hcs⟩ := hx9 (by omega)
                                have e7 := (Value.slice.inj e9).1
                                rw [e8] at e7
                                subst e7
                                have hc := hcs k hlt4
                                have hxl := HU9.out.1 _ (List.getElem_mem hlt4)
                                have htk : ∀ z, (xs.take (k + 1)).contains z = (decide (z = xs[k]) || (xs.take k).contains z) := fun z => by
                                  rw [List.take_succ_eq_append_getElem hlt4, Bool.eq_iff_iff, Bool.or_eq_true, List.contains_iff_mem, List.contains_iff_mem, List.mem_append, List.mem_singleton, decide_eq_true_eq]
                                  exact or_comm
                                obtain ⟨y, hy⟩ : ∃ y, xs[k] = y := ⟨_, rfl⟩
                                rw [hy] at hc hxl htk
                                unfold uN at hc
                                have HTK := Lib.hid htk
                                clear hy hcs e9 e8 hu2 hx9 htk
                                have t5 := heap_cell (MK.out.heap (M9.out.heap XT.out (by omega)) (by omega)) 5
                                go_upto_region 27 with fail
                                clear hc
                                with_reducible refine wp_region_list ?_
                                (with_reducible refine wpList_plain rfl ?_); intro K hK; go_simp; (first | with_reducible refine hK _ _ ?_ | refine hK _ _ ?_); clear hK K; try simp only [Act.put, nA, nB, nC]
                                (with_reducible refine wpList_plain rfl ?_); intro K hK; go_simp; (first | with_reducible refine hK _ _ ?_ | refine hK _ _ ?_); clear hK K; try simp only [Act.put, nA, nB, nC]
                                (with_reducible refine wpList_plain rfl ?_); intro K hK; go_simp; (first | with_reducible refine hK _ _ ?_ | refine hK _ _ ?_); clear hK K; try simp only [Act.put, nA, nB, nC]
                                (with_reducible refine wpList_plain rfl ?_); intro K hK; go_simp; (first | with_reducible refine hK _ _ ?_ | refine hK _ _ ?_); clear hK K; try simp only [Act.put, nA, nB, nC]
                                (with_reducible refine wpList_plain rfl ?_); intro K hK; go_simp; (first | with_reducible refine hK _ _ ?_ | refine hK _ _ ?_); clear hK K; try simp only [Act.put, nA, nB, nC]
                                refine wpList_putM rfl _ _ _ rfl SK.out (by omega) rfl y hxl rfl rfl (fun w10 h10 m10 => ?_)
                                (try simp only [Act.put, nA, nB, nC])
                                have S10 : Hid (SetM w10 (hb + 1) ((flat (chain.take j)).length + (k + 1)) (fun z => leftS (chain.take j) z || (xs.take (k + 1)).contains z)) := by
                                  obtain ⟨D, q1, q2, q3⟩ := h10
                                  refine ⟨D, q1, q2, fun x hx => ?_⟩
                                  show _ = (leftS (chain.take j) x || (xs.take (k + 1)).contains x)
                                  rw [HTK.out, q3 x hx, Bool.or_left_comm]
                                have M10 := Lib.hid (MK.out.then m10)
                                clear h10 m10 t5
                                go_wp2_with fail
                                exact ⟨⟨k + 1, by omega, S10, M10, by go_num⟩, by simp [intOf]; omega⟩
                              case neg =>
                                obtain rfl : k = xs.length := by omega
                                have ik : ¬ (xs.length : Int) < (xs.length : Int) := by omega
                                have S11 : Hid (SetM wr (hb + 1) (flat (chain.take (j + 1))).length (leftS (chain.take (j + 1)))) := by
                                  obtain ⟨D, q1, q2, q3⟩ := SK.out.mono (n' := (flat (chain.take (j + 1))).length) (by rw [HFL.out]; omega)
                                  refine ⟨D, q1, q2, fun x hx => ?_⟩
                                  rw [HLS.out, q3 x hx, List.take_length]
                                have M11 : Hid (Mod (fun k => k = hb + 1) wH wr) := M9.out.then MK.out
                                clear SK MK S9 M9
                                go_wp2_with fail
                                exact ⟨⟨j + 1, by omega, S11, M11, by go_num⟩, by simp [intOf]; omega⟩
                          case neg =>
                            obtain rfl : j = chain.length := by omega
                            have ij : ¬ (chain.length : Int) < (chain.length : Int) := by omega
                            have SL2 : Hid (SetM wr (hb + 1) (flat chain).length (leftS chain)) := by
                              have h := SL.out
                              rw [List.take_length] at h
                              exact h
                            have Y1 := Lib.hid (ML.out.heap X1.out (by omega))
                            have Y2 := Lib.hid (ML.out.heap X2.out (by omega))
                            have Y3 := Lib.hid (ML.out.heap X3.out (by omega))
                            have YT := Lib.hid (XT.out.mod ML.out (by omega))
                            have YH := Lib.hid (SH2.out.mod ML.out (by omega))
                            have BY : Hid (Below N w wr) := BX.out.trans (ML.out.below (n := N) (fun k hk e => by omega) (by omega))
                            obtain ⟨B, hB⟩ : ∃ B, wr.heap.size = B := ⟨_, rfl⟩
                            have HB := Lib.hid hB
                            have hBz : hb + 3 ≤ B := by have := ML.out.size; omega
                            obtain ⟨tn, htn⟩ : ∃ tn : Nat, trees = (tn : Int) := ⟨trees.toNat, by omega⟩
                            subst htn
                            rw [Int.toNat_natCast] at HA3
                            have hwN := HN.out
                            have HSeat : Hid (Seat w (.slice cad chain.length ccap) chain (hb + 2) hb (hb + 1) B) := ⟨hch.out, by omega, by omega, by omega, by omega, by omega, by omega, by omega, by omega, by omega⟩
                            have hBw : B ≤ wr.drew.heap.size := Nat.le_of_eq hB.symm
                            have HTR := trees_any w (.slice cad chain.length ccap) chain (hb + 2) hb (hb + 1) B (.slice none 0 0) (.slice none 0 0) most held.length (flat chain).length tn (heldS held) ⟨0, leftS chain, [], 0, pages⟩ wr.drew HSeat (by show Below _ _ _; rw [hwN]; exact BY.out.drew) hBw (by omega) rfl YT (OwnM.nil _ _) YH SL2 HTok.out.inv h4 (by omega)
                            have HTR2 := Lib.hid HTR
                            have q3 := heap_cell Y2.out (o := 3)
                            have q4 := heap_cell Y2.out (o := 4)
                            have k0 := heap_cell Y1.out (o := 0)
                            have k1 := heap_cell Y1.out (o := 1)
                            have keepT : ∀ W, TMod (hb + 2) (hb + 1) B wr.drew W → (W.cell? ⟨N + 1, 3, none⟩ = some (.int .i64 (tn : Int)) ∧ W.cell? ⟨N + 1, 4, none⟩ = some (.slice rad rel.length rcap) ∧ W.cell? ⟨N, 0, none⟩ = some (.int .i64 a) ∧ W.cell? ⟨N, 1, none⟩ = some (.int .i64 b)) := fun W m => by
                              have h1 := m.heap (o := .cells #[.int .i64 a, .int .i64 b] 23 (0, 0)) (b := N) Y1.out (by omega)
                              have h2 := m.heap (b := N + 1) Y2.out (by omega)
                              exact ⟨heap_cell h2 3, heap_cell h2 4, heap_cell h1 0, heap_cell h1 1⟩
                            have KT := Lib.hid keepT
                            have YHd : Hid (SetM wr.drew hb held.length (heldS held)) := YH.out
                            clear HTR hB keepT XU SH2 XT X1 X2 X3 BX SL ML
                            cases htf : treesF (heldS held) most chain tn ⟨0, leftS chain, [], 0, pages⟩
                            case none =>
                              rw [htf] at HTR2
                              have HE : Hid (r = .inl 5) := by show _ = _; rw [HA3.out]; unfold plan2; rw [htf]
                              clear htf
                              go_upto_region 30 with fail
                              refine wp_region_held_drew (S := fun W => W.cell? ⟨N + 1, 3, none⟩ = some (.int .i64 (tn : Int)) ∧ W.cell? ⟨N + 1, 4, none⟩ = some (.slice rad rel.length rcap) ∧ W.cell? ⟨N, 0, none⟩ = some (.int .i64 a) ∧ W.cell? ⟨N, 1, none⟩ = some (.int .i64 b)) (by kernel_rfl) ⟨q3, q4, k0, k1⟩ (fun hHeld => ?_)
                              refine' wpAnyH_take (i := 0) (oi := ⟨some 138, .move (.tmp 12), 126, "free.go:227", #[], none⟩) rfl (by kernel_rfl) (by kernel_rfl) (by kernel_rfl) (fun _ _ _ h => h) (Or.inl ⟨by rfl, _⟩) (by assumption) _
                              rotate_left
                              · (intro wS hSw; (try dsimp only at hSw); go_simp; try with_reducible rfl)
                              try simp only [Act.put, nA, nB, nC]
                              refine' wpAnyH_take (i := 1) (oi := ⟨some 139, .fieldAddr 46 (.tmp 3) 3, 0, "free.go:227", #[], none⟩) rfl (by kernel_rfl) (by kernel_rfl) (by kernel_rfl) (fun _ _ _ h => h) (Or.inl ⟨by rfl, _⟩) (by assumption) _
                              rotate_left
                              · (intro wS hSw; (try dsimp only at hSw); go_simp; try with_reducible rfl)
                              try simp only [Act.put, nA, nB, nC]
                              refine' wpAnyH_take (i := 2) (oi := ⟨some 140, .load 3 (.tmp 139), 3, "free.go:227", #[⟨1, .data⟩], none⟩) rfl (by kernel_rfl) (by kernel_rfl) (by kernel_rfl) (fun _ _ _ h => h) (Or.inl ⟨by rfl, _⟩) (by assumption) _
                              rotate_left
                              · (intro wS hSw; (try dsimp only at hSw); go_simp; try with_reducible rfl)
                              try simp only [Act.put, nA, nB, nC]
                              refine wpAnyH_ready (rs := [3]) (by kernel_rfl) (by simp) ?_
                              refine AllReadyH.cons (o := ⟨some 141, .call ⟨.value (.func 72), #[.tmp 138, .tmp 140], #[126, 3]⟩, 4, "free.go:227", #[⟨0, .data⟩, ⟨2, .data⟩], none⟩) rfl (fun K hK => ?_) AllReadyH.nil
                              go_simp
                              (refine HTR2.out.mono ?_; rintro e w31 ⟨m31, rfl⟩)
                              refine hK.out _ _ ?_ (fun hHeld => ?_)
                              · exact KT.out w31 m31
                              clear hK K
                              try simp only [Act.put, nA, nB, nC]
                              refine' wpAnyH_take (i := 4) (oi := ⟨some 142, .unOp .not 4 (.tmp 141), 4, "free.go:227", #[⟨3, .data⟩], none⟩) rfl (by kernel_rfl) (by kernel_rfl) (by kernel_rfl) (fun _ _ _ h => h) (Or.inl ⟨by rfl, _⟩) (by assumption) _
                              rotate_left
                              · (intro wS hSw; (try dsimp only at hSw); go_simp; try with_reducible rfl)
                              try simp only [Act.put, nA, nB, nC]
                              refine' wpAnyH_take (i := 5) (oi := ⟨some 143, .move (.tmp 142), 4, "free.go:227", #[⟨4, .data⟩, ⟨3, .chain⟩], none⟩) rfl (by kernel_rfl) (by kernel_rfl) (by kernel_rfl) (fun _ _ _ h => h) (Or.inl ⟨by rfl, _⟩) (by assumption) _
                              rotate_left
                              · (intro wS hSw; (try dsimp only at hSw); go_simp; try with_reducible rfl)
                              try simp only [Act.put, nA, nB, nC]
                              refine' wpAnyH_take (i := 6) (oi := ⟨some 144, .move (.tmp 12), 126, "free.go:227", #[⟨5, .guard⟩], some (5, false)⟩) rfl (by kernel_rfl) (by kernel_rfl) (by kernel_rfl) (fun _ _ _ h => h) (Or.inr ⟨by rfl, rfl⟩) (by assumption) _
                              try simp only [Act.put, nA, nB, nC]
                              refine' wpAnyH_take (i := 7) (oi := ⟨some 145, .fieldAddr 46 (.tmp 3) 4, 0, "free.go:227", #[⟨5, .guard⟩], some (5, false)⟩) rfl (by kernel_rfl) (by kernel_rfl) (by kernel_rfl) (fun _ _ _ h => h) (Or.inr ⟨by rfl, rfl⟩) (by assumption) _
                              try simp only [Act.put, nA, nB, nC]
                              refine' wpAnyH_take (i := 8) (oi := ⟨some 146, .load 28 (.tmp 145), 28, "free.go:227", #[⟨7, .data⟩, ⟨5, .guard⟩], some (5, false)⟩) rfl (by kernel_rfl) (by kernel_rfl) (by kernel_rfl) (fun _ _ _ h => h) (Or.inr ⟨by rfl, rfl⟩) (by assumption) _
                              try simp only [Act.put, nA, nB, nC]
                              refine' wpAnyH_take (i := 9) (oi := ⟨some 147, .load 23 (.tmp 2), 23, "free.go:227", #[⟨5, .guard⟩], some (5, false)⟩) rfl (by kernel_rfl) (by kernel_rfl) (by kernel_rfl) (fun _ _ _ h => h) (Or.inr ⟨by rfl, rfl⟩) (by assumption) _
                              try simp only [Act.put, nA, nB, nC]
                              refine' wpAnyH_take (i := 10) (oi := ⟨some 148, .call ⟨.value (.func 18), #[.tmp 147], #[23]⟩, 3, "free.go:227", #[⟨9, .data⟩, ⟨5, .chain⟩, ⟨5, .guard⟩], some (5, false)⟩) rfl (by kernel_rfl) (by kernel_rfl) (by kernel_rfl) (fun _ _ _ h => h) (Or.inr ⟨by rfl, rfl⟩) (by assumption) _
                              try simp only [Act.put, nA, nB, nC]
                              refine' wpAnyH_take (i := 11) (oi := ⟨some 149, .call ⟨.value (.func 73), #[.tmp 144, .tmp 146, .tmp 148], #[126, 28, 3]⟩, 4, "free.go:227", #[⟨6, .data⟩, ⟨8, .data⟩, ⟨10, .data⟩, ⟨10, .chain⟩, ⟨5, .guard⟩], some (5, false)⟩) rfl (by kernel_rfl) (by kernel_rfl) (by kernel_rfl) (fun _ _ _ h => h) (Or.inr ⟨by rfl, rfl⟩) (by assumption) _
                              try simp only [Act.put, nA, nB, nC]
                              refine' wpAnyH_take (i := 12) (oi := ⟨some 150, .unOp .not 4 (.tmp 149), 4, "free.go:227", #[⟨11, .data⟩, ⟨5, .guard⟩], some (5, false)⟩) rfl (by kernel_rfl) (by kernel_rfl) (by kernel_rfl) (fun _ _ _ h => h) (Or.inr ⟨by rfl, rfl⟩) (by assumption) _
                              try simp only [Act.put, nA, nB, nC]
                              refine' wpAnyH_take (i := 13) (oi := ⟨some 151, .pick (.tmp 143) (.const (.bool true)) (.tmp 150), 4, "free.go:227", #[⟨5, .data⟩, ⟨12, .data⟩], none⟩) rfl (by kernel_rfl) (by kernel_rfl) (by kernel_rfl) (fun _ _ _ h => h) (Or.inl ⟨by rfl, _⟩) (by assumption) _
                              rotate_left
                              · (intro wS hSw; (try dsimp only at hSw); go_simp; try with_reducible rfl)
                              try simp only [Act.put, nA, nB, nC]
                              refine wpAnyH_done (by kernel_rfl) ?_ _
                              have F5 := Lib.hid (m31.heap (b := N + 2) Y3.out (by omega))
                              have B5 : Hid (Below N w w31) := BY.out.drew.trans (m31.below (n := N) (fun k hk e => by omega) (by omega))
                              clear q3 q4 k0 k1 hHeld m31
                              have g0 := heap_cell F5.out (o := 0)
                              have g1 := heap_cell F5.out (o := 1)
                              have g2 := heap_cell F5.out (o := 2)
                              have g3 := heap_cell F5.out (o := 3)
                              have fz0 := heap_free F5.out 0
                              have fz1 := heap_free F5.out 1
                              have fz2 := heap_free F5.out 2
                              have fz3 := heap_free F5.out 3
                              go_wp2_with fail
                              have BW := (((B5.out.setCell (p := ⟨N + 2, 0, none⟩) (by show N ≤ N + 2; omega) (.slice none 0 0)).setCell (p := ⟨N + 2, 1, none⟩) (by show N ≤ N + 2; omega) (.slice none 0 0)).setCell (p := ⟨N + 2, 2, none⟩) (by show N ≤ N + 2; omega) (.int .i64 0)).setCell (p := ⟨N + 2, 3, none⟩) (by show N ≤ N + 2; omega) (.int .u32 0)
                              have HW := heap_set (o := 3) (heap_set (o := 2) (heap_set (o := 1) (heap_set (o := 0) F5.out (.slice none 0 0)) (.slice none 0 0)) (.int .i64 0)) (.int .u32 0)
                              obtain ⟨W, hW⟩ : ∃ W, ((((w31.setCell ⟨N + 2, 0, none⟩ (.slice none 0 0)).setCell ⟨N + 2, 1, none⟩ (.slice none 0 0)).setCell ⟨N + 2, 2, none⟩ (.int .i64 0)).setCell ⟨N + 2, 3, none⟩ (.int .u32 0)) = W := ⟨_, rfl⟩
                              rw [hW] at BW HW
                              rw [hW]
                              have c0 := heap_cell HW (o := 0)
                              have c1 := heap_cell HW (o := 1)
                              have c2 := heap_cell HW (o := 2)
                              have c3 := heap_cell HW (o := 3)
                              refine bodyPost_ret (v := .tuple #[.agg #[.slice none 0 0, .slice none 0 0, .int .i64 0, .int .u32 0], .int .i64 5]) (by simp [results, Try.results31, go_sem, c0, c1, c2, c3]) rfl ?_
                              exact HErr.out 5 _ HE.out BW
                            case some s =>
                              rw [htf] at HTR2
                              have hok := treesF_ok tn _ s HTok.out htf
                              obtain ⟨hok1, hok2, hok3, hok4, hok5⟩ := hok
                              have hbd := entI_bd a b
                              have hE246 : 246 ≤ entI a b := by
                                rw [entI_true HQ.out]
                                split
                                · omega
                                · split
                                  · omega
                                  · split <;> omega
                              obtain ⟨n, hnE⟩ : ∃ n : Nat, entI a b = (n : Int) := ⟨(entI a b).toNat, by omega⟩
                              rw [hnE] at hbd hE246
                              have hn1 : 1 ≤ n := by omega
                              have hn2 : n ≤ 2038 := by omega
                              have HNE := Lib.hid hnE
                              have HA4 : Hid (r = match listF s.left (heldS held) most n pages chain ⟨openN s.left (heldS held) chain rel s.opened, s.opened, s.pages, []⟩ with | none => .inl 5 | some t => .inr ⟨s.trees, dealL n (setL pages t.s.L) t.lists, t.opened, t.pages⟩) := by
                                show _ = _
                                rw [HA3.out]
                                unfold plan2
                                rw [htf, hnE, Int.toNat_natCast]
                                rfl
                              clear htf hbd hE246 hnE hok1 hok3
                              cases hlf : listF s.left (heldS held) most n pages chain ⟨openN s.left (heldS held) chain rel s.opened, s.opened, s.pages, []⟩
                              case none =>
                                have HE : Hid (r = .inl 5) := by show _ = _; rw [HA4.out, hlf]
                                have HLF := Lib.hid hlf
                                clear hlf
                                go_upto_region 30 with fail
                                refine wp_region_held_drew (S := fun W => W.cell? ⟨N + 1, 3, none⟩ = some (.int .i64 (tn : Int)) ∧ W.cell? ⟨N + 1, 4, none⟩ = some (.slice rad rel.length rcap) ∧ W.cell? ⟨N, 0, none⟩ = some (.int .i64 a) ∧ W.cell? ⟨N, 1, none⟩ = some (.int .i64 b)) (by kernel_rfl) ⟨q3, q4, k0, k1⟩ (fun hHeld => ?_)
                                refine' wpAnyH_take (i := 0) (oi := ⟨some 138, .move (.tmp 12), 126, "free.go:227", #[], none⟩) rfl (by kernel_rfl) (by kernel_rfl) (by kernel_rfl) (fun _ _ _ h => h) (Or.inl ⟨by rfl, _⟩) (by assumption) _
                                rotate_left
                                · (intro wS hSw; (try dsimp only at hSw); go_simp; try with_reducible rfl)
                                try simp only [Act.put, nA, nB, nC]
                                refine' wpAnyH_take (i := 1) (oi := ⟨some 139, .fieldAddr 46 (.tmp 3) 3, 0, "free.go:227", #[], none⟩) rfl (by kernel_rfl) (by kernel_rfl) (by kernel_rfl) (fun _ _ _ h => h) (Or.inl ⟨by rfl, _⟩) (by assumption) _
                                rotate_left
                                · (intro wS hSw; (try dsimp only at hSw); go_simp; try with_reducible rfl)
                                try simp only [Act.put, nA, nB, nC]
                                refine' wpAnyH_take (i := 2) (oi := ⟨some 140, .load 3 (.tmp 139), 3, "free.go:227", #[⟨1, .data⟩], none⟩) rfl (by kernel_rfl) (by kernel_rfl) (by kernel_rfl) (fun _ _ _ h => h) (Or.inl ⟨by rfl, _⟩) (by assumption) _
                                rotate_left
                                · (intro wS hSw; (try dsimp only at hSw); go_simp; try with_reducible rfl)
                                try simp only [Act.put, nA, nB, nC]
                                refine wpAnyH_ready (rs := [3]) (by kernel_rfl) (by simp) ?_
                                refine AllReadyH.cons (o := ⟨some 141, .call ⟨.value (.func 72), #[.tmp 138, .tmp 140], #[126, 3]⟩, 4, "free.go:227", #[⟨0, .data⟩, ⟨2, .data⟩], none⟩) rfl (fun K hK => ?_) AllReadyH.nil
                                go_simp
                                (refine HTR2.out.mono ?_; rintro e w31 ⟨m31, rfl, tv, t31, o31, l31⟩)
                                refine hK.out _ _ ?_ (fun hHeld => ?_)
                                · exact KT.out w31 m31
                                clear hK K
                                try simp only [Act.put, nA, nB, nC]
                                refine' wpAnyH_take (i := 4) (oi := ⟨some 142, .unOp .not 4 (.tmp 141), 4, "free.go:227", #[⟨3, .data⟩], none⟩) rfl (by kernel_rfl) (by kernel_rfl) (by kernel_rfl) (fun _ _ _ h => h) (Or.inl ⟨by rfl, _⟩) (by assumption) _
                                rotate_left
                                · (intro wS hSw; (try dsimp only at hSw); go_simp; try with_reducible rfl)
                                try simp only [Act.put, nA, nB, nC]
                                refine' wpAnyH_take (i := 5) (oi := ⟨some 143, .move (.tmp 142), 4, "free.go:227", #[⟨4, .data⟩, ⟨3, .chain⟩], none⟩) rfl (by kernel_rfl) (by kernel_rfl) (by kernel_rfl) (fun _ _ _ h => h) (Or.inl ⟨by rfl, _⟩) (by assumption) _
                                rotate_left
                                · (intro wS hSw; (try dsimp only at hSw); go_simp; try with_reducible rfl)
                                try simp only [Act.put, nA, nB, nC]
                                refine' wpAnyH_take (i := 6) (oi := ⟨some 144, .move (.tmp 12), 126, "free.go:227", #[⟨5, .guard⟩], some (5, false)⟩) rfl (by kernel_rfl) (by kernel_rfl) (by kernel_rfl) (fun _ _ _ h => h) (Or.inl ⟨by rfl, _⟩) (by assumption) _
                                rotate_left
                                · (intro wS hSw; (try dsimp only at hSw); go_simp; try with_reducible rfl)
                                try simp only [Act.put, nA, nB, nC]
                                refine' wpAnyH_take (i := 7) (oi := ⟨some 145, .fieldAddr 46 (.tmp 3) 4, 0, "free.go:227", #[⟨5, .guard⟩], some (5, false)⟩) rfl (by kernel_rfl) (by kernel_rfl) (by kernel_rfl) (fun _ _ _ h => h) (Or.inl ⟨by rfl, _⟩) (by assumption) _
                                rotate_left
                                · (intro wS hSw; (try dsimp only at hSw); go_simp; try with_reducible rfl)
                                try simp only [Act.put, nA, nB, nC]
                                refine' wpAnyH_take (i := 8) (oi := ⟨some 146, .load 28 (.tmp 145), 28, "free.go:227", #[⟨7, .data⟩, ⟨5, .guard⟩], some (5, false)⟩) rfl (by kernel_rfl) (by kernel_rfl) (by kernel_rfl) (fun _ _ _ h => h) (Or.inl ⟨by rfl, _⟩) (by assumption) _
                                rotate_left
                                · (intro wS hSw; (try dsimp only at hSw); go_simp; try with_reducible rfl)
                                try simp only [Act.put, nA, nB, nC]
                                refine' wpAnyH_take (i := 9) (oi := ⟨some 147, .load 23 (.tmp 2), 23, "free.go:227", #[⟨5, .guard⟩], some (5, false)⟩) rfl (by kernel_rfl) (by kernel_rfl) (by kernel_rfl) (fun _ _ _ h => h) (Or.inl ⟨by rfl, _⟩) (by assumption) _
                                rotate_left
                                · (intro wS hSw; (try dsimp only at hSw); go_simp; try with_reducible rfl)
                                try simp only [Act.put, nA, nB, nC]
                                refine wpAnyH_ready (rs := [10]) (by kernel_rfl) (by simp) ?_
                                refine AllReadyH.cons (o := ⟨some 148, .call ⟨.value (.func 18), #[.tmp 147], #[23]⟩, 3, "free.go:227", #[⟨9, .data⟩, ⟨5, .chain⟩, ⟨5, .guard⟩], some (5, false)⟩) rfl (fun K hK => ?_) AllReadyH.nil
                                go_simp
                                (refine (Entries_any a b w31).mono ?_; rintro e w32 ⟨rfl, b32⟩; rw [HNE.out]; have m32 : TMod (hb + 2) (hb + 1) B wr.drew w32 := m31.then (Mod.of _ b32))
                                refine hK.out _ _ ?_ (fun hHeld => ?_)
                                · exact KT.out w32 m32
                                clear hK K
                                try simp only [Act.put, nA, nB, nC]
                                refine wpAnyH_ready (rs := [11]) (by kernel_rfl) (by simp) ?_
                                refine AllReadyH.cons (o := ⟨some 149, .call ⟨.value (.func 73), #[.tmp 144, .tmp 146, .tmp 148], #[126, 28, 3]⟩, 4, "free.go:227", #[⟨6, .data⟩, ⟨8, .data⟩, ⟨10, .data⟩, ⟨10, .chain⟩, ⟨5, .guard⟩], some (5, false)⟩) rfl (fun K hK => ?_) AllReadyH.nil
                                go_simp
                                (refine (lists_any w w32 w32.heap.size (hb + 2) hb (hb + 1) most n pages s.opened s.pages held.length (flat chain).length tv _ _ chain rel s.left (heldS held) rfl (by show Below _ _ _; rw [hwN]; exact BY.out.drew.trans (m32.below (n := N) (fun k hk e => by omega) (by omega))) hch hre (by omega) (by have := m32.size; omega) (by have := m32.size; omega) (by have := m32.size; omega) (by omega) (by omega) (t31.mod (Mod.of (fun _ => False) b32) (fun h => h)) (YHd.out.mod m32 (by omega)) (l31.mod (Mod.of (fun _ => False) b32) (fun h => h)) HGood (by omega) hok2 hok5 (by omega) hn1 hn2).mono ?_; rw [HLF.out]; rintro e w33 ⟨m33, rfl⟩; have m33' : TMod (hb + 2) (hb + 1) B wr.drew w33 := m32.then (m33.mono (fun k _ e => .inl e)))
                                refine hK.out _ _ ?_ (fun hHeld => ?_)
                                · exact KT.out w33 m33'
                                clear hK K
                                try simp only [Act.put, nA, nB, nC]
                                refine' wpAnyH_take (i := 12) (oi := ⟨some 150, .unOp .not 4 (.tmp 149), 4, "free.go:227", #[⟨11, .data⟩, ⟨5, .guard⟩], some (5, false)⟩) rfl (by kernel_rfl) (by kernel_rfl) (by kernel_rfl) (fun _ _ _ h => h) (Or.inl ⟨by rfl, _⟩) (by assumption) _
                                rotate_left
                                · (intro wS hSw; (try dsimp only at hSw); go_simp; try with_reducible rfl)
                                try simp only [Act.put, nA, nB, nC]
                                refine' wpAnyH_take (i := 13) (oi := ⟨some 151, .pick (.tmp 143) (.const (.bool true)) (.tmp 150), 4, "free.go:227", #[⟨5, .data⟩, ⟨12, .data⟩], none⟩) rfl (by kernel_rfl) (by kernel_rfl) (by kernel_rfl) (fun _ _ _ h => h) (Or.inl ⟨by rfl, _⟩) (by assumption) _
                                rotate_left
                                · (intro wS hSw; (try dsimp only at hSw); go_simp; try with_reducible rfl)
                                try simp only [Act.put, nA, nB, nC]
                                refine wpAnyH_done (by kernel_rfl) ?_ _
                                have F5 := Lib.hid (m33'.heap (b := N + 2) Y3.out (by omega))
                                have B5 : Hid (Below N w w33) := BY.out.drew.trans (m33'.below (n := N) (fun k hk e => by omega) (by omega))
                                clear q3 q4 k0 k1 hHeld m31 m32 m33 m33'
                                have g0 := heap_cell F5.out (o := 0)
                                have g1 := heap_cell F5.out (o := 1)
                                have g2 := heap_cell F5.out (o := 2)
                                have g3 := heap_cell F5.out (o := 3)
                                have fz0 := heap_free F5.out 0
                                have fz1 := heap_free F5.out 1
                                have fz2 := heap_free F5.out 2
                                have fz3 := heap_free F5.out 3
                                go_wp2_with fail
                                have BW := (((B5.out.setCell (p := ⟨N + 2, 0, none⟩) (by show N ≤ N + 2; omega) (.slice none 0 0)).setCell (p := ⟨N + 2, 1, none⟩) (by show N ≤ N + 2; omega) (.slice none 0 0)).setCell (p := ⟨N + 2, 2, none⟩) (by show N ≤ N + 2; omega) (.int .i64 0)).setCell (p := ⟨N + 2, 3, none⟩) (by show N ≤ N + 2; omega) (.int .u32 0)
                                have HW := heap_set (o := 3) (heap_set (o := 2) (heap_set (o := 1) (heap_set (o := 0) F5.out (.slice none 0 0)) (.slice none 0 0)) (.int .i64 0)) (.int .u32 0)
                                obtain ⟨W, hW⟩ : ∃ W, ((((w33.setCell ⟨N + 2, 0, none⟩ (.slice none 0 0)).setCell ⟨N + 2, 1, none⟩ (.slice none 0 0)).setCell ⟨N + 2, 2, none⟩ (.int .i64 0)).setCell ⟨N + 2, 3, none⟩ (.int .u32 0)) = W := ⟨_, rfl⟩
                                rw [hW] at BW HW
                                rw [hW]
                                have c0 := heap_cell HW (o := 0)
                                have c1 := heap_cell HW (o := 1)
                                have c2 := heap_cell HW (o := 2)
                                have c3 := heap_cell HW (o := 3)
                                refine bodyPost_ret (v := .tuple #[.agg #[.slice none 0 0, .slice none 0 0, .int .i64 0, .int .u32 0], .int .i64 5]) (by simp [results, Try.results31, go_sem, c0, c1, c2, c3]) rfl ?_
                                exact HErr.out 5 _ HE.out BW
                              case some t =>
                                have HE : Hid (r = .inr ⟨s.trees, dealL n (setL pages t.s.L) t.lists, t.opened, t.pages⟩) := by show _ = _; rw [HA4.out, hlf]
                                have HLF := Lib.hid hlf
                                clear hlf
                                go_upto_region 30 with fail
                                refine wp_region_held_drew (S := fun W => W.cell? ⟨N + 1, 3, none⟩ = some (.int .i64 (tn : Int)) ∧ W.cell? ⟨N + 1, 4, none⟩ = some (.slice rad rel.length rcap) ∧ W.cell? ⟨N, 0, none⟩ = some (.int .i64 a) ∧ W.cell? ⟨N, 1, none⟩ = some (.int .i64 b)) (by kernel_rfl) ⟨q3, q4, k0, k1⟩ (fun hHeld => ?_)
                                refine' wpAnyH_take (i := 0) (oi := ⟨some 138, .move (.tmp 12), 126, "free.go:227", #[], none⟩) rfl (by kernel_rfl) (by kernel_rfl) (by kernel_rfl) (fun _ _ _ h => h) (Or.inl ⟨by rfl, _⟩) (by assumption) _
                                rotate_left
                                · (intro wS hSw; (try dsimp only at hSw); go_simp; try with_reducible rfl)
                                try simp only [Act.put, nA, nB, nC]
                                refine' wpAnyH_take (i := 1) (oi := ⟨some 139, .fieldAddr 46 (.tmp 3) 3, 0, "free.go:227", #[], none⟩) rfl (by kernel_rfl) (by kernel_rfl) (by kernel_rfl) (fun _ _ _ h => h) (Or.inl ⟨by rfl, _⟩) (by assumption) _
                                rotate_left
                                · (intro wS hSw; (try dsimp only at hSw); go_simp; try with_reducible rfl)
                                try simp only [Act.put, nA, nB, nC]
                                refine' wpAnyH_take (i := 2) (oi := ⟨some 140, .load 3 (.tmp 139), 3, "free.go:227", #[⟨1, .data⟩], none⟩) rfl (by kernel_rfl) (by kernel_rfl) (by kernel_rfl) (fun _ _ _ h => h) (Or.inl ⟨by rfl, _⟩) (by assumption) _
                                rotate_left
                                · (intro wS hSw; (try dsimp only at hSw); go_simp; try with_reducible rfl)
                                try simp only [Act.put, nA, nB, nC]
                                refine wpAnyH_ready (rs := [3]) (by kernel_rfl) (by simp) ?_
                                refine AllReadyH.cons (o := ⟨some 141, .call ⟨.value (.func 72), #[.tmp 138, .tmp 140], #[126, 3]⟩, 4, "free.go:227", #[⟨0, .data⟩, ⟨2, .data⟩], none⟩) rfl (fun K hK => ?_) AllReadyH.nil
                                go_simp
                                (refine HTR2.out.mono ?_; rintro e w31 ⟨m31, rfl, tv, t31, o31, l31⟩)
                                refine hK.out _ _ ?_ (fun hHeld => ?_)
                                · exact KT.out w31 m31
                                clear hK K
                                try simp only [Act.put, nA, nB, nC]
                                refine' wpAnyH_take (i := 4) (oi := ⟨some 142, .unOp .not 4 (.tmp 141), 4, "free.go:227", #[⟨3, .data⟩], none⟩) rfl (by kernel_rfl) (by kernel_rfl) (by kernel_rfl) (fun _ _ _ h => h) (Or.inl ⟨by rfl, _⟩) (by assumption) _
                                rotate_left
                                · (intro wS hSw; (try dsimp only at hSw); go_simp; try with_reducible rfl)
                                try simp only [Act.put, nA, nB, nC]
                                refine' wpAnyH_take (i := 5) (oi := ⟨some 143, .move (.tmp 142), 4, "free.go:227", #[⟨4, .data⟩, ⟨3, .chain⟩], none⟩) rfl (by kernel_rfl) (by kernel_rfl) (by kernel_rfl) (fun _ _ _ h => h) (Or.inl ⟨by rfl, _⟩) (by assumption) _
                                rotate_left
                                · (intro wS hSw; (try dsimp only at hSw); go_simp; try with_reducible rfl)
                                try simp only [Act.put, nA, nB, nC]
                                refine' wpAnyH_take (i := 6) (oi := ⟨some 144, .move (.tmp 12), 126, "free.go:227", #[⟨5, .guard⟩], some (5, false)⟩) rfl (by kernel_rfl) (by kernel_rfl) (by kernel_rfl) (fun _ _ _ h => h) (Or.inl ⟨by rfl, _⟩) (by assumption) _
                                rotate_left
                                · (intro wS hSw; (try dsimp only at hSw); go_simp; try with_reducible rfl)
                                try simp only [Act.put, nA, nB, nC]
                                refine' wpAnyH_take (i := 7) (oi := ⟨some 145, .fieldAddr 46 (.tmp 3) 4, 0, "free.go:227", #[⟨5, .guard⟩], some (5, false)⟩) rfl (by kernel_rfl) (by kernel_rfl) (by kernel_rfl) (fun _ _ _ h => h) (Or.inl ⟨by rfl, _⟩) (by assumption) _
                                rotate_left
                                · (intro wS hSw; (try dsimp only at hSw); go_simp; try with_reducible rfl)
                                try simp only [Act.put, nA, nB, nC]
                                refine' wpAnyH_take (i := 8) (oi := ⟨some 146, .load 28 (.tmp 145), 28, "free.go:227", #[⟨7, .data⟩, ⟨5, .guard⟩], some (5, false)⟩) rfl (by kernel_rfl) (by kernel_rfl) (by kernel_rfl) (fun _ _ _ h => h) (Or.inl ⟨by rfl, _⟩) (by assumption) _
                                rotate_left
                                · (intro wS hSw; (try dsimp only at hSw); go_simp; try with_reducible rfl)
                                try simp only [Act.put, nA, nB, nC]
                                refine' wpAnyH_take (i := 9) (oi := ⟨some 147, .load 23 (.tmp 2), 23, "free.go:227", #[⟨5, .guard⟩], some (5, false)⟩) rfl (by kernel_rfl) (by kernel_rfl) (by kernel_rfl) (fun _ _ _ h => h) (Or.inl ⟨by rfl, _⟩) (by assumption) _
                                rotate_left
                                · (intro wS hSw; (try dsimp only at hSw); go_simp; try with_reducible rfl)
                                try simp only [Act.put, nA, nB, nC]
                                refine wpAnyH_ready (rs := [10]) (by kernel_rfl) (by simp) ?_
                                refine AllReadyH.cons (o := ⟨some 148, .call ⟨.value (.func 18), #[.tmp 147], #[23]⟩, 3, "free.go:227", #[⟨9, .data⟩, ⟨5, .chain⟩, ⟨5, .guard⟩], some (5, false)⟩) rfl (fun K hK => ?_) AllReadyH.nil
                                go_simp
                                (refine (Entries_any a b w31).mono ?_; rintro e w32 ⟨rfl, b32⟩; rw [HNE.out]; have m32 : TMod (hb + 2) (hb + 1) B wr.drew w32 := m31.then (Mod.of _ b32))
                                refine hK.out _ _ ?_ (fun hHeld => ?_)
                                · exact KT.out w32 m32
                                clear hK K
                                try simp only [Act.put, nA, nB, nC]
                                refine wpAnyH_ready (rs := [11]) (by kernel_rfl) (by simp) ?_
                                refine AllReadyH.cons (o := ⟨some 149, .call ⟨.value (.func 73), #[.tmp 144, .tmp 146, .tmp 148], #[126, 28, 3]⟩, 4, "free.go:227", #[⟨6, .data⟩, ⟨8, .data⟩, ⟨10, .data⟩, ⟨10, .chain⟩, ⟨5, .guard⟩], some (5, false)⟩) rfl (fun K hK => ?_) AllReadyH.nil
                                go_simp
                                (refine (lists_any w w32 w32.heap.size (hb + 2) hb (hb + 1) most n pages s.opened s.pages held.length (flat chain).length tv _ _ chain rel s.left (heldS held) rfl (by show Below _ _ _; rw [hwN]; exact BY.out.drew.trans (m32.below (n := N) (fun k hk e => by omega) (by omega))) hch hre (by omega) (by have := m32.size; omega) (by have := m32.size; omega) (by have := m32.size; omega) (by omega) (by omega) (t31.mod (Mod.of (fun _ => False) b32) (fun h => h)) (YHd.out.mod m32 (by omega)) (l31.mod (Mod.of (fun _ => False) b32) (fun h => h)) HGood (by omega) hok2 hok5 (by omega) hn1 hn2).mono ?_; rw [HLF.out]; rintro e w33 ⟨m33, rfl, lv, bs, t33, c33, d33⟩; have m33' : TMod (hb + 2) (hb + 1) B wr.drew w33 := m32.then (m33.mono (fun k _ e => .inl e)))
                                refine hK.out _ _ ?_ (fun hHeld => ?_)
                                · exact KT.out w33 m33'
                                clear hK K
                                try simp only [Act.put, nA, nB, nC]
                                refine' wpAnyH_take (i := 12) (oi := ⟨some 150, .unOp .not 4 (.tmp 149), 4, "free.go:227", #[⟨11, .data⟩, ⟨5, .guard⟩], some (5, false)⟩) rfl (by kernel_rfl) (by kernel_rfl) (by kernel_rfl) (fun _ _ _ h => h) (Or.inl ⟨by rfl, _⟩) (by assumption) _
                                rotate_left
                                · (intro wS hSw; (try dsimp only at hSw); go_simp; try with_reducible rfl)
                                try simp only [Act.put, nA, nB, nC]
                                refine' wpAnyH_take (i := 13) (oi := ⟨some 151, .pick (.tmp 143) (.const (.bool true)) (.tmp 150), 4, "free.go:227", #[⟨5, .data⟩, ⟨12, .data⟩], none⟩) rfl (by kernel_rfl) (by kernel_rfl) (by kernel_rfl) (fun _ _ _ h => h) (Or.inl ⟨by rfl, _⟩) (by assumption) _
                                rotate_left
                                · (intro wS hSw; (try dsimp only at hSw); go_simp; try with_reducible rfl)
                                try simp only [Act.put, nA, nB, nC]
                                refine wpAnyH_done (by kernel_rfl) ?_ _
                                have F5 := Lib.hid (m33'.heap (b := N + 2) Y3.out (by omega))
                                have B5 : Hid (Below N w w33) := BY.out.drew.trans (m33'.below (n := N) (fun k hk e => by omega) (by omega))
                                have hz32 : B ≤ w32.heap.size := by have := m32.size; omega
                                have o33 : OwnM w33 B tv s.trees := (o31.mod (Mod.of (fun _ => False) b32) (fun _ _ h => h)).mod m33 (fun g hg e => by have := (o31.lt g hg).1; omega)
                                have hto : ∀ g, tv.ownBlock = some g → B ≤ g ∧ g < w32.heap.size := fun g hg => by
                                  have h1 := o31.lt g hg
                                  have := b32.size
                                  omega
                                obtain ⟨tad, tcp, htv, hy1, hy2, hy3⟩ := o33.shape
                                obtain ⟨lad, lcp, hlv, hy4, hy5, hy6⟩ := c33.shape
                                obtain ⟨tl, htl⟩ : ∃ k, s.trees.length = k := ⟨_, rfl⟩
                                obtain ⟨ll, hll⟩ : ∃ k, bs.length = k := ⟨_, rfl⟩
                                rw [htl] at htv
                                rw [hll] at hlv
                                subst htv hlv
                                have O33 := Lib.hid o33
                                have C33 := Lib.hid c33
                                have D33 := Lib.hid d33
                                have HTO := Lib.hid hto
                                have t0 := heap_cell t33 (o := 0)
                                have t1 := heap_cell t33 (o := 1)
                                have t2 := heap_cell t33 (o := 2)
                                have t3 := heap_cell t33 (o := 3)
                                clear q3 q4 k0 k1 hHeld m31 m32 m33 m33' hy1 hy2 hy3 hy4 hy5 hy6 htl hll o33 c33 d33 hto o31 l31 t31 t33 b32
                                have g0 := heap_cell F5.out (o := 0)
                                have g1 := heap_cell F5.out (o := 1)
                                have g2 := heap_cell F5.out (o := 2)
                                have g3 := heap_cell F5.out (o := 3)
                                have fz0 := heap_free F5.out 0
                                have fz1 := heap_free F5.out 1
                                have fz2 := heap_free F5.out 2
                                have fz3 := heap_free F5.out 3
                                go_wp2_with fail
                                have BW := (((B5.out.setCell (p := ⟨N + 2, 0, none⟩) (by show N ≤ N + 2; omega) (.slice tad tl tcp)).setCell (p := ⟨N + 2, 1, none⟩) (by show N ≤ N + 2; omega) (.slice lad ll lcp)).setCell (p := ⟨N + 2, 2, none⟩) (by show N ≤ N + 2; omega) (.int .i64 (t.opened : Int))).setCell (p := ⟨N + 2, 3, none⟩) (by show N ≤ N + 2; omega) (.int .u32 (t.pages : Int))
                                have HW := heap_set (o := 3) (heap_set (o := 2) (heap_set (o := 1) (heap_set (o := 0) F5.out (.slice tad tl tcp)) (.slice lad ll lcp)) (.int .i64 (t.opened : Int))) (.int .u32 (t.pages : Int))
                                have MW := (((Mod.set (S := fun k => k = N + 2) (o := 0) w33 rfl (.slice tad tl tcp)).then (Mod.set (S := fun k => k = N + 2) (o := 1) _ rfl (.slice lad ll lcp))).then (Mod.set (S := fun k => k = N + 2) (o := 2) _ rfl (.int .i64 (t.opened : Int)))).then (Mod.set (S := fun k => k = N + 2) (o := 3) _ rfl (.int .u32 (t.pages : Int)))
                                obtain ⟨W, hW⟩ : ∃ W, ((((w33.setCell ⟨N + 2, 0, none⟩ (.slice tad tl tcp)).setCell ⟨N + 2, 1, none⟩ (.slice lad ll lcp)).setCell ⟨N + 2, 2, none⟩ (.int .i64 (t.opened : Int))).setCell ⟨N + 2, 3, none⟩ (.int .u32 (t.pages : Int))) = W := ⟨_, rfl⟩
                                rw [hW] at BW HW MW
                                rw [hW]
                                have c0 := heap_cell HW (o := 0)
                                have c1 := heap_cell HW (o := 1)
                                have c2 := heap_cell HW (o := 2)
                                have c3 := heap_cell HW (o := 3)
                                refine bodyPost_ret (v := .tuple #[.agg #[.slice tad tl tcp, .slice lad ll lcp, .int .i64 (t.opened : Int), .int .u32 (t.pages : Int)], .int .i64 0]) (by simp [results, Try.results31, go_sem, c0, c1, c2, c3]) rfl ?_
                                refine HYes.out ⟨s.trees, dealL n (setL pages t.s.L) t.lists, t.opened, t.pages⟩ _ _ bs w32.heap.size W HE.out BW (by omega) ((O33.out.mod MW (fun g hg e => by have := (HTO.out g hg).1; omega)).mono (by omega)) (fun g hg => (HTO.out g hg).2) (C33.out.mod MW (fun g hg e => by have := (C33.out.lt g hg).1; omega)) ?_
                                obtain ⟨d1, d2, d3⟩ := D33.out
                                exact ⟨d1, fun i hi => ⟨(d2 i hi).1, (d2 i hi).2.1.mod MW (fun g hg e => by have := ((d2 i hi).2.1.lt g hg).1; omega), (d2 i hi).2.2⟩, d3⟩
                  case pos =>
                    have ij : (j : Int) < (rel.length : Int) := by omega
                    have hu2 := hre.out.below (by rw [HN.out]; exact BJ.out)
                    obtain ⟨ad9, c9, e9, _, hx9⟩ := hu2.form
                    obtain ⟨nb, no, e8, hcs⟩ := hx9 (by omega)
                    have e7 := (Value.slice.inj e9).1
                    rw [e8] at e7
                    subst e7
                    have hc := hcs j hlt
                    have hxl := hre.out.1 _ (List.getElem_mem hlt)
                    have hg3 := HG.out
                    rw [numsGo_drop hlt] at hg3
                    obtain ⟨y, hy⟩ : ∃ y, rel[j] = y := ⟨_, rfl⟩
                    rw [hy] at hc hxl hg3
                    unfold uN at hc
                    have HG3 := Lib.hid hg3
                    have hmj := MJ.out.le
                    clear hg3 hy hcs e9 e8 hu2 hx9
                    obtain ⟨q1, hq1⟩ : ∃ q, ac.contains y = q := ⟨_, rfl⟩
                    have Q1 := Lib.hid hq1
                    clear hq1
                    go_upto_region 9 with fail
                    clear hc
                    with_reducible refine wp_region_list ?_
                    (with_reducible refine wpList_plain rfl ?_); intro K hK; go_simp; (first | with_reducible refine hK _ _ ?_ | refine hK _ _ ?_); clear hK K; try simp only [Act.put, nA, nB, nC]
                    (with_reducible refine wpList_plain rfl ?_); intro K hK; go_simp; (first | with_reducible refine hK _ _ ?_ | refine hK _ _ ?_); clear hK K; try simp only [Act.put, nA, nB, nC]
                    refine wpList_lookM rfl _ _ rfl SJ.out rfl y hxl rfl (fun c => ?_)
                    rw [Q1.out]
                    (try simp only [Act.put, nA, nB, nC])
                    (with_reducible refine wpList_plain rfl ?_); intro K hK; go_simp; (first | with_reducible refine hK _ _ ?_ | refine hK _ _ ?_); clear hK K; try simp only [Act.put, nA, nB, nC]
                    (with_reducible refine wpList_plain rfl ?_); intro K hK; go_simp; (first | with_reducible refine hK _ _ ?_ | refine hK _ _ ?_); clear hK K; try simp only [Act.put, nA, nB, nC]
                    (with_reducible refine wpList_plain rfl ?_); intro K hK; go_simp; (first | with_reducible refine hK _ _ ?_ | refine hK _ _ ?_); clear hK K; try simp only [Act.put, nA, nB, nC]
                    (with_reducible refine wpList_plain rfl ?_); intro K hK; go_simp; (first | with_reducible refine hK _ _ ?_ | refine hK _ _ ?_); clear hK K; try simp only [Act.put, nA, nB, nC]
                    (with_reducible refine wpList_plain rfl ?_); intro K hK; go_simp; (first | with_reducible refine hK _ _ ?_ | refine hK _ _ ?_); clear hK K; try simp only [Act.put, nA, nB, nC]
                    have p1 := heap_cell J2.out (o := 1)
                    by_cases hfr : freshB (fun z => ac.contains z) pages y = true
                    case neg =>
                      have HE : Hid (r = .inl 90) := by show _ = _; rw [HA2.out, HG3.out, if_neg hfr]
                      have g0 := heap_cell J3.out (o := 0)
                      have g1 := heap_cell J3.out (o := 1)
                      have g2 := heap_cell J3.out (o := 2)
                      have g3 := heap_cell J3.out (o := 3)
                      have fz0 := heap_free J3.out 0
                      have fz1 := heap_free J3.out 1
                      have fz2 := heap_free J3.out 2
                      have fz3 := heap_free J3.out 3
                      cases q1
                      case true =>
                        go_wp2_with fail
                        have BW := (((BJ.out.setCell (p := ⟨N + 2, 0, none⟩) (by show N ≤ N + 2; omega) (.slice none 0 0)).setCell (p := ⟨N + 2, 1, none⟩) (by show N ≤ N + 2; omega) (.slice none 0 0)).setCell (p := ⟨N + 2, 2, none⟩) (by show N ≤ N + 2; omega) (.int .i64 0)).setCell (p := ⟨N + 2, 3, none⟩) (by show N ≤ N + 2; omega) (.int .u32 0)
                        have HW := heap_set (o := 3) (heap_set (o := 2) (heap_set (o := 1) (heap_set (o := 0) J3.out (.slice none 0 0)) (.slice none 0 0)) (.int .i64 0)) (.int .u32 0)
                        obtain ⟨W, hW⟩ : ∃ W, ((((wr.setCell ⟨N + 2, 0, none⟩ (.slice none 0 0)).setCell ⟨N + 2, 1, none⟩ (.slice none 0 0)).setCell ⟨N + 2, 2, none⟩ (.int .i64 0)).setCell ⟨N + 2, 3, none⟩ (.int .u32 0)) = W := ⟨_, rfl⟩
                        rw [hW] at BW HW
                        rw [hW]
                        have c0 := heap_cell HW (o := 0)
                        have c1 := heap_cell HW (o := 1)
                        have c2 := heap_cell HW (o := 2)
                        have c3 := heap_cell HW (o := 3)
                        refine bodyPost_ret (v := .tuple #[.agg #[.slice none 0 0, .slice none 0 0, .int .i64 0, .int .u32 0], .int .i64 90]) (by simp [results, Try.results31, go_sem, c0, c1, c2, c3]) rfl ?_
                        exact HErr.out 90 _ HE.out BW
                      case false =>
                        by_cases hy2 : 2 ≤ y
                        case neg =>
                          have d1 : decide (y < 2) = true := decide_eq_true (by omega)
                          have d2 : decide ((y : Int) < 2) = true := decide_eq_true (by omega)
                          go_wp2_with fail
                          have BW := (((BJ.out.setCell (p := ⟨N + 2, 0, none⟩) (by show N ≤ N + 2; omega) (.slice none 0 0)).setCell (p := ⟨N + 2, 1, none⟩) (by show N ≤ N + 2; omega) (.slice none 0 0)).setCell (p := ⟨N + 2, 2, none⟩) (by show N ≤ N + 2; omega) (.int .i64 0)).setCell (p := ⟨N + 2, 3, none⟩) (by show N ≤ N + 2; omega) (.int .u32 0)
                          have HW := heap_set (o := 3) (heap_set (o := 2) (heap_set (o := 1) (heap_set (o := 0) J3.out (.slice none 0 0)) (.slice none 0 0)) (.int .i64 0)) (.int .u32 0)
                          obtain ⟨W, hW⟩ : ∃ W, ((((wr.setCell ⟨N + 2, 0, none⟩ (.slice none 0 0)).setCell ⟨N + 2, 1, none⟩ (.slice none 0 0)).setCell ⟨N + 2, 2, none⟩ (.int .i64 0)).setCell ⟨N + 2, 3, none⟩ (.int .u32 0)) = W := ⟨_, rfl⟩
                          rw [hW] at BW HW
                          rw [hW]
                          have c0 := heap_cell HW (o := 0)
                          have c1 := heap_cell HW (o := 1)
                          have c2 := heap_cell HW (o := 2)
                          have c3 := heap_cell HW (o := 3)
                          refine bodyPost_ret (v := .tuple #[.agg #[.slice none 0 0, .slice none 0 0, .int .i64 0, .int .u32 0], .int .i64 90]) (by simp [results, Try.results31, go_sem, c0, c1, c2, c3]) rfl ?_
                          exact HErr.out 90 _ HE.out BW
                        case pos =>
                          have d1 : decide (y < 2) = false := decide_eq_false (by omega)
                          have d2 : decide ((y : Int) < 2) = false := decide_eq_false (by omega)
                          have hyp : pages ≤ y := by
                            unfold freshB at hfr
                            dsimp only at hfr
                            rw [Q1.out, decide_eq_true hy2] at hfr
                            simp at hfr
                            omega
                          have d3 : decide (pages ≤ y) = true := decide_eq_true hyp
                          have d4 : decide ((pages : Int) ≤ (y : Int)) = true := decide_eq_true (by omega)
                          go_wp2_with fail
                          have BW := (((BJ.out.setCell (p := ⟨N + 2, 0, none⟩) (by show N ≤ N + 2; omega) (.slice none 0 0)).setCell (p := ⟨N + 2, 1, none⟩) (by show N ≤ N + 2; omega) (.slice none 0 0)).setCell (p := ⟨N + 2, 2, none⟩) (by show N ≤ N + 2; omega) (.int .i64 0)).setCell (p := ⟨N + 2, 3, none⟩) (by show N ≤ N + 2; omega) (.int .u32 0)
                          have HW := heap_set (o := 3) (heap_set (o := 2) (heap_set (o := 1) (heap_set (o := 0) J3.out (.slice none 0 0)) (.slice none 0 0)) (.int .i64 0)) (.int .u32 0)
                          obtain ⟨W, hW⟩ : ∃ W, ((((wr.setCell ⟨N + 2, 0, none⟩ (.slice none 0 0)).setCell ⟨N + 2, 1, none⟩ (.slice none 0 0)).setCell ⟨N + 2, 2, none⟩ (.int .i64 0)).setCell ⟨N + 2, 3, none⟩ (.int .u32 0)) = W := ⟨_, rfl⟩
                          rw [hW] at BW HW
                          rw [hW]
                          have c0 := heap_cell HW (o := 0)
                          have c1 := heap_cell HW (o := 1)
                          have c2 := heap_cell HW (o := 2)
                          have c3 := heap_cell HW (o := 3)
                          refine bodyPost_ret (v := .tuple #[.agg #[.slice none 0 0, .slice none 0 0, .int .i64 0, .int .u32 0], .int .i64 90]) (by simp [results, Try.results31, go_sem, c0, c1, c2, c3]) rfl ?_
                          exact HErr.out 90 _ HE.out BW
                    case pos =>
                      have hg4 := HG3.out
                      rw [if_pos hfr] at hg4
                      have HG4 : Hid (numsGo pages rel acc = numsGo pages (rel.drop (j + 1)) (y :: ac)) := hg4
                      have MJ2 : Hid (Met pages (y :: ac)) := MJ.out.cons hfr
                      unfold freshB at hfr
                      dsimp only at hfr
                      rw [Q1.out] at hfr
                      simp only [Bool.and_eq_true, Bool.not_eq_true', decide_eq_true_eq] at hfr
                      obtain ⟨rfl, hy2, hy3⟩ := hfr
                      have d1 : decide (y < 2) = false := decide_eq_false (by omega)
                      have d2 : decide ((y : Int) < 2) = false := decide_eq_false (by omega)
                      have d3 : decide (pages ≤ y) = false := decide_eq_false (by omega)
                      have d4 : decide ((pages : Int) ≤ (y : Int)) = false := decide_eq_false (by omega)
                      clear hg4 HG3
                      go_upto_region 12 with fail
                      clear d1 d2 d3 d4 p1
                      with_reducible refine wp_region_list ?_
                      (with_reducible refine wpList_plain rfl ?_); intro K hK; go_simp; (first | with_reducible refine hK _ _ ?_ | refine hK _ _ ?_); clear hK K; try simp only [Act.put, nA, nB, nC]
                      (with_reducible refine wpList_plain rfl ?_); intro K hK; go_simp; (first | with_reducible refine hK _ _ ?_ | refine hK _ _ ?_); clear hK K; try simp only [Act.put, nA, nB, nC]
                      refine wpList_putM rfl _ _ _ rfl SJ.out (by omega) rfl y hxl rfl rfl (fun w9 h9 m9 => ?_)
                      (try simp only [Act.put, nA, nB, nC])
                      have S9 := Lib.hid (SetM.cons h9)
                      have M9 := Lib.hid (MB.out.then m9)
                      clear h9 m9
                      go_wp2_with fail
                      exact ⟨⟨j + 1, y :: ac, by omega, HG4, S9, MJ2, M9, by go_num⟩, by simp [intOf]; omega⟩
end Go.Proofs.Ytkngmnfgdlnddaa

