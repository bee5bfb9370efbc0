/-
  The walk of the reference's Check.
-/
import Derived.Test.YtkngmnfgdlnddaaRgtW
set_option linter.unusedSimpArgs false
set_option linter.unusedVariables false
namespace Go.Proofs.Ytkngmnfgdlnddaa
open Go.RowKit Go.Lib Hw Go.Maps
set_option linter.unusedSimpArgs false
set_option linter.unusedVariables false

set_option maxHeartbeats 4000000 in
theorem refCheck_any (a b : Int) (pages : Nat) (v : Value) (cs : List (Nat × List Nat)) (w : World) (hv : Hid (CRow w v cs)) :
    Calls Try.prog 40 #[.agg #[.int .i64 a, .int .i64 b], v, .int .u32 (pages : Int)] w fun e w' => e = .returned (.int .i64 (chkI a b cs pages)) ∧ Below w.heap.size w w' := by
  obtain ⟨cad, cc, hcv, hx1⟩ := hv.out.form
  clear hx1
  subst hcv
  obtain ⟨N, hN⟩ : ∃ N, w.heap.size = N := ⟨_, rfl⟩
  have HN := Lib.hid hN
  have HRet : Hid (∀ W k, chkI a b cs pages = k → Below N w W → (fun (e : Ending) (w' : World) => e = .returned (.int .i64 (chkI a b cs pages)) ∧ Below w.heap.size w w') (.returned (.int .i64 k)) W) := fun W k h1 h2 => ⟨by rw [h1], by rw [hN]; exact h2⟩
  obtain ⟨R, hR⟩ : ∃ R, (fun (e : Ending) (w' : World) => e = .returned (.int .i64 (chkI a b cs pages)) ∧ Below w.heap.size w w') = R := ⟨_, rfl⟩
  rw [hR] at HRet ⊢
  obtain ⟨q, hq⟩ : ∃ q, mayB a b = q := ⟨_, rfl⟩
  have HQ := Lib.hid hq
  have HC : Hid (chkI a b cs pages = if q && (decide (2 ≤ pages) && decide (pages ≤ 65536)) then (if rightGo (entI a b) pages cs [] then 0 else 90) else 2) := by
    show _ = _
    unfold chkI
    rw [hq, right_seen]
    cases seenGo (entI a b) pages cs [] <;> rfl
  obtain ⟨nc, hnc⟩ : ∃ k, cs.length = k := ⟨_, rfl⟩
  rw [hnc] at hv ⊢
  clear hN hR hq hnc
  go_enter Try.func40, Try.ntmps40
  go_upto_region 0 with fail
  with_reducible refine wp_region_list ?_
  refine wpList_boxB rfl _ _ rfl N HN.out #[.int .i64 a, .int .i64 b] rfl ?_
  intro w1 e1 b1 z1
  (try simp only [Act.put, nA, nB, nC])
  with_reducible refine wpList_plain rfl ?_
  intro K hK
  go_simp
  first | with_reducible refine hK _ _ ?_ | refine hK _ _ ?_
  clear hK K
  (try simp only [Act.put, nA, nB, nC])
  have B1 := Lib.hid b1
  have E1 := Lib.hid e1
  have hz1 : N < w1.heap.size := heap_lt e1
  have c0 := heap_cell e1 (o := 0)
  have c1 := heap_cell e1 (o := 1)
  clear b1 e1 z1
  go_upto_region 1 with fail
  with_reducible refine wp_region_list ?_
  with_reducible refine wpList_plain rfl ?_
  intro K hK
  go_simp
  first | with_reducible refine hK _ _ ?_ | refine hK _ _ ?_
  clear hK K
  (try simp only [Act.put, nA, nB, nC])
  with_reducible refine wpList_plain rfl ?_
  intro K hK
  go_simp
  refine (MayFrame_any a b w1).mono ?_; rintro e w2 ⟨rfl, b2⟩; rw [HQ.out]
  first | with_reducible refine hK _ _ ?_ | refine hK _ _ ?_
  clear hK K
  (try simp only [Act.put, nA, nB, nC])
  have B2 : Hid (Below N w w2) := B1.out.trans (b2.mono (by omega))
  have E2 := Lib.hid (heap_below E1.out b2 hz1)
  have hz2 : N < w2.heap.size := heap_lt E2.out
  clear b2 c0 c1 B1 E1 hz1
  cases q
  case false =>
    have HF := Lib.hid (HRet.out w2 2 (by rw [HC.out]; rfl) B2.out)
    with_reducible refine wpList_plain rfl ?_
    intro K hK
    go_simp
    first | with_reducible refine hK _ _ ?_ | refine hK _ _ ?_
    clear hK K
    (try simp only [Act.put, nA, nB, nC])
    with_reducible refine wpList_plain rfl ?_
    intro K hK
    go_simp
    first | with_reducible refine hK _ _ ?_ | refine hK _ _ ?_
    clear hK K
    (try simp only [Act.put, nA, nB, nC])
    with_reducible refine wpList_step ?_
    intro K hK
    rw [if_neg (Bool.eq_false_iff.1 (by rfl))]
    first | with_reducible refine hK _ _ ?_ | refine hK _ _ ?_
    clear hK K
    (try simp only [Act.put, nA, nB, nC])
    with_reducible refine wpList_step ?_
    intro K hK
    rw [if_neg (Bool.eq_false_iff.1 (by rfl))]
    first | with_reducible refine hK _ _ ?_ | refine hK _ _ ?_
    clear hK K
    (try simp only [Act.put, nA, nB, nC])
    with_reducible refine wpList_plain rfl ?_
    intro K hK
    go_simp
    first | with_reducible refine hK _ _ ?_ | refine hK _ _ ?_
    clear hK K
    (try simp only [Act.put, nA, nB, nC])
    with_reducible refine wpList_plain rfl ?_
    intro K hK
    go_simp
    first | with_reducible refine hK _ _ ?_ | refine hK _ _ ?_
    clear hK K
    (try simp only [Act.put, nA, nB, nC])
    with_reducible refine wpList_step ?_
    intro K hK
    rw [if_neg (Bool.eq_false_iff.1 (by rfl))]
    first | with_reducible refine hK _ _ ?_ | refine hK _ _ ?_
    clear hK K
    (try simp only [Act.put, nA, nB, nC])
    with_reducible refine wpList_step ?_
    intro K hK
    rw [if_neg (Bool.eq_false_iff.1 (by rfl))]
    first | with_reducible refine hK _ _ ?_ | refine hK _ _ ?_
    clear hK K
    (try simp only [Act.put, nA, nB, nC])
    with_reducible refine wpList_plain rfl ?_
    intro K hK
    go_simp
    first | with_reducible refine hK _ _ ?_ | refine hK _ _ ?_
    clear hK K
    (try simp only [Act.put, nA, nB, nC])
    go_wp2_with fail
    exact HF.out
  case true =>
    by_cases h1 : 2 ≤ pages
    case neg =>
      have y1 : decide (pages < 2) = true := decide_eq_true (by omega)
      have y2 : decide ((pages : Int) < 2) = true := decide_eq_true (by omega)
      have HF := Lib.hid (HRet.out w2 2 (by rw [HC.out, decide_eq_false h1]; rfl) B2.out)
      with_reducible refine wpList_plain rfl ?_
      intro K hK
      go_simp
      first | with_reducible refine hK _ _ ?_ | refine hK _ _ ?_
      clear hK K
      (try simp only [Act.put, nA, nB, nC])
      with_reducible refine wpList_plain rfl ?_
      intro K hK
      go_simp
      first | with_reducible refine hK _ _ ?_ | refine hK _ _ ?_
      clear hK K
      (try simp only [Act.put, nA, nB, nC])
      with_reducible refine wpList_step ?_
      intro K hK
      rw [if_pos (by rfl)]
      go_simp
      first | with_reducible refine hK _ _ ?_ | refine hK _ _ ?_
      clear hK K
      (try simp only [Act.put, nA, nB, nC])
      with_reducible refine wpList_step ?_
      intro K hK
      rw [if_pos (by rfl)]
      go_simp
      first | with_reducible refine hK _ _ ?_ | refine hK _ _ ?_
      clear hK K
      (try simp only [Act.put, nA, nB, nC])
      with_reducible refine wpList_plain rfl ?_
      intro K hK
      go_simp
      first | with_reducible refine hK _ _ ?_ | refine hK _ _ ?_
      clear hK K
      (try simp only [Act.put, nA, nB, nC])
      with_reducible refine wpList_plain rfl ?_
      intro K hK
      go_simp
      first | with_reducible refine hK _ _ ?_ | refine hK _ _ ?_
      clear hK K
      (try simp only [Act.put, nA, nB, nC])
      with_reducible refine wpList_step ?_
      intro K hK
      rw [if_neg (Bool.eq_false_iff.1 (by rfl))]
      first | with_reducible refine hK _ _ ?_ | refine hK _ _ ?_
      clear hK K
      (try simp only [Act.put, nA, nB, nC])
      with_reducible refine wpList_step ?_
      intro K hK
      rw [if_neg (Bool.eq_false_iff.1 (by rfl))]
      first | with_reducible refine hK _ _ ?_ | refine hK _ _ ?_
      clear hK K
      (try simp only [Act.put, nA, nB, nC])
      with_reducible refine wpList_plain rfl ?_
      intro K hK
      go_simp
      first | with_reducible refine hK _ _ ?_ | refine hK _ _ ?_
      clear hK K
      (try simp only [Act.put, nA, nB, nC])
      go_wp2_with fail
      exact HF.out
    case pos =>
      have y1 : decide (pages < 2) = false := decide_eq_false (by omega)
      have y2 : decide ((pages : Int) < 2) = false := decide_eq_false (by omega)
      by_cases h2 : pages ≤ 65536
      case neg =>
        have y3 : decide (65536 < pages) = true := decide_eq_true (by omega)
        have y4 : decide ((65536 : Int) < (pages : Int)) = true := decide_eq_true (by omega)
        have HF := Lib.hid (HRet.out w2 2 (by rw [HC.out, decide_eq_true h1, decide_eq_false h2]; rfl) B2.out)
        with_reducible refine wpList_plain rfl ?_
        intro K hK
        go_simp
        first | with_reducible refine hK _ _ ?_ | refine hK _ _ ?_
        clear hK K
        (try simp only [Act.put, nA, nB, nC])
        with_reducible refine wpList_plain rfl ?_
        intro K hK
        go_simp
        first | with_reducible refine hK _ _ ?_ | refine hK _ _ ?_
        clear hK K
        (try simp only [Act.put, nA, nB, nC])
        with_reducible refine wpList_step ?_
        intro K hK
        rw [if_pos (by rfl)]
        go_simp
        first | with_reducible refine hK _ _ ?_ | refine hK _ _ ?_
        clear hK K
        (try simp only [Act.put, nA, nB, nC])
        with_reducible refine wpList_step ?_
        intro K hK
        rw [if_pos (by rfl)]
        go_simp
        first | with_reducible refine hK _ _ ?_ | refine hK _ _ ?_
        clear hK K
        (try simp only [Act.put, nA, nB, nC])
        with_reducible refine wpList_plain rfl ?_
        intro K hK
        go_simp
        first | with_reducible refine hK _ _ ?_ | refine hK _ _ ?_
        clear hK K
        (try simp only [Act.put, nA, nB, nC])
        with_reducible refine wpList_plain rfl ?_
        intro K hK
        go_simp
        first | with_reducible refine hK _ _ ?_ | refine hK _ _ ?_
        clear hK K
        (try simp only [Act.put, nA, nB, nC])
        with_reducible refine wpList_step ?_
        intro K hK
        rw [if_pos (by rfl)]
        go_simp
        first | with_reducible refine hK _ _ ?_ | refine hK _ _ ?_
        clear hK K
        (try simp only [Act.put, nA, nB, nC])
        with_reducible refine wpList_step ?_
        intro K hK
        rw [if_pos (by rfl)]
        go_simp
        first | with_reducible refine hK _ _ ?_ | refine hK _ _ ?_
        clear hK K
        (try simp only [Act.put, nA, nB, nC])
        with_reducible refine wpList_plain rfl ?_
        intro K hK
        go_simp
        first | with_reducible refine hK _ _ ?_ | refine hK _ _ ?_
        clear hK K
        (try simp only [Act.put, nA, nB, nC])
        go_wp2_with fail
        exact HF.out
      case pos =>
        have y3 : decide (65536 < pages) = false := decide_eq_false (by omega)
        have y4 : decide ((65536 : Int) < (pages : Int)) = false := decide_eq_false (by omega)
        with_reducible refine wpList_plain rfl ?_
        intro K hK
        go_simp
        first | with_reducible refine hK _ _ ?_ | refine hK _ _ ?_
        clear hK K
        (try simp only [Act.put, nA, nB, nC])
        with_reducible refine wpList_plain rfl ?_
        intro K hK
        go_simp
        first | with_reducible refine hK _ _ ?_ | refine hK _ _ ?_
        clear hK K
        (try simp only [Act.put, nA, nB, nC])
        with_reducible refine wpList_step ?_
        intro K hK
        rw [if_pos (by rfl)]
        go_simp
        first | with_reducible refine hK _ _ ?_ | refine hK _ _ ?_
        clear hK K
        (try simp only [Act.put, nA, nB, nC])
        with_reducible refine wpList_step ?_
        intro K hK
        rw [if_pos (by rfl)]
        go_simp
        first | with_reducible refine hK _ _ ?_ | refine hK _ _ ?_
        clear hK K
        (try simp only [Act.put, nA, nB, nC])
        with_reducible refine wpList_plain rfl ?_
        intro K hK
        go_simp
        first | with_reducible refine hK _ _ ?_ | refine hK _ _ ?_
        clear hK K
        (try simp only [Act.put, nA, nB, nC])
        with_reducible refine wpList_plain rfl ?_
        intro K hK
        go_simp
        first | with_reducible refine hK _ _ ?_ | refine hK _ _ ?_
        clear hK K
        (try simp only [Act.put, nA, nB, nC])
        with_reducible refine wpList_step ?_
        intro K hK
        rw [if_pos (by rfl)]
        go_simp
        first | with_reducible refine hK _ _ ?_ | refine hK _ _ ?_
        clear hK K
        (try simp only [Act.put, nA, nB, nC])
        with_reducible refine wpList_step ?_
        intro K hK
        rw [if_pos (by rfl)]
        go_simp
        first | with_reducible refine hK _ _ ?_ | refine hK _ _ ?_
        clear hK K
        (try simp only [Act.put, nA, nB, nC])
        with_reducible refine wpList_plain rfl ?_
        intro K hK
        go_simp
        first | with_reducible refine hK _ _ ?_ | refine hK _ _ ?_
        clear hK K
        (try simp only [Act.put, nA, nB, nC])
        obtain ⟨r, hr⟩ : ∃ r, rightGo (entI a b) pages cs [] = r := ⟨_, rfl⟩
        have HR2 := Lib.hid hr
        have HC2 : Hid (chkI a b cs pages = if r then 0 else 90) := by show _ = _; rw [HC.out, decide_eq_true h1, decide_eq_true h2, hr]; rfl
        have c0 := heap_cell E2.out (o := 0)
        have c1 := heap_cell E2.out (o := 1)
        have HP := Lib.hid (right_any a b pages (.slice cad nc cc) cs w2 h2 (hv.out.below (by rw [HN.out]; exact B2.out)))
        clear hr
        go_upto_region 3 with fail
        with_reducible refine wp_region_list ?_
        with_reducible refine wpList_plain rfl ?_
        intro K hK
        go_simp
        first | with_reducible refine hK _ _ ?_ | refine hK _ _ ?_
        clear hK K
        (try simp only [Act.put, nA, nB, nC])
        with_reducible refine wpList_plain rfl ?_
        intro K hK
        go_simp
        first | with_reducible refine hK _ _ ?_ | refine hK _ _ ?_
        clear hK K
        (try simp only [Act.put, nA, nB, nC])
        with_reducible refine wpList_plain rfl ?_
        intro K hK
        go_simp
        first | with_reducible refine hK _ _ ?_ | refine hK _ _ ?_
        clear hK K
        (try simp only [Act.put, nA, nB, nC])
        with_reducible refine wpList_plain rfl ?_
        intro K hK
        go_simp
        refine HP.out.mono ?_; rintro e w3 ⟨rfl, b3⟩; rw [HR2.out]
        first | with_reducible refine hK _ _ ?_ | refine hK _ _ ?_
        clear hK K
        (try simp only [Act.put, nA, nB, nC])
        with_reducible refine wpList_plain rfl ?_
        intro K hK
        go_simp
        first | with_reducible refine hK _ _ ?_ | refine hK _ _ ?_
        clear hK K
        (try simp only [Act.put, nA, nB, nC])
        have B3 : Hid (Below N w w3) := B2.out.trans (b3.mono (by omega))
        cases r
        case false =>
          have HF := Lib.hid (HRet.out w3 90 (by rw [HC2.out]; rfl) B3.out)
          go_wp2_with fail
          exact HF.out
        case true =>
          have HF := Lib.hid (HRet.out w3 0 (by rw [HC2.out]; rfl) B3.out)
          go_wp2_with fail
          exact HF.out
end Go.Proofs.Ytkngmnfgdlnddaa

