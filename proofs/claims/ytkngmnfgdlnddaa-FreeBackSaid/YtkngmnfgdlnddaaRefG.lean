/-
  The reference's Body; the walk of FreeBodies.
-/
import Derived.Test.YtkngmnfgdlnddaaRefF
import Derived.Test.YtkngmnfgdlnddaaGH
set_option linter.unusedSimpArgs false
set_option linter.unusedVariables false
namespace Go.Proofs.Ytkngmnfgdlnddaa
open Go.RowKit Go.Lib Hw Go.Maps
set_option linter.unusedSimpArgs false
set_option linter.unusedVariables false

set_option maxRecDepth 5000 in
set_option maxHeartbeats 8000000 in
theorem refBody_any (a b : Int) (next : Nat) (v : Value) (xs : List Nat) (w : World) (hn : next < 4294967296) (hv : Hid (URow w v xs)) :
    Calls Try.prog 21 #[.agg #[.int .i64 a, .int .i64 b], .int .u32 (next : Int), v] w (BodyPost a b next xs w) := by
  obtain ⟨ad, c, hv1, hl, hx1⟩ := hv.out.form
  clear hx1
  subst hv1
  obtain ⟨N, hN⟩ : ∃ N, w.heap.size = N := ⟨_, rfl⟩
  have HN := Lib.hid hN
  have HFail : Hid (∀ w', bodyB a b next xs = false → Below N w w' → BodyPost a b next xs w (.returned (.tuple #[.string ⟨#[]⟩, .int .i64 2])) w') := fun w' h hb => by
    obtain ⟨h1, h2⟩ := body_no h
    exact ⟨by rw [h1, h2], by rw [hN]; exact hb⟩
  have HOk : Hid (∀ w', bodyB a b next xs = true → Below N w w' → BodyPost a b next xs w (.returned (.tuple #[.string (bstr (bodyL next xs)), .int .i64 0])) w') := fun w' h hb => by
    obtain ⟨h1, h2⟩ := body_yes h
    exact ⟨by rw [h1, h2], by rw [hN]; exact hb⟩
  have HB := Lib.hid (bodyB_ref a b next xs)
  obtain ⟨R, hR⟩ : ∃ R, BodyPost a b next xs w = R := ⟨_, rfl⟩
  rw [hR] at HFail HOk ⊢
  obtain ⟨n, hnn⟩ : ∃ n, xs.length = n := ⟨_, rfl⟩
  have HL := Lib.hid hnn
  rw [hnn] at hv hl ⊢
  obtain ⟨q, hq⟩ : ∃ q, mayB a b = q := ⟨_, rfl⟩
  have HQ := Lib.hid hq
  obtain ⟨E, hE⟩ : ∃ E, entI a b = E := ⟨_, rfl⟩
  have HE := Lib.hid hE
  obtain ⟨r, hr⟩ : ∃ r, risR E 65536 xs = r := ⟨_, rfl⟩
  have HR := Lib.hid hr
  rw [hq, hE, hr] at HB
  clear hR hnn hN hq hE hr
  go_enter Try.func21, Try.ntmps21
  go_upto_region 0 with fail
  with_reducible refine wp_region_list ?_
  refine wpList_boxB rfl _ _ rfl N HN.out #[.int .i64 a, .int .i64 b] rfl ?_
  intro w1 e1 b1 z1
  (try simp only [Act.put, nA, nB, nC])
  (with_reducible refine wpList_plain rfl ?_); intro K hK; go_simp; (first | with_reducible refine hK _ _ ?_ | refine hK _ _ ?_); clear hK K; try simp only [Act.put, nA, nB, nC]
  (with_reducible refine wpList_plain rfl ?_); intro K hK; go_simp; (first | with_reducible refine hK _ _ ?_ | refine hK _ _ ?_); clear hK K; try simp only [Act.put, nA, nB, nC]
  have B1 := Lib.hid b1
  have E1 := Lib.hid e1
  have hz1 : N < w1.heap.size := heap_lt e1
  have c0 := heap_cell e1 (o := 0)
  have c1 := heap_cell e1 (o := 1)
  clear b1 e1 z1
  go_upto_region 1 with fail
  with_reducible refine wp_region_list ?_
  (with_reducible refine wpList_plain rfl ?_); intro K hK; go_simp; (first | with_reducible refine hK _ _ ?_ | refine hK _ _ ?_); clear hK K; try simp only [Act.put, nA, nB, nC]
  with_reducible refine wpList_plain rfl ?_
  intro K hK
  go_simp
  refine (MayFrame_any a b w1).mono ?_; rintro e w2 ⟨rfl, b2⟩; rw [HQ.out]
  first | with_reducible refine hK _ _ ?_ | refine hK _ _ ?_
  clear hK K
  (try simp only [Act.put, nA, nB, nC])
  have B2 : Hid (Below N w w2) := B1.out.trans (b2.mono (by omega))
  have E2 := Lib.hid (heap_below E1.out b2 hz1)
  have hz2 : N < w2.heap.size := heap_lt E2.out
  clear b2 c0 c1 B1 E1 hz1
  cases q
  case false =>
    have hF := HFail.out w2 (by rw [HB.out]; rfl) B2.out
    have HF := Lib.hid hF
    clear hF
    (with_reducible refine wpList_plain rfl ?_); intro K hK; go_simp; (first | with_reducible refine hK _ _ ?_ | refine hK _ _ ?_); clear hK K; try simp only [Act.put, nA, nB, nC]
    (with_reducible refine wpList_plain rfl ?_); intro K hK; go_simp; (first | with_reducible refine hK _ _ ?_ | refine hK _ _ ?_); clear hK K; try simp only [Act.put, nA, nB, nC]
    (with_reducible refine wpList_step ?_); intro K hK; rw [if_neg (Bool.eq_false_iff.1 (by rfl))]; (first | with_reducible refine hK _ _ ?_ | refine hK _ _ ?_); clear hK K; try simp only [Act.put, nA, nB, nC]
    (with_reducible refine wpList_step ?_); intro K hK; rw [if_neg (Bool.eq_false_iff.1 (by rfl))]; (first | with_reducible refine hK _ _ ?_ | refine hK _ _ ?_); clear hK K; try simp only [Act.put, nA, nB, nC]
    (with_reducible refine wpList_plain rfl ?_); intro K hK; go_simp; (first | with_reducible refine hK _ _ ?_ | refine hK _ _ ?_); clear hK K; try simp only [Act.put, nA, nB, nC]
    (with_reducible refine wpList_plain rfl ?_); intro K hK; go_simp; (first | with_reducible refine hK _ _ ?_ | refine hK _ _ ?_); clear hK K; try simp only [Act.put, nA, nB, nC]
    (with_reducible refine wpList_step ?_); intro K hK; rw [if_neg (Bool.eq_false_iff.1 (by rfl))]; (first | with_reducible refine hK _ _ ?_ | refine hK _ _ ?_); clear hK K; try simp only [Act.put, nA, nB, nC]
    (with_reducible refine wpList_step ?_); intro K hK; rw [if_neg (Bool.eq_false_iff.1 (by rfl))]; (first | with_reducible refine hK _ _ ?_ | refine hK _ _ ?_); clear hK K; try simp only [Act.put, nA, nB, nC]
    (with_reducible refine wpList_plain rfl ?_); intro K hK; go_simp; (first | with_reducible refine hK _ _ ?_ | refine hK _ _ ?_); clear hK K; try simp only [Act.put, nA, nB, nC]
    (with_reducible refine wpList_plain rfl ?_); intro K hK; go_simp; (first | with_reducible refine hK _ _ ?_ | refine hK _ _ ?_); clear hK K; try simp only [Act.put, nA, nB, nC]
    (with_reducible refine wpList_step ?_); intro K hK; rw [if_neg (Bool.eq_false_iff.1 (by rfl))]; (first | with_reducible refine hK _ _ ?_ | refine hK _ _ ?_); clear hK K; try simp only [Act.put, nA, nB, nC]
    (with_reducible refine wpList_step ?_); intro K hK; rw [if_neg (Bool.eq_false_iff.1 (by rfl))]; (first | with_reducible refine hK _ _ ?_ | refine hK _ _ ?_); clear hK K; try simp only [Act.put, nA, nB, nC]
    (with_reducible refine wpList_step ?_); intro K hK; rw [if_neg (Bool.eq_false_iff.1 (by rfl))]; (first | with_reducible refine hK _ _ ?_ | refine hK _ _ ?_); clear hK K; try simp only [Act.put, nA, nB, nC]
    (with_reducible refine wpList_step ?_); intro K hK; rw [if_neg (Bool.eq_false_iff.1 (by rfl))]; (first | with_reducible refine hK _ _ ?_ | refine hK _ _ ?_); clear hK K; try simp only [Act.put, nA, nB, nC]
    (with_reducible refine wpList_step ?_); intro K hK; rw [if_neg (Bool.eq_false_iff.1 (by rfl))]; (first | with_reducible refine hK _ _ ?_ | refine hK _ _ ?_); clear hK K; try simp only [Act.put, nA, nB, nC]
    (with_reducible refine wpList_plain rfl ?_); intro K hK; go_simp; (first | with_reducible refine hK _ _ ?_ | refine hK _ _ ?_); clear hK K; try simp only [Act.put, nA, nB, nC]
    go_wp2_with fail
    exact HF.out
  case true =>
    by_cases hx1 : next = 1
    case pos =>
      have d1 : ((next : Int) == 1) = true := by simp; omega
      have hF := HFail.out w2 (by rw [HB.out, decide_eq_true hx1]; rfl) B2.out
      have HF := Lib.hid hF
      clear hF
      subst hx1
      (with_reducible refine wpList_plain rfl ?_); intro K hK; go_simp; (first | with_reducible refine hK _ _ ?_ | refine hK _ _ ?_); clear hK K; try simp only [Act.put, nA, nB, nC]
      (with_reducible refine wpList_plain rfl ?_); intro K hK; go_simp; (first | with_reducible refine hK _ _ ?_ | refine hK _ _ ?_); clear hK K; try simp only [Act.put, nA, nB, nC]
      (with_reducible refine wpList_step ?_); intro K hK; rw [if_pos (by rfl)]; go_simp; (first | with_reducible refine hK _ _ ?_ | refine hK _ _ ?_); clear hK K; try simp only [Act.put, nA, nB, nC]
      (with_reducible refine wpList_step ?_); intro K hK; rw [if_pos (by rfl)]; go_simp; (first | with_reducible refine hK _ _ ?_ | refine hK _ _ ?_); clear hK K; try simp only [Act.put, nA, nB, nC]
      (with_reducible refine wpList_plain rfl ?_); intro K hK; go_simp; (first | with_reducible refine hK _ _ ?_ | refine hK _ _ ?_); clear hK K; try simp only [Act.put, nA, nB, nC]
      (with_reducible refine wpList_plain rfl ?_); intro K hK; go_simp; (first | with_reducible refine hK _ _ ?_ | refine hK _ _ ?_); clear hK K; try simp only [Act.put, nA, nB, nC]
      (with_reducible refine wpList_step ?_); intro K hK; rw [if_neg (Bool.eq_false_iff.1 (by rfl))]; (first | with_reducible refine hK _ _ ?_ | refine hK _ _ ?_); clear hK K; try simp only [Act.put, nA, nB, nC]
      (with_reducible refine wpList_step ?_); intro K hK; rw [if_neg (Bool.eq_false_iff.1 (by rfl))]; (first | with_reducible refine hK _ _ ?_ | refine hK _ _ ?_); clear hK K; try simp only [Act.put, nA, nB, nC]
      (with_reducible refine wpList_plain rfl ?_); intro K hK; go_simp; (first | with_reducible refine hK _ _ ?_ | refine hK _ _ ?_); clear hK K; try simp only [Act.put, nA, nB, nC]
      (with_reducible refine wpList_plain rfl ?_); intro K hK; go_simp; (first | with_reducible refine hK _ _ ?_ | refine hK _ _ ?_); clear hK K; try simp only [Act.put, nA, nB, nC]
      (with_reducible refine wpList_step ?_); intro K hK; rw [if_neg (Bool.eq_false_iff.1 (by rfl))]; (first | with_reducible refine hK _ _ ?_ | refine hK _ _ ?_); clear hK K; try simp only [Act.put, nA, nB, nC]
      (with_reducible refine wpList_step ?_); intro K hK; rw [if_neg (Bool.eq_false_iff.1 (by rfl))]; (first | with_reducible refine hK _ _ ?_ | refine hK _ _ ?_); clear hK K; try simp only [Act.put, nA, nB, nC]
      (with_reducible refine wpList_step ?_); intro K hK; rw [if_neg (Bool.eq_false_iff.1 (by rfl))]; (first | with_reducible refine hK _ _ ?_ | refine hK _ _ ?_); clear hK K; try simp only [Act.put, nA, nB, nC]
      (with_reducible refine wpList_step ?_); intro K hK; rw [if_neg (Bool.eq_false_iff.1 (by rfl))]; (first | with_reducible refine hK _ _ ?_ | refine hK _ _ ?_); clear hK K; try simp only [Act.put, nA, nB, nC]
      (with_reducible refine wpList_step ?_); intro K hK; rw [if_neg (Bool.eq_false_iff.1 (by rfl))]; (first | with_reducible refine hK _ _ ?_ | refine hK _ _ ?_); clear hK K; try simp only [Act.put, nA, nB, nC]
      (with_reducible refine wpList_plain rfl ?_); intro K hK; go_simp; (first | with_reducible refine hK _ _ ?_ | refine hK _ _ ?_); clear hK K; try simp only [Act.put, nA, nB, nC]
      go_wp2_with fail
      exact HF.out
    case neg =>
      have d1 : ((next : Int) == 1) = false := by simp; omega
      have d1b : decide (next = 1) = false := decide_eq_false hx1
      by_cases hx2 : next < 65536
      case neg =>
        have d2 : decide (65536 ≤ next) = true := decide_eq_true (by omega)
        have d3 : decide ((65536 : Int) ≤ (next : Int)) = true := decide_eq_true (by omega)
        have d4 : (65536 : Int) ≤ (next : Int) := by omega
        have hF := HFail.out w2 (by rw [HB.out, d1b, decide_eq_false hx2]; rfl) B2.out
        have HF := Lib.hid hF
        clear hF hx1 hx2
        (with_reducible refine wpList_plain rfl ?_); intro K hK; go_simp; (first | with_reducible refine hK _ _ ?_ | refine hK _ _ ?_); clear hK K; try simp only [Act.put, nA, nB, nC]
        (with_reducible refine wpList_plain rfl ?_); intro K hK; go_simp; (first | with_reducible refine hK _ _ ?_ | refine hK _ _ ?_); clear hK K; try simp only [Act.put, nA, nB, nC]
        (with_reducible refine wpList_step ?_); intro K hK; rw [if_pos (by rfl)]; go_simp; (first | with_reducible refine hK _ _ ?_ | refine hK _ _ ?_); clear hK K; try simp only [Act.put, nA, nB, nC]
        (with_reducible refine wpList_step ?_); intro K hK; rw [if_pos (by rfl)]; go_simp; (first | with_reducible refine hK _ _ ?_ | refine hK _ _ ?_); clear hK K; try simp only [Act.put, nA, nB, nC]
        (with_reducible refine wpList_plain rfl ?_); intro K hK; go_simp; (first | with_reducible refine hK _ _ ?_ | refine hK _ _ ?_); clear hK K; try simp only [Act.put, nA, nB, nC]
        (with_reducible refine wpList_plain rfl ?_); intro K hK; go_simp; (first | with_reducible refine hK _ _ ?_ | refine hK _ _ ?_); clear hK K; try simp only [Act.put, nA, nB, nC]
        (with_reducible refine wpList_step ?_); intro K hK; rw [if_pos (by rfl)]; go_simp; (first | with_reducible refine hK _ _ ?_ | refine hK _ _ ?_); clear hK K; try simp only [Act.put, nA, nB, nC]
        (with_reducible refine wpList_step ?_); intro K hK; rw [if_pos (by rfl)]; go_simp; (first | with_reducible refine hK _ _ ?_ | refine hK _ _ ?_); clear hK K; try simp only [Act.put, nA, nB, nC]
        (with_reducible refine wpList_plain rfl ?_); intro K hK; go_simp; (first | with_reducible refine hK _ _ ?_ | refine hK _ _ ?_); clear hK K; try simp only [Act.put, nA, nB, nC]
        (with_reducible refine wpList_plain rfl ?_); intro K hK; go_simp; (first | with_reducible refine hK _ _ ?_ | refine hK _ _ ?_); clear hK K; try simp only [Act.put, nA, nB, nC]
        (with_reducible refine wpList_step ?_); intro K hK; rw [if_neg (Bool.eq_false_iff.1 (by rfl))]; (first | with_reducible refine hK _ _ ?_ | refine hK _ _ ?_); clear hK K; try simp only [Act.put, nA, nB, nC]
        (with_reducible refine wpList_step ?_); intro K hK; rw [if_neg (Bool.eq_false_iff.1 (by rfl))]; (first | with_reducible refine hK _ _ ?_ | refine hK _ _ ?_); clear hK K; try simp only [Act.put, nA, nB, nC]
        (with_reducible refine wpList_step ?_); intro K hK; rw [if_neg (Bool.eq_false_iff.1 (by rfl))]; (first | with_reducible refine hK _ _ ?_ | refine hK _ _ ?_); clear hK K; try simp only [Act.put, nA, nB, nC]
        (with_reducible refine wpList_step ?_); intro K hK; rw [if_neg (Bool.eq_false_iff.1 (by rfl))]; (first | with_reducible refine hK _ _ ?_ | refine hK _ _ ?_); clear hK K; try simp only [Act.put, nA, nB, nC]
        (with_reducible refine wpList_step ?_); intro K hK; rw [if_neg (Bool.eq_false_iff.1 (by rfl))]; (first | with_reducible refine hK _ _ ?_ | refine hK _ _ ?_); clear hK K; try simp only [Act.put, nA, nB, nC]
        (with_reducible refine wpList_plain rfl ?_); intro K hK; go_simp; (first | with_reducible refine hK _ _ ?_ | refine hK _ _ ?_); clear hK K; try simp only [Act.put, nA, nB, nC]
        go_wp2_with fail
        exact HF.out
      case pos =>
        have d2 : decide (65536 ≤ next) = false := decide_eq_false (by omega)
        have d3 : decide ((65536 : Int) ≤ (next : Int)) = false := decide_eq_false (by omega)
        have d4 : ¬ (65536 : Int) ≤ (next : Int) := by omega
        have HB3 : Hid (bodyB a b next xs = r) := by show _ = _; rw [HB.out, d1b, decide_eq_true hx2]; rfl
        clear hx1 hx2
        have c0 := heap_cell E2.out (o := 0)
        have c1 := heap_cell E2.out (o := 1)
        (with_reducible refine wpList_plain rfl ?_); intro K hK; go_simp; (first | with_reducible refine hK _ _ ?_ | refine hK _ _ ?_); clear hK K; try simp only [Act.put, nA, nB, nC]
        (with_reducible refine wpList_plain rfl ?_); intro K hK; go_simp; (first | with_reducible refine hK _ _ ?_ | refine hK _ _ ?_); clear hK K; try simp only [Act.put, nA, nB, nC]
        (with_reducible refine wpList_step ?_); intro K hK; rw [if_pos (by rfl)]; go_simp; (first | with_reducible refine hK _ _ ?_ | refine hK _ _ ?_); clear hK K; try simp only [Act.put, nA, nB, nC]
        (with_reducible refine wpList_step ?_); intro K hK; rw [if_pos (by rfl)]; go_simp; (first | with_reducible refine hK _ _ ?_ | refine hK _ _ ?_); clear hK K; try simp only [Act.put, nA, nB, nC]
        (with_reducible refine wpList_plain rfl ?_); intro K hK; go_simp; (first | with_reducible refine hK _ _ ?_ | refine hK _ _ ?_); clear hK K; try simp only [Act.put, nA, nB, nC]
        (with_reducible refine wpList_plain rfl ?_); intro K hK; go_simp; (first | with_reducible refine hK _ _ ?_ | refine hK _ _ ?_); clear hK K; try simp only [Act.put, nA, nB, nC]
        (with_reducible refine wpList_step ?_); intro K hK; rw [if_pos (by rfl)]; go_simp; (first | with_reducible refine hK _ _ ?_ | refine hK _ _ ?_); clear hK K; try simp only [Act.put, nA, nB, nC]
        (with_reducible refine wpList_step ?_); intro K hK; rw [if_pos (by rfl)]; go_simp; (first | with_reducible refine hK _ _ ?_ | refine hK _ _ ?_); clear hK K; try simp only [Act.put, nA, nB, nC]
        (with_reducible refine wpList_plain rfl ?_); intro K hK; go_simp; (first | with_reducible refine hK _ _ ?_ | refine hK _ _ ?_); clear hK K; try simp only [Act.put, nA, nB, nC]
        (with_reducible refine wpList_plain rfl ?_); intro K hK; go_simp; (first | with_reducible refine hK _ _ ?_ | refine hK _ _ ?_); clear hK K; try simp only [Act.put, nA, nB, nC]
        (with_reducible refine wpList_step ?_); intro K hK; rw [if_pos (by rfl)]; go_simp; (first | with_reducible refine hK _ _ ?_ | refine hK _ _ ?_); clear hK K; try simp only [Act.put, nA, nB, nC]
        (with_reducible refine wpList_step ?_); intro K hK; rw [if_pos (by rfl)]; go_simp; (first | with_reducible refine hK _ _ ?_ | refine hK _ _ ?_); clear hK K; try simp only [Act.put, nA, nB, nC]
        with_reducible refine wpList_step ?_
        intro K hK
        rw [if_pos (by rfl)]
        go_simp
        refine (refEntries_any a b w2).mono ?_; rintro e w3 ⟨rfl, b3⟩; rw [HE.out]
        first | with_reducible refine hK _ _ ?_ | refine hK _ _ ?_
        clear hK K
        (try simp only [Act.put, nA, nB, nC])
        have B3 : Hid (Below N w w3) := B2.out.trans (b3.mono (by omega))
        have hz3 : N < w3.heap.size := Nat.lt_of_lt_of_le hz2 b3.size
        with_reducible refine wpList_step ?_
        intro K hK
        rw [if_pos (by rfl)]
        go_simp
        refine (refRising_any (.slice ad n c) xs E 65536 w3 (hv.out.below (by rw [HN.out]; exact B3.out))).mono ?_; rintro e w4 ⟨rfl, b4⟩; rw [HR.out]
        first | with_reducible refine hK _ _ ?_ | refine hK _ _ ?_
        clear hK K
        (try simp only [Act.put, nA, nB, nC])
        have B4 : Hid (Below N w w4) := B3.out.trans (b4.mono (by omega))
        have hz4 : N < w4.heap.size := Nat.lt_of_lt_of_le hz3 b4.size
        clear b3 b4 B3 B2 c0 c1 d1 d2 d3 d4 E2
        cases r
        case false =>
          have HF := Lib.hid (HFail.out w4 HB3.out B4.out)
          (with_reducible refine wpList_step ?_); intro K hK; rw [if_pos (by rfl)]; go_simp; (first | with_reducible refine hK _ _ ?_ | refine hK _ _ ?_); clear hK K; try simp only [Act.put, nA, nB, nC]
          (with_reducible refine wpList_plain rfl ?_); intro K hK; go_simp; (first | with_reducible refine hK _ _ ?_ | refine hK _ _ ?_); clear hK K; try simp only [Act.put, nA, nB, nC]
          go_wp2_with fail
          exact HF.out
        case true =>
          (with_reducible refine wpList_step ?_); intro K hK; rw [if_pos (by rfl)]; go_simp; (first | with_reducible refine hK _ _ ?_ | refine hK _ _ ?_); clear hK K; try simp only [Act.put, nA, nB, nC]
          (with_reducible refine wpList_plain rfl ?_); intro K hK; go_simp; (first | with_reducible refine hK _ _ ?_ | refine hK _ _ ?_); clear hK K; try simp only [Act.put, nA, nB, nC]
          have hnE : n ≤ 2038 := by
            have h1 := ((risR_iff E 65536 xs).1 HR.out).1
            have h2 := entI_bd a b
            have h3 := HE.out
            have h4 := HL.out
            omega
          have u1 : IntKind.u32.wrap (n : Int) = (n : Int) := IntWalk.u32_in _ (by omega)
          go_upto_region 3 with fail
          with_reducible refine wp_region_list ?_
          (with_reducible refine wpList_plain rfl ?_); intro K hK; go_simp; (first | with_reducible refine hK _ _ ?_ | refine hK _ _ ?_); clear hK K; try simp only [Act.put, nA, nB, nC]
          with_reducible refine wpList_plain rfl ?_
          intro K hK
          go_simp
          refine (refFour_any next w4 hn).mono ?_; rintro e w5 ⟨rfl, b5⟩
          first | with_reducible refine hK _ _ ?_ | refine hK _ _ ?_
          clear hK K
          (try simp only [Act.put, nA, nB, nC])
          (with_reducible refine wpList_plain rfl ?_); intro K hK; go_simp; (first | with_reducible refine hK _ _ ?_ | refine hK _ _ ?_); clear hK K; try simp only [Act.put, nA, nB, nC]
          (with_reducible refine wpList_plain rfl ?_); intro K hK; go_simp; (first | with_reducible refine hK _ _ ?_ | refine hK _ _ ?_); clear hK K; try simp only [Act.put, nA, nB, nC]
          (with_reducible refine wpList_plain rfl ?_); intro K hK; go_simp; (first | with_reducible refine hK _ _ ?_ | refine hK _ _ ?_); clear hK K; try simp only [Act.put, nA, nB, nC]
          with_reducible refine wpList_plain rfl ?_
          intro K hK
          go_simp
          refine (refFour_any n w5 (by omega)).mono ?_; rintro e w6 ⟨rfl, b6⟩
          first | with_reducible refine hK _ _ ?_ | refine hK _ _ ?_
          clear hK K
          (try simp only [Act.put, nA, nB, nC])
          have B6 : Hid (Below N w w6) := B4.out.trans ((b5.mono (by omega)).trans (b6.mono (by have := b5.size; omega)))
          have hz6 : N + 1 ≤ w6.heap.size := by have := b5.size; have := b6.size; omega
          clear b5 b6 B4 u1
          obtain ⟨S, hS⟩ : ∃ S, bstr (be 4 next ++ be 4 n) = S := ⟨_, rfl⟩
          have hS2 : bstr (be 4 next) ++ bstr (be 4 n) = S := by rw [bstr_append, hS]
          have hcv := conv_str S w6
          have hsz : S.size = 8 := by rw [← hS, bstr_size, List.length_append, be_length, be_length]
          have oz := OwnZ.conv S w6 (N + 1) hz6 (by omega)
          have hbl := Below.conv S w6 (N + 1) hz6
          (with_reducible refine wpList_plain rfl ?_); intro K hK; go_simp; (first | with_reducible refine hK _ _ ?_ | refine hK _ _ ?_); clear hK K; try simp only [Act.put, nA, nB, nC]
          (with_reducible refine wpList_plain rfl ?_); intro K hK; go_simp; (first | with_reducible refine hK _ _ ?_ | refine hK _ _ ?_); clear hK K; try simp only [Act.put, nA, nB, nC]
          (with_reducible refine wpList_plain rfl ?_); intro K hK; go_simp; (first | with_reducible refine hK _ _ ?_ | refine hK _ _ ?_); clear hK K; try simp only [Act.put, nA, nB, nC]
          have B7 : Hid (Below N w (bytesWorld w6 5 S)) := B6.out.trans (hbl.mono (by omega))
          have hz7 : N + 1 ≤ (bytesWorld w6 5 S).heap.size := by have := hbl.size; omega
          obtain ⟨w7, hw7⟩ : ∃ W, bytesWorld w6 5 S = W := ⟨_, rfl⟩
          have hSd : S.data.toList = be 4 next ++ be 4 n := by rw [← hS]; rfl
          rw [hw7] at B7 hz7 oz
          rw [hSd] at oz
          rw [hw7]
          rw [hsz] at oz
          obtain ⟨p7, hp7⟩ : ∃ k, w6.heap.size = k := ⟨_, rfl⟩
          obtain ⟨c7, hc7⟩ : ∃ k, grownCap w6 8 0 5 = k := ⟨_, rfl⟩
          rw [hc7, hp7] at oz
          rw [hc7, hp7]
          have O7 : Hid (OwnZ w7 (N + 1) (.slice (some ⟨p7, 0, none⟩) 8 c7) (be 4 next ++ be 4 n ++ (xs.take 0).flatMap (be 4))) := by show OwnZ _ _ _ _; rw [List.take_zero]; simpa using oz
          clear hcv hsz oz hbl hw7 hSd hp7 hc7 hS hS2 B6 hz6
          go_upto_region 5 with fail
          go_loopw [8, 9] (fun lv iv wr => ∃ (k : Nat) (g vn vc : Nat), k ≤ n ∧ Hid (OwnZ wr (N + 1) (.slice (some ⟨g, 0, none⟩) vn vc) (be 4 next ++ be 4 n ++ (xs.take k).flatMap (be 4))) ∧ Hid (Below N w wr) ∧ N + 1 ≤ wr.heap.size ∧ lv = .slice (some ⟨g, 0, none⟩) vn vc ∧ iv = .int .i64 (k : Int)) (fun _ iv _ => n - (intOf iv).toNat)
          case atStart => exact ⟨0, p7, 8, c7, Nat.zero_le _, O7, B7, hz7, rfl, rfl⟩
          case round =>
            obtain ⟨k, g, vn, vc, hk, HO, HBW, hzr, rfl, rfl⟩ := hrel
            by_cases hlt : k < n
            case neg =>
              have ik : ¬ (k : Int) < (n : Int) := by omega
              have ht : xs.take k = xs := List.take_of_length_le (by have := HL.out; omega)
              have hcs := HO.out.str
              have hbs : (⟨(be 4 next ++ be 4 n ++ (xs.take k).flatMap (be 4)).toArray⟩ : ByteArray) = bstr (bodyL next xs) := by rw [ht]; unfold bodyL bstr; rw [HL.out, List.append_assoc]
              rw [hbs] at hcs
              have HF := Lib.hid (HOk.out wr HB3.out HBW.out)
              clear hlt ht hbs
              go_wp2_with fail
              exact HF.out
            case pos =>
              have ik : (k : Int) < (n : Int) := by omega
              have hkx : k < xs.length := by rw [HL.out]; exact hlt
              obtain ⟨a1, c1, e1, _, g1⟩ := (hv.out.below (by rw [HN.out]; exact HBW.out)).form
              obtain ⟨b1, o1, e2, hc1⟩ := g1 (by omega)
              have e3 := (Value.slice.inj e1).1
              rw [e2] at e3
              subst e3
              have h1 := hc1 k hkx
              have hx4 : xs[k] < 4294967296 := hv.out.1 _ (List.getElem_mem hkx)
              have t1 := List.take_succ_eq_append_getElem hkx
              obtain ⟨y, hy⟩ : ∃ y, xs[k] = y := ⟨_, rfl⟩
              rw [hy] at h1 t1 hx4
              unfold uN at h1
              obtain ⟨k9, hk9⟩ : ∃ k9 : Nat, k9 = k + 1 := ⟨_, rfl⟩
              have ew1 : (k : Int) + 1 = (k9 : Int) := by omega
              have ew2 : IntKind.i64.wrap (k9 : Int) = (k9 : Int) := IntWalk.i64_in _ (by omega)
              have hk3 : k9 ≤ n := by omega
              have hk4 : n - k9 < n - k := by omega
              rw [← hk9] at t1
              have T1 := Lib.hid t1
              clear hk9 hy hc1 e1 e2 g1 hkx hlt t1
              go_upto_region 7 with fail
              with_reducible refine wp_region_list ?_
              (with_reducible refine wpList_plain rfl ?_); intro K hK; go_simp; (first | with_reducible refine hK _ _ ?_ | refine hK _ _ ?_); clear hK K; try simp only [Act.put, nA, nB, nC]
              (with_reducible refine wpList_plain rfl ?_); intro K hK; go_simp; (first | with_reducible refine hK _ _ ?_ | refine hK _ _ ?_); clear hK K; try simp only [Act.put, nA, nB, nC]
              (with_reducible refine wpList_plain rfl ?_); intro K hK; go_simp; (first | with_reducible refine hK _ _ ?_ | refine hK _ _ ?_); clear hK K; try simp only [Act.put, nA, nB, nC]
              (with_reducible refine wpList_plain rfl ?_); intro K hK; go_simp; (first | with_reducible refine hK _ _ ?_ | refine hK _ _ ?_); clear hK K; try simp only [Act.put, nA, nB, nC]
              (with_reducible refine wpList_plain rfl ?_); intro K hK; go_simp; (first | with_reducible refine hK _ _ ?_ | refine hK _ _ ?_); clear hK K; try simp only [Act.put, nA, nB, nC]
              with_reducible refine wpList_plain rfl ?_
              intro K hK
              go_simp
              refine (refFour_any y wr hx4).mono ?_; rintro e w8 ⟨rfl, b8⟩
              first | with_reducible refine hK _ _ ?_ | refine hK _ _ ?_
              clear hK K
              (try simp only [Act.put, nA, nB, nC])
              have O8 := HO.out.below b8 (fun i hi => (HO.out.lt i hi).2)
              have B8 : Hid (Below N w w8) := HBW.out.trans (b8.mono (by omega))
              have hz8 : N + 1 ≤ w8.heap.size := by have := b8.size; omega
              refine wpList_appZ w8 rfl _ _ rfl (N + 1) (.slice (some ⟨g, 0, none⟩) vn vc) _ rfl O8 (bstr (be 4 y)) rfl (by rw [bstr_size]; simp only [List.length_append, be_length, flat4, List.length_take]; omega) hz8 ?_
              intro v9 w9 o9 b9
              obtain ⟨g9, c9, hv9⟩ := o9.shape
              obtain ⟨n9, hn9⟩ : ∃ m, (be 4 next ++ be 4 n ++ (xs.take k).flatMap (be 4) ++ (bstr (be 4 y)).data.toList).length = m := ⟨_, rfl⟩
              rw [hn9] at hv9
              subst hv9
              have O9 : Hid (OwnZ w9 (N + 1) (.slice (some ⟨g9, 0, none⟩) n9 c9) (be 4 next ++ be 4 n ++ (xs.take k9).flatMap (be 4))) := by
                show OwnZ _ _ _ _
                rw [T1.out, List.flatMap_append]
                rw [bstr_list] at o9
                simpa [List.append_assoc] using o9
              clear hn9 o9
              (try simp only [Act.put, nA, nB, nC])
              (with_reducible refine wpList_plain rfl ?_); intro K hK; go_simp; (first | with_reducible refine hK _ _ ?_ | refine hK _ _ ?_); clear hK K; try simp only [Act.put, nA, nB, nC]
              have B9 : Hid (Below N w w9) := B8.out.trans (b9.mono (by omega))
              have hz9 : N + 1 ≤ w9.heap.size := by have := b9.size; omega
              clear b8 b9 O8 B8 HO HBW h1 hzr
              go_wp2_with fail
              exact ⟨⟨k9, g9, n9, c9, hk3, O9, B9, hz9, rfl, rfl⟩, by simp only [intOf, Int.toNat_natCast]; exact hk4⟩
end Go.Proofs.Ytkngmnfgdlnddaa

