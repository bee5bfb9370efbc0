/-
  The document's climb and the program's agree; the walk of the document's Holds.
-/
import Derived.Test.YtihbhpggpnmifaaGT
set_option linter.unusedSimpArgs false
set_option linter.unusedVariables false
namespace Go.Proofs.Ytihbhpggpnmifaa
open Go.RowKit Go.Lib Hw
set_option linter.unusedVariables false

/-! ### the two climbs -/
theorem climb_app (w : Nat) (leaf : Dg) : ∀ (n i : Nat) (t s : List Dg) (D : Dg) (st rest : List Dg), climbP w leaf i n t true = (D, st, rest, true) → climbP w leaf i n (t ++ s) true = (D, st, rest ++ s, true) := by
  intro n
  induction n using Nat.strongRecOn with
  | _ n ih =>
    intro i t s D st rest h
    by_cases h1 : n ≤ 1
    · rw [climbP_one _ _ _ _ _ _ h1] at h ⊢
      simp only [Prod.mk.injEq, and_true] at h ⊢
      exact ⟨h.1, h.2.1, by rw [h.2.2]⟩
    · have hs := half_spec (n := n) (by omega)
      by_cases hi : i < halfN n
      · rw [climbP_left _ _ _ _ _ _ (by omega) hi] at h ⊢
        obtain ⟨⟨D', st', rest', ok'⟩, hr⟩ : ∃ r, climbP w leaf i (halfN n) t true = r := ⟨_, rfl⟩
        rw [hr] at h
        simp only [Prod.mk.injEq, Bool.and_eq_true] at h
        obtain ⟨h1, h2, h3, rfl, h5⟩ := h
        rw [ih (halfN n) (by omega) i t s D' st' rest' hr]
        cases rest' with
        | nil => cases h5
        | cons x xs =>
          simp only [List.headD_cons, List.tail_cons, List.cons_append] at h1 h2 h3 ⊢
          rw [h1, h2, h3]
          rfl
      · rw [climbP_right _ _ _ _ _ _ (by omega) hi] at h ⊢
        obtain ⟨⟨D', st', rest', ok'⟩, hr⟩ : ∃ r, climbP w leaf (i - halfN n) (n - halfN n) t true = r := ⟨_, rfl⟩
        rw [hr] at h
        simp only [Prod.mk.injEq, Bool.and_eq_true] at h
        obtain ⟨h1, h2, h3, rfl, h5⟩ := h
        rw [ih (n - halfN n) (by omega) (i - halfN n) t s D' st' rest' hr]
        cases rest' with
        | nil => cases h5
        | cons x xs =>
          simp only [List.headD_cons, List.tail_cons, List.cons_append] at h1 h2 h3 ⊢
          rw [h1, h2, h3]
          rfl
theorem climb_cut (w : Nat) (leaf : Dg) : ∀ (n i : Nat) (t : List Dg) (D : Dg) (st rest : List Dg), climbP w leaf i n t true = (D, st, rest, true) → ∃ p, t = p ++ rest ∧ climbP w leaf i n p true = (D, st, [], true) := by
  intro n
  induction n using Nat.strongRecOn with
  | _ n ih =>
    intro i t D st rest h
    by_cases h1 : n ≤ 1
    · rw [climbP_one _ _ _ _ _ _ h1] at h
      simp only [Prod.mk.injEq, and_true] at h
      refine ⟨[], by rw [h.2.2]; rfl, ?_⟩
      rw [climbP_one _ _ _ _ _ _ h1, h.1, h.2.1]
    · have hs := half_spec (n := n) (by omega)
      by_cases hi : i < halfN n
      · rw [climbP_left _ _ _ _ _ _ (by omega) hi] at h
        obtain ⟨⟨D', st', rest', ok'⟩, hr⟩ : ∃ r, climbP w leaf i (halfN n) t true = r := ⟨_, rfl⟩
        rw [hr] at h
        simp only [Prod.mk.injEq, Bool.and_eq_true] at h
        obtain ⟨h1, h2, h3, rfl, h5⟩ := h
        obtain ⟨p, hp1, hp2⟩ := ih (halfN n) (by omega) i t D' st' rest' hr
        cases rest' with
        | nil => cases h5
        | cons x xs =>
          simp only [List.headD_cons, List.tail_cons] at h1 h2 h3
          refine ⟨p ++ [x], by rw [hp1, ← h3, List.append_assoc]; rfl, ?_⟩
          rw [climbP_left _ _ _ _ _ _ (by omega) hi, climb_app w leaf _ _ _ [x] _ _ _ hp2]
          simp [h1, h2]
      · rw [climbP_right _ _ _ _ _ _ (by omega) hi] at h
        obtain ⟨⟨D', st', rest', ok'⟩, hr⟩ : ∃ r, climbP w leaf (i - halfN n) (n - halfN n) t true = r := ⟨_, rfl⟩
        rw [hr] at h
        simp only [Prod.mk.injEq, Bool.and_eq_true] at h
        obtain ⟨h1, h2, h3, rfl, h5⟩ := h
        obtain ⟨p, hp1, hp2⟩ := ih (n - halfN n) (by omega) (i - halfN n) t D' st' rest' hr
        cases rest' with
        | nil => cases h5
        | cons x xs =>
          simp only [List.headD_cons, List.tail_cons] at h1 h2 h3
          refine ⟨p ++ [x], by rw [hp1, ← h3, List.append_assoc]; rfl, ?_⟩
          rw [climbP_right _ _ _ _ _ _ (by omega) hi, climb_app w leaf _ _ _ [x] _ _ _ hp2]
          simp [h1, h2]
theorem rclimb_yes (w : Nat) (leaf : Dg) : ∀ (n i : Nat) (t : List Dg), (rclimb w leaf i n t).2.2 = true → climbP w leaf i n t true = ((rclimb w leaf i n t).1, (rclimb w leaf i n t).2.1, [], true) := by
  intro n
  induction n using Nat.strongRecOn with
  | _ n ih =>
    intro i t h
    by_cases h1 : n ≤ 1
    · rw [rclimb_one _ _ _ _ _ h1] at h ⊢
      rw [climbP_one _ _ _ _ _ _ h1]
      rw [List.isEmpty_iff.1 h]
    · have hs := half_spec (n := n) (by omega)
      rcases List.eq_nil_or_concat t with rfl | ⟨r, last, rfl⟩
      · rw [rclimb_nil _ _ _ _ (by omega)] at h
        cases h
      · rw [List.concat_eq_append] at h ⊢
        by_cases hi : i < halfN n
        · rw [rclimb_left _ _ _ _ _ _ (by omega) hi] at h ⊢
          have h2 := climb_app w leaf _ _ _ [last] _ _ _ (ih (halfN n) (by omega) i r h)
          rw [climbP_left _ _ _ _ _ _ (by omega) hi, h2]
          rfl
        · rw [rclimb_right _ _ _ _ _ _ (by omega) hi] at h ⊢
          have h2 := climb_app w leaf _ _ _ [last] _ _ _ (ih (n - halfN n) (by omega) (i - halfN n) r h)
          rw [climbP_right _ _ _ _ _ _ (by omega) hi, h2]
          rfl
theorem rclimb_of (w : Nat) (leaf : Dg) : ∀ (n i : Nat) (t : List Dg) (D : Dg) (st : List Dg), climbP w leaf i n t true = (D, st, [], true) → (rclimb w leaf i n t).2.2 = true := by
  intro n
  induction n using Nat.strongRecOn with
  | _ n ih =>
    intro i t D st h
    by_cases h1 : n ≤ 1
    · rw [climbP_one _ _ _ _ _ _ h1] at h
      rw [rclimb_one _ _ _ _ _ h1]
      simp only [Prod.mk.injEq, and_true] at h
      rw [h.2.2]
      rfl
    · have hs := half_spec (n := n) (by omega)
      by_cases hi : i < halfN n
      · rw [climbP_left _ _ _ _ _ _ (by omega) hi] at h
        obtain ⟨⟨D', st', rest', ok'⟩, hr⟩ : ∃ r, climbP w leaf i (halfN n) t true = r := ⟨_, rfl⟩
        rw [hr] at h
        simp only [Prod.mk.injEq, Bool.and_eq_true] at h
        obtain ⟨h1, h2, h3, rfl, h5⟩ := h
        obtain ⟨p, rfl, hp2⟩ := climb_cut w leaf _ _ _ _ _ _ hr
        cases rest' with
        | nil => cases h5
        | cons x xs =>
          simp only [List.tail_cons] at h3
          rw [h3, rclimb_left _ _ _ _ _ _ (by omega) hi]
          exact ih (halfN n) (by omega) i p _ _ hp2
      · rw [climbP_right _ _ _ _ _ _ (by omega) hi] at h
        obtain ⟨⟨D', st', rest', ok'⟩, hr⟩ : ∃ r, climbP w leaf (i - halfN n) (n - halfN n) t true = r := ⟨_, rfl⟩
        rw [hr] at h
        simp only [Prod.mk.injEq, Bool.and_eq_true] at h
        obtain ⟨h1, h2, h3, rfl, h5⟩ := h
        obtain ⟨p, rfl, hp2⟩ := climb_cut w leaf _ _ _ _ _ _ hr
        cases rest' with
        | nil => cases h5
        | cons x xs =>
          simp only [List.tail_cons] at h3
          rw [h3, rclimb_right _ _ _ _ _ _ (by omega) hi]
          exact ih (n - halfN n) (by omega) (i - halfN n) p _ _ hp2
theorem climb_same (w : Nat) (leaf hd : Dg) (n i : Nat) (t : List Dg) :
    ((climbP w leaf i n t true).2.2.2 && (climbP w leaf i n t true).2.2.1.isEmpty && ((climbP w leaf i n t true).1 == hd)) = ((rclimb w leaf i n t).2.2 && ((rclimb w leaf i n t).1 == hd)) := by
  cases hk : (rclimb w leaf i n t).2.2
  · obtain ⟨⟨D, st, rest, ok⟩, hc⟩ : ∃ r, climbP w leaf i n t true = r := ⟨_, rfl⟩
    rw [hc]
    cases ok
    · rfl
    · cases rest with
      | nil => rw [rclimb_of w leaf n i t D st hc] at hk; cases hk
      | cons => rfl
  · rw [rclimb_yes w leaf n i t hk]
    rfl
set_option maxHeartbeats 4000000 in
theorem refHolds_any (n : Int) (s i : Nat) (hd leaf : Dg) (v : Value) (t : List Dg) (w : World) (hdl : Hid (hd.length = 32)) (hll : Hid (leaf.length = 32)) (hr : Hid (DRow w w.heap.size v t)) (hs : s < 18446744073709551616) (hi : i < 18446744073709551616) :
    Calls Try.prog 18 #[.int .i64 n, hv s hd, .int .u64 (i : Int), dv leaf, v] w fun e w' => e = .returned (.bool (holdsB n s hd i leaf t)) ∧ Below w.heap.size w w' := by
  obtain ⟨R, hR⟩ : ∃ R, holdsB n s hd i leaf t = R := ⟨_, rfl⟩
  rw [hR]
  unfold holdsB at hR
  obtain ⟨N, hN⟩ : ∃ N, w.heap.size = N := ⟨_, rfl⟩
  rw [hN] at hr ⊢
  obtain ⟨W1, hW1⟩ : ∃ x, wideB n = x := ⟨_, rfl⟩
  obtain ⟨F1, hF1⟩ : ∃ x, fitsL n [hd, leaf] = x := ⟨_, rfl⟩
  obtain ⟨F2, hF2⟩ : ∃ x, fitsL n t = x := ⟨_, rfl⟩
  rw [hW1, hF1, hF2] at hR
  have HW := Lib.hid hW1
  have HF1 := Lib.hid hF1
  have HF2 := Lib.hid hF2
  have HR := Lib.hid hR
  have HN := Lib.hid hN
  clear hW1 hF1 hF2 hR hN
  go_enter Try.func18, Try.ntmps18
  go_upto_region 0 with fail
  refine wp_region_list ?_
  refine wpList_boxB rfl _ _ rfl N HN.out (.int .u64 (s : Int) :: hd.map bv).toArray rfl ?_
  intro w0 e0 b0 z0
  (try simp only [Act.put, nA, nB, nC])
  refine wpList_boxD rfl _ rfl leaf rfl (N + 1) z0 ?_
  intro w1 e1 b1 z1
  (try simp only [Act.put, nA, nB, nC])
  refine wpList_plain rfl (fun K hK => ?_)
  go_simp
  refine hK _ _ ?_
  clear hK K
  (try simp only [Act.put, nA, nB, nC])
  have HB := Lib.hid (b0.trans (b1.mono (by omega)))
  have E0 := Lib.hid (heap_below e0 b1 (by omega))
  have E1 := Lib.hid e1
  have HSub := Lib.hid (sub_hv s hd hdl.out)
  clear e0 b0 z0 e1 b1
  obtain ⟨G, hG⟩ : ∃ x, (wideB n && fitsL n t) = x := ⟨_, rfl⟩
  have HG0 := Lib.hid hG
  have HG : Hid ((W1 && F2) = G) := by
    show _ = _
    rw [← HW.out, ← HF2.out]
    exact hG
  clear hG
  have hrw := hr.out.low HB.out (by rw [HN.out]; exact Nat.le_refl _)
  go_upto_region 1 with fail
  refine wp_region_list ?_
  refine wpList_plain rfl (fun K hK => ?_)
  go_simp
  refine hK _ _ ?_
  clear hK K
  (try simp only [Act.put, nA, nB, nC])
  refine wpList_plain rfl (fun K hK => ?_)
  go_simp
  refine hK _ _ ?_
  clear hK K
  (try simp only [Act.put, nA, nB, nC])
  refine wpList_plain rfl (fun K hK => ?_)
  go_simp
  refine (rFits_any n v t _ N hrw).mono ?_; rintro e w3 ⟨rfl, rfl⟩; rw [HG0.out]
  refine hK _ _ ?_
  clear hK K
  (try simp only [Act.put, nA, nB, nC])
  clear hrw
  refine wpList_plain rfl (fun K hK => ?_)
  go_simp
  refine hK _ _ ?_
  clear hK K
  (try simp only [Act.put, nA, nB, nC])
  refine wpList_plain rfl (fun K hK => ?_)
  go_simp
  refine hK _ _ ?_
  clear hK K
  (try simp only [Act.put, nA, nB, nC])
  cases G
  case false =>
    have HRes : Hid (R = false) := by
      show R = false
      rw [← HR.out]
      have := HG.out
      cases W1 <;> cases F2 <;> first | rfl | (cases this; done) | simp
    have HBf := HB
    refine wpList_step (fun K hK => ?_)
    rw [if_neg (Bool.eq_false_iff.1 (by rfl))]
    refine hK _ _ ?_
    clear hK K
    (try simp only [Act.put, nA, nB, nC])
    refine wpList_step (fun K hK => ?_)
    rw [if_neg (Bool.eq_false_iff.1 (by rfl))]
    refine hK _ _ ?_
    clear hK K
    (try simp only [Act.put, nA, nB, nC])
    refine wpList_step (fun K hK => ?_)
    rw [if_neg (Bool.eq_false_iff.1 (by rfl))]
    refine hK _ _ ?_
    clear hK K
    (try simp only [Act.put, nA, nB, nC])
    refine wpList_step (fun K hK => ?_)
    rw [if_neg (Bool.eq_false_iff.1 (by rfl))]
    refine hK _ _ ?_
    clear hK K
    (try simp only [Act.put, nA, nB, nC])
    refine wpList_step (fun K hK => ?_)
    rw [if_neg (Bool.eq_false_iff.1 (by rfl))]
    refine hK _ _ ?_
    clear hK K
    (try simp only [Act.put, nA, nB, nC])
    refine wpList_step (fun K hK => ?_)
    rw [if_neg (Bool.eq_false_iff.1 (by rfl))]
    refine hK _ _ ?_
    clear hK K
    (try simp only [Act.put, nA, nB, nC])
    refine wpList_step (fun K hK => ?_)
    rw [if_neg (Bool.eq_false_iff.1 (by rfl))]
    refine hK _ _ ?_
    clear hK K
    (try simp only [Act.put, nA, nB, nC])
    refine wpList_plain rfl (fun K hK => ?_)
    go_simp
    refine hK _ _ ?_
    clear hK K
    (try simp only [Act.put, nA, nB, nC])
    refine wpList_plain rfl (fun K hK => ?_)
    go_simp
    refine hK _ _ ?_
    clear hK K
    (try simp only [Act.put, nA, nB, nC])
    refine wpList_step (fun K hK => ?_)
    rw [if_neg (Bool.eq_false_iff.1 (by rfl))]
    refine hK _ _ ?_
    clear hK K
    (try simp only [Act.put, nA, nB, nC])
    refine wpList_step (fun K hK => ?_)
    rw [if_neg (Bool.eq_false_iff.1 (by rfl))]
    refine hK _ _ ?_
    clear hK K
    (try simp only [Act.put, nA, nB, nC])
    refine wpList_step (fun K hK => ?_)
    rw [if_neg (Bool.eq_false_iff.1 (by rfl))]
    refine hK _ _ ?_
    clear hK K
    (try simp only [Act.put, nA, nB, nC])
    refine wpList_step (fun K hK => ?_)
    rw [if_neg (Bool.eq_false_iff.1 (by rfl))]
    refine hK _ _ ?_
    clear hK K
    (try simp only [Act.put, nA, nB, nC])
    refine wpList_plain rfl (fun K hK => ?_)
    go_simp
    refine hK _ _ ?_
    clear hK K
    (try simp only [Act.put, nA, nB, nC])
    refine wpList_plain rfl (fun K hK => ?_)
    go_simp
    refine hK _ _ ?_
    clear hK K
    (try simp only [Act.put, nA, nB, nC])
    refine wpList_step (fun K hK => ?_)
    rw [if_neg (Bool.eq_false_iff.1 (by rfl))]
    refine hK _ _ ?_
    clear hK K
    (try simp only [Act.put, nA, nB, nC])
    refine wpList_step (fun K hK => ?_)
    rw [if_neg (Bool.eq_false_iff.1 (by rfl))]
    refine hK _ _ ?_
    clear hK K
    (try simp only [Act.put, nA, nB, nC])
    refine wpList_step (fun K hK => ?_)
    rw [if_neg (Bool.eq_false_iff.1 (by rfl))]
    refine hK _ _ ?_
    clear hK K
    (try simp only [Act.put, nA, nB, nC])
    refine wpList_plain rfl (fun K hK => ?_)
    go_simp
    refine hK _ _ ?_
    clear hK K
    (try simp only [Act.put, nA, nB, nC])
    clear E0 E1 HSub
    go_wp2_with fail
    go_ret
    exact ⟨by rw [HRes.out]; rfl, HBf.out⟩
  case true =>
    obtain ⟨rfl, rfl⟩ : W1 = true ∧ F2 = true := by have := HG.out; revert this; cases W1 <;> cases F2 <;> simp
    refine wpList_step (fun K hK => ?_)
    rw [if_pos (by rfl)]
    go_simp
    refine hK _ _ ?_
    clear hK K
    (try simp only [Act.put, nA, nB, nC])
    refine wpList_step (fun K hK => ?_)
    rw [if_pos (by rfl)]
    go_simp
    refine hK _ _ ?_
    clear hK K
    (try simp only [Act.put, nA, nB, nC])
    refine wpList_loadAtG rfl _ rfl N 1 rfl hd hdl.out _ _ E0.out HSub.out ?_
    (try simp only [Act.put, nA, nB, nC])
    refine wpList_loadDg rfl _ rfl (N + 1) rfl leaf hll.out E1.out ?_
    (try simp only [Act.put, nA, nB, nC])
    refine wpList_slice2G rfl _ _ rfl hd leaf hdl.out hll.out rfl rfl (N + 2) z1 ?_
    intro w4 e2 b2 z2
    (try simp only [Act.put, nA, nB, nC])
    have R2 := Lib.hid (row_lit rfl (all2 hdl.out hll.out) e2 (by simp))
    refine wpList_step (fun K hK => ?_)
    rw [if_pos (by rfl)]
    go_simp
    refine (rFits_any n _ [hd, leaf] _ _ R2).mono ?_; rintro e w3 ⟨rfl, rfl⟩; rw [HW.out, HF1.out]
    refine hK _ _ ?_
    clear hK K
    (try simp only [Act.put, nA, nB, nC])
    have HB4 := Lib.hid (HB.out.trans (b2.mono (by omega)))
    have E03 := Lib.hid (heap_below E0.out b2 (by omega))
    have E13 := Lib.hid (heap_below E1.out b2 (by omega))
    clear e2 b2 R2 E0 E1 HB
    rename Hid (w4.heap[N]? = _) => E0
    rename Hid (w4.heap[N + 1]? = _) => E1
    refine wpList_step (fun K hK => ?_)
    rw [if_pos (by rfl)]
    go_simp
    refine hK _ _ ?_
    clear hK K
    (try simp only [Act.put, nA, nB, nC])
    refine wpList_plain rfl (fun K hK => ?_)
    go_simp
    refine hK _ _ ?_
    clear hK K
    (try simp only [Act.put, nA, nB, nC])
    refine wpList_plain rfl (fun K hK => ?_)
    go_simp
    refine hK _ _ ?_
    clear hK K
    (try simp only [Act.put, nA, nB, nC])
    cases F1
    case false =>
      have HRes : Hid (R = false) := HR.out.symm
      have HBf := HB4
      refine wpList_step (fun K hK => ?_)
      rw [if_neg (Bool.eq_false_iff.1 (by rfl))]
      refine hK _ _ ?_
      clear hK K
      (try simp only [Act.put, nA, nB, nC])
      refine wpList_step (fun K hK => ?_)
      rw [if_neg (Bool.eq_false_iff.1 (by rfl))]
      refine hK _ _ ?_
      clear hK K
      (try simp only [Act.put, nA, nB, nC])
      refine wpList_step (fun K hK => ?_)
      rw [if_neg (Bool.eq_false_iff.1 (by rfl))]
      refine hK _ _ ?_
      clear hK K
      (try simp only [Act.put, nA, nB, nC])
      refine wpList_step (fun K hK => ?_)
      rw [if_neg (Bool.eq_false_iff.1 (by rfl))]
      refine hK _ _ ?_
      clear hK K
      (try simp only [Act.put, nA, nB, nC])
      refine wpList_plain rfl (fun K hK => ?_)
      go_simp
      refine hK _ _ ?_
      clear hK K
      (try simp only [Act.put, nA, nB, nC])
      refine wpList_plain rfl (fun K hK => ?_)
      go_simp
      refine hK _ _ ?_
      clear hK K
      (try simp only [Act.put, nA, nB, nC])
      refine wpList_step (fun K hK => ?_)
      rw [if_neg (Bool.eq_false_iff.1 (by rfl))]
      refine hK _ _ ?_
      clear hK K
      (try simp only [Act.put, nA, nB, nC])
      refine wpList_step (fun K hK => ?_)
      rw [if_neg (Bool.eq_false_iff.1 (by rfl))]
      refine hK _ _ ?_
      clear hK K
      (try simp only [Act.put, nA, nB, nC])
      refine wpList_step (fun K hK => ?_)
      rw [if_neg (Bool.eq_false_iff.1 (by rfl))]
      refine hK _ _ ?_
      clear hK K
      (try simp only [Act.put, nA, nB, nC])
      refine wpList_plain rfl (fun K hK => ?_)
      go_simp
      refine hK _ _ ?_
      clear hK K
      (try simp only [Act.put, nA, nB, nC])
      clear E0 E1 HSub
      go_wp2_with fail
      go_ret
      exact ⟨by rw [HRes.out]; rfl, HBf.out⟩
    case true =>
      have HBf := HB4
      have cs : w4.cell? ⟨N, 0, none⟩ = some (.int .u64 (s : Int)) := by rw [heap_cell E0.out]; rfl
      by_cases his : i < s
      case neg =>
        have HRes : Hid (R = false) := by
          show R = false
          rw [← HR.out, decide_eq_false his]; rfl
        have d1 : decide (s ≤ i) = true := decide_eq_true (by omega)
        have d2 : decide ((s : Int) ≤ (i : Int)) = true := decide_eq_true (by omega)
        refine wpList_step (fun K hK => ?_)
        rw [if_pos (by rfl)]
        go_simp
        refine hK _ _ ?_
        clear hK K
        (try simp only [Act.put, nA, nB, nC])
        refine wpList_step (fun K hK => ?_)
        rw [if_pos (by rfl)]
        go_simp
        refine hK _ _ ?_
        clear hK K
        (try simp only [Act.put, nA, nB, nC])
        refine wpList_step (fun K hK => ?_)
        rw [if_pos (by rfl)]
        go_simp
        refine hK _ _ ?_
        clear hK K
        (try simp only [Act.put, nA, nB, nC])
        refine wpList_step (fun K hK => ?_)
        rw [if_pos (by rfl)]
        go_simp
        refine hK _ _ ?_
        clear hK K
        (try simp only [Act.put, nA, nB, nC])
        refine wpList_plain rfl (fun K hK => ?_)
        go_simp
        refine hK _ _ ?_
        clear hK K
        (try simp only [Act.put, nA, nB, nC])
        refine wpList_plain rfl (fun K hK => ?_)
        go_simp
        refine hK _ _ ?_
        clear hK K
        (try simp only [Act.put, nA, nB, nC])
        clear d1 d2 cs
        refine wpList_step (fun K hK => ?_)
        rw [if_neg (Bool.eq_false_iff.1 (by rfl))]
        refine hK _ _ ?_
        clear hK K
        (try simp only [Act.put, nA, nB, nC])
        refine wpList_step (fun K hK => ?_)
        rw [if_neg (Bool.eq_false_iff.1 (by rfl))]
        refine hK _ _ ?_
        clear hK K
        (try simp only [Act.put, nA, nB, nC])
        refine wpList_step (fun K hK => ?_)
        rw [if_neg (Bool.eq_false_iff.1 (by rfl))]
        refine hK _ _ ?_
        clear hK K
        (try simp only [Act.put, nA, nB, nC])
        refine wpList_plain rfl (fun K hK => ?_)
        go_simp
        refine hK _ _ ?_
        clear hK K
        (try simp only [Act.put, nA, nB, nC])
        clear E0 E1 HSub
        go_wp2_with fail
        go_ret
        exact ⟨by rw [HRes.out]; rfl, HBf.out⟩
      case pos =>
        have d1 : decide (s ≤ i) = false := decide_eq_false (by omega)
        have d2 : decide ((s : Int) ≤ (i : Int)) = false := decide_eq_false (by omega)
        refine wpList_step (fun K hK => ?_)
        rw [if_pos (by rfl)]
        go_simp
        refine hK _ _ ?_
        clear hK K
        (try simp only [Act.put, nA, nB, nC])
        refine wpList_step (fun K hK => ?_)
        rw [if_pos (by rfl)]
        go_simp
        refine hK _ _ ?_
        clear hK K
        (try simp only [Act.put, nA, nB, nC])
        refine wpList_step (fun K hK => ?_)
        rw [if_pos (by rfl)]
        go_simp
        refine hK _ _ ?_
        clear hK K
        (try simp only [Act.put, nA, nB, nC])
        refine wpList_step (fun K hK => ?_)
        rw [if_pos (by rfl)]
        go_simp
        refine hK _ _ ?_
        clear hK K
        (try simp only [Act.put, nA, nB, nC])
        refine wpList_plain rfl (fun K hK => ?_)
        go_simp
        refine hK _ _ ?_
        clear hK K
        (try simp only [Act.put, nA, nB, nC])
        refine wpList_plain rfl (fun K hK => ?_)
        go_simp
        refine hK _ _ ?_
        clear hK K
        (try simp only [Act.put, nA, nB, nC])
        clear d1 d2
        by_cases hsm : s ≤ 1048576
        case neg =>
          have HRes : Hid (R = false) := by
            show R = false
            rw [← HR.out, decide_eq_false hsm, decide_eq_true his]; rfl
          have d1 : decide (1048576 < s) = true := decide_eq_true (by omega)
          have d2 : decide ((1048576 : Int) < (s : Int)) = true := decide_eq_true (by omega)
          refine wpList_step (fun K hK => ?_)
          rw [if_pos (by rfl)]
          go_simp
          refine hK _ _ ?_
          clear hK K
          (try simp only [Act.put, nA, nB, nC])
          refine wpList_step (fun K hK => ?_)
          rw [if_pos (by rfl)]
          go_simp
          refine hK _ _ ?_
          clear hK K
          (try simp only [Act.put, nA, nB, nC])
          refine wpList_step (fun K hK => ?_)
          rw [if_pos (by rfl)]
          go_simp
          refine hK _ _ ?_
          clear hK K
          (try simp only [Act.put, nA, nB, nC])
          refine wpList_plain rfl (fun K hK => ?_)
          go_simp
          refine hK _ _ ?_
          clear hK K
          (try simp only [Act.put, nA, nB, nC])
          clear d1 d2 cs E0 E1 HSub
          go_wp2_with fail
          go_ret
          exact ⟨by rw [HRes.out]; rfl, HBf.out⟩
        case pos =>
          have d1 : decide (1048576 < s) = false := decide_eq_false (by omega)
          have d2 : decide ((1048576 : Int) < (s : Int)) = false := decide_eq_false (by omega)
          refine wpList_step (fun K hK => ?_)
          rw [if_pos (by rfl)]
          go_simp
          refine hK _ _ ?_
          clear hK K
          (try simp only [Act.put, nA, nB, nC])
          refine wpList_step (fun K hK => ?_)
          rw [if_pos (by rfl)]
          go_simp
          refine hK _ _ ?_
          clear hK K
          (try simp only [Act.put, nA, nB, nC])
          refine wpList_step (fun K hK => ?_)
          rw [if_pos (by rfl)]
          go_simp
          refine hK _ _ ?_
          clear hK K
          (try simp only [Act.put, nA, nB, nC])
          refine wpList_plain rfl (fun K hK => ?_)
          go_simp
          refine hK _ _ ?_
          clear hK K
          (try simp only [Act.put, nA, nB, nC])
          clear d1 d2
          obtain ⟨m, rfl⟩ : ∃ m : Nat, n = (m : Int) := ⟨n.toNat, by have := HW.out; simp [wideB] at this; omega⟩
          have hm : m ≤ 32 := by have := HW.out; simp [wideB] at this; omega
          have h1m : 1 ≤ m := by have := HW.out; simp [wideB] at this; omega
          obtain ⟨⟨D, xs, B2⟩, hcl⟩ : ∃ r, rclimb m leaf i s t = r := ⟨_, rfl⟩
          have hcl3 := rclimb_shape m leaf hll.out s i t hr.out.1
          rw [hcl] at hcl3
          have HD : Hid (List.length D = 32) := hcl3.1
          have HR2 : Hid (R = (B2 && (D == hd))) := by
            show R = _
            rw [← HR.out, decide_eq_true hsm, decide_eq_true his]
            show (true && (_ && _ && _)) = _
            rw [Int.toNat_natCast, climb_same, hcl]
            rfl
          have hrw := hr.out.low HBf.out (by rw [HN.out]; exact Nat.le_refl _)
          have hcc := rClimb_any m h1m hm leaf hll s i v t w4 (hrw.mono (by have := HBf.out.size; have := HN.out; omega)) his hsm
          rw [hcl] at hcc
          have HC := Lib.hid hcc
          clear hcl hcl3 hrw hcc HR
          have hwi : IntKind.i64.wrap (i : Int) = (i : Int) := IntWalk.i64_in _ (by omega)
          have hws : IntKind.i64.wrap (s : Int) = (s : Int) := IntWalk.i64_in _ (by omega)
          go_upto_region 3 with fail
          refine wp_region_list ?_
          refine wpList_plain rfl (fun K hK => ?_)
          go_simp
          refine hK _ _ ?_
          clear hK K
          (try simp only [Act.put, nA, nB, nC])
          refine wpList_plain rfl (fun K hK => ?_)
          go_simp
          refine hK _ _ ?_
          clear hK K
          (try simp only [Act.put, nA, nB, nC])
          refine wpList_plain rfl (fun K hK => ?_)
          go_simp
          refine hK _ _ ?_
          clear hK K
          (try simp only [Act.put, nA, nB, nC])
          refine wpList_plain rfl (fun K hK => ?_)
          go_simp
          refine hK _ _ ?_
          clear hK K
          (try simp only [Act.put, nA, nB, nC])
          refine wpList_plain rfl (fun K hK => ?_)
          go_simp
          refine hK _ _ ?_
          clear hK K
          (try simp only [Act.put, nA, nB, nC])
          refine wpList_plain rfl (fun K hK => ?_)
          go_simp
          refine hK _ _ ?_
          clear hK K
          (try simp only [Act.put, nA, nB, nC])
          refine wpList_loadD rfl _ rfl (N + 1) rfl leaf hll.out E1.out ?_
          (try simp only [Act.put, nA, nB, nC])
          refine wpList_plain rfl (fun K hK => ?_)
          go_simp
          refine hK _ _ ?_
          clear hK K
          (try simp only [Act.put, nA, nB, nC])
          refine wpList_plain rfl (fun K hK => ?_)
          go_simp
          refine HC.out.mono ?_; rintro e y ⟨sv, rfl, ho, hb⟩; dsimp only
          refine hK _ _ ?_
          clear hK K
          (try simp only [Act.put, nA, nB, nC])
          have E05 := Lib.hid (heap_below E0.out hb (heap_lt E0.out))
          have HB5 := Lib.hid (HBf.out.trans (hb.mono (by omega)))
          have hz5 := hb.size
          clear hwi hws ho hb HC E0 E1 HBf HB4 cs
          refine wpList_plain rfl (fun K hK => ?_)
          go_simp
          refine hK _ _ ?_
          clear hK K
          (try simp only [Act.put, nA, nB, nC])
          refine wpList_plain rfl (fun K hK => ?_)
          go_simp
          refine hK _ _ ?_
          clear hK K
          (try simp only [Act.put, nA, nB, nC])
          refine wpList_plain rfl (fun K hK => ?_)
          go_simp
          refine hK _ _ ?_
          clear hK K
          (try simp only [Act.put, nA, nB, nC])
          refine wpList_plain rfl (fun K hK => ?_)
          go_simp
          refine hK _ _ ?_
          clear hK K
          (try simp only [Act.put, nA, nB, nC])
          refine wpList_allocD rfl rfl y.heap.size rfl ?_
          intro ya ea ba za
          (try simp only [Act.put, nA, nB, nC])
          
          refine wpList_storeD rfl _ _ rfl y.heap.size rfl zeros32 D rfl HD.out rfl ea ?_
          intro yb eb bb kb zb
          (try simp only [Act.put, nA, nB, nC])
          have Eb := Lib.hid eb
          have E06 := Lib.hid (heap_below (heap_below E05.out ba (by omega)) bb (by omega))
          have HB6 := Lib.hid ((HB5.out.trans (ba.mono (by omega))).trans (bb.mono (by omega)))
          clear ea ba eb bb kb E05 HB5
          refine wpList_plain rfl (fun K hK => ?_)
          go_simp
          refine hK _ _ ?_
          clear hK K
          (try simp only [Act.put, nA, nB, nC])
          refine wpList_plain rfl (fun K hK => ?_)
          go_simp
          refine hK _ _ ?_
          clear hK K
          (try simp only [Act.put, nA, nB, nC])
          go_upto_region 4 with fail
          refine wp_region_list ?_
          refine wpList_plain rfl (fun K hK => ?_)
          go_simp
          refine hK _ _ ?_
          clear hK K
          (try simp only [Act.put, nA, nB, nC])
          refine wpList_plain rfl (fun K hK => ?_)
          go_simp
          refine hK _ _ ?_
          clear hK K
          (try simp only [Act.put, nA, nB, nC])
          cases B2
          case false =>
            have HRes : Hid (R = false) := HR2.out
            refine wpList_step (fun K hK => ?_)
            rw [if_neg (Bool.eq_false_iff.1 (by rfl))]
            refine hK _ _ ?_
            clear hK K
            (try simp only [Act.put, nA, nB, nC])
            refine wpList_step (fun K hK => ?_)
            rw [if_neg (Bool.eq_false_iff.1 (by rfl))]
            refine hK _ _ ?_
            clear hK K
            (try simp only [Act.put, nA, nB, nC])
            refine wpList_step (fun K hK => ?_)
            rw [if_neg (Bool.eq_false_iff.1 (by rfl))]
            refine hK _ _ ?_
            clear hK K
            (try simp only [Act.put, nA, nB, nC])
            refine wpList_step (fun K hK => ?_)
            rw [if_neg (Bool.eq_false_iff.1 (by rfl))]
            refine hK _ _ ?_
            clear hK K
            (try simp only [Act.put, nA, nB, nC])
            refine wpList_plain rfl (fun K hK => ?_)
            go_simp
            refine hK _ _ ?_
            clear hK K
            (try simp only [Act.put, nA, nB, nC])
            refine wpList_plain rfl (fun K hK => ?_)
            go_simp
            refine hK _ _ ?_
            clear hK K
            (try simp only [Act.put, nA, nB, nC])
            clear E06 Eb HSub
            go_wp2_with fail
            go_ret
            exact ⟨by rw [HRes.out]; rfl, HB6.out⟩
          case true =>
            have HRes : Hid (R = (D == hd)) := HR2.out
            obtain ⟨Q, hQ⟩ : ∃ x, (D == hd) = x := ⟨_, rfl⟩
            have heq := eqD D hd HD.out hdl.out
            rw [hQ] at heq
            have HQ := Lib.hid hQ
            clear hQ
            set_option maxRecDepth 20000 in
            refine wpList_loadDg rfl _ rfl y.heap.size rfl D HD.out Eb.out ?_
            (try simp only [Act.put, nA, nB, nC])
            refine wpList_step (fun K hK => ?_)
            rw [if_pos (by rfl)]
            go_simp
            refine hK _ _ ?_
            clear hK K
            (try simp only [Act.put, nA, nB, nC])
            set_option maxRecDepth 20000 in
            refine wpList_loadAtG rfl _ rfl N 1 rfl hd hdl.out _ _ E06.out HSub.out ?_
            (try simp only [Act.put, nA, nB, nC])
            refine wpList_step (fun K hK => ?_)
            rw [if_pos (by rfl)]
            go_simp
            refine hK _ _ ?_
            clear hK K
            (try simp only [Act.put, nA, nB, nC])
            refine wpList_plain rfl (fun K hK => ?_)
            go_simp
            refine hK _ _ ?_
            clear hK K
            (try simp only [Act.put, nA, nB, nC])
            refine wpList_plain rfl (fun K hK => ?_)
            go_simp
            refine hK _ _ ?_
            clear hK K
            (try simp only [Act.put, nA, nB, nC])
            clear E06 Eb HSub heq
            go_wp2_with fail
            go_ret
            exact ⟨by rw [HRes.out, HQ.out]; rfl, HB6.out⟩
end Go.Proofs.Ytihbhpggpnmifaa

