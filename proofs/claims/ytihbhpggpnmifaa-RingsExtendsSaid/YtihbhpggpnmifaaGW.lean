/-
  The document's Two and the program's agree; the walk of the document's Extends. RingsExtends.
-/
import Derived.Test.YtihbhpggpnmifaaGV
import Derived.Test.YtihbhpggpnmifaaGU
set_option linter.unusedSimpArgs false
set_option linter.unusedVariables false
namespace Go.Proofs.Ytihbhpggpnmifaa
open Go.RowKit Go.Lib Hw
set_option linter.unusedVariables false

theorem two_app (w : Nat) (old : Dg) : ∀ (n m : Nat) (t s : List Dg) (whole : Bool) (A B : Dg) (rest : List Dg), 1 ≤ m → m ≤ n → twoP w old m n t true whole = (A, B, rest, true) → twoP w old m n (t ++ s) true whole = (A, B, rest ++ s, true) := by
  intro n
  induction n using Nat.strongRecOn with
  | _ n ih =>
    intro m t s whole A B rest h0 hmn h
    by_cases h1 : m = n
    · subst h1
      cases whole
      · rw [twoP_part _ _ _ _ _ h0] at h ⊢
        cases t with
        | nil => simp at h
        | cons x xs =>
          simp only [List.headD_cons, List.tail_cons, List.isEmpty_cons, Prod.mk.injEq] at h
          obtain ⟨rfl, rfl, rfl, _⟩ := h
          rfl
      · rw [twoP_whole _ _ _ _ _ h0] at h ⊢
        simp only [Prod.mk.injEq, and_true] at h
        obtain ⟨rfl, rfl, rfl⟩ := h
        rfl
    · have hs := half_spec (n := n) (by omega)
      by_cases hm : m ≤ halfN n
      · rw [twoP_left _ _ _ _ _ _ _ h0 (by omega) hm] at h ⊢
        obtain ⟨⟨A', B', rest', ok'⟩, hr⟩ : ∃ r, twoP w old m (halfN n) t true whole = r := ⟨_, rfl⟩
        rw [hr] at h
        simp only [Prod.mk.injEq, Bool.and_eq_true] at h
        obtain ⟨h1, h2, h3, rfl, h5⟩ := h
        rw [ih (halfN n) (by omega) m t s whole A' B' rest' h0 hm hr]
        cases rest' with
        | nil => cases h5
        | cons x xs =>
          simp only [List.headD_cons, List.tail_cons, List.cons_append] at h1 h2 h3 ⊢
          rw [h1, h2, h3]
          rfl
      · rw [twoP_right _ _ _ _ _ _ _ h0 (by omega) hm] at h ⊢
        obtain ⟨⟨A', B', rest', ok'⟩, hr⟩ : ∃ r, twoP w old (m - halfN n) (n - halfN n) t true false = r := ⟨_, rfl⟩
        rw [hr] at h
        simp only [Prod.mk.injEq, Bool.and_eq_true] at h
        obtain ⟨h1, h2, h3, rfl, h5⟩ := h
        rw [ih (n - halfN n) (by omega) (m - halfN n) t s false A' B' rest' (by omega) (by omega) hr]
        cases rest' with
        | nil => cases h5
        | cons x xs =>
          simp only [List.headD_cons, List.tail_cons, List.cons_append] at h1 h2 h3 ⊢
          rw [h1, h2, h3]
          rfl
theorem two_cut (w : Nat) (old : Dg) : ∀ (n m : Nat) (t : List Dg) (whole : Bool) (A B : Dg) (rest : List Dg), 1 ≤ m → m ≤ n → twoP w old m n t true whole = (A, B, rest, true) → ∃ p, t = p ++ rest ∧ twoP w old m n p true whole = (A, B, [], true) := by
  intro n
  induction n using Nat.strongRecOn with
  | _ n ih =>
    intro m t whole A B rest h0 hmn h
    by_cases h1 : m = n
    · subst h1
      cases whole
      · rw [twoP_part _ _ _ _ _ h0] at h
        cases t with
        | nil => simp at h
        | cons x xs =>
          simp only [List.headD_cons, List.tail_cons, List.isEmpty_cons, Prod.mk.injEq] at h
          obtain ⟨rfl, rfl, rfl, _⟩ := h
          refine ⟨[x], rfl, ?_⟩
          rw [twoP_part _ _ _ _ _ h0]
          rfl
      · rw [twoP_whole _ _ _ _ _ h0] at h
        simp only [Prod.mk.injEq, and_true] at h
        obtain ⟨rfl, rfl, rfl⟩ := h
        refine ⟨[], rfl, ?_⟩
        rw [twoP_whole _ _ _ _ _ h0]
    · have hs := half_spec (n := n) (by omega)
      by_cases hm : m ≤ halfN n
      · rw [twoP_left _ _ _ _ _ _ _ h0 (by omega) hm] at h
        obtain ⟨⟨A', B', rest', ok'⟩, hr⟩ : ∃ r, twoP w old m (halfN n) t true whole = r := ⟨_, rfl⟩
        rw [hr] at h
        simp only [Prod.mk.injEq, Bool.and_eq_true] at h
        obtain ⟨h1, h2, h3, rfl, h5⟩ := h
        obtain ⟨p, hp1, hp2⟩ := ih (halfN n) (by omega) m t whole A' B' rest' h0 hm hr
        cases rest' with
        | nil => cases h5
        | cons x xs =>
          simp only [List.headD_cons, List.tail_cons] at h1 h2 h3
          refine ⟨p ++ [x], by rw [hp1, ← h3, List.append_assoc]; rfl, ?_⟩
          rw [twoP_left _ _ _ _ _ _ _ h0 (by omega) hm, two_app w old _ _ _ [x] _ _ _ _ h0 hm hp2]
          simp [h1, h2]
      · rw [twoP_right _ _ _ _ _ _ _ h0 (by omega) hm] at h
        obtain ⟨⟨A', B', rest', ok'⟩, hr⟩ : ∃ r, twoP w old (m - halfN n) (n - halfN n) t true false = r := ⟨_, rfl⟩
        rw [hr] at h
        simp only [Prod.mk.injEq, Bool.and_eq_true] at h
        obtain ⟨h1, h2, h3, rfl, h5⟩ := h
        obtain ⟨p, hp1, hp2⟩ := ih (n - halfN n) (by omega) (m - halfN n) t false A' B' rest' (by omega) (by omega) hr
        cases rest' with
        | nil => cases h5
        | cons x xs =>
          simp only [List.headD_cons, List.tail_cons] at h1 h2 h3
          refine ⟨p ++ [x], by rw [hp1, ← h3, List.append_assoc]; rfl, ?_⟩
          rw [twoP_right _ _ _ _ _ _ _ h0 (by omega) hm, two_app w old _ _ _ [x] _ _ _ _ (by omega) (by omega) hp2]
          simp [h1, h2]
theorem rtwo_yes (w : Nat) (old : Dg) : ∀ (n m : Nat) (t : List Dg) (whole : Bool), 1 ≤ m → m ≤ n → (rtwo w old m n t whole).2.2.2 = true → twoP w old m n t true whole = ((rtwo w old m n t whole).1, (rtwo w old m n t whole).2.1, [], true) := by
  intro n
  induction n using Nat.strongRecOn with
  | _ n ih =>
    intro m t whole h0 hmn h
    by_cases h1 : m = n
    · subst h1
      rw [rtwo_same _ _ _ _ _ h0] at h ⊢
      cases whole
      · simp only [Bool.false_eq_true, if_false] at h ⊢
        by_cases h1 : t.length = 1
        · match t, h1 with
          | [x], _ => rw [twoP_part _ _ _ _ _ h0]; rfl
        · rw [if_neg h1] at h; cases h
      · simp only [if_true] at h ⊢
        rw [twoP_whole _ _ _ _ _ h0, List.isEmpty_iff.1 h]
    · have hs := half_spec (n := n) (by omega)
      rcases List.eq_nil_or_concat t with rfl | ⟨r, last, rfl⟩
      · rw [rtwo_nil _ _ _ _ _ h0 (by omega)] at h
        cases h
      · rw [List.concat_eq_append] at h ⊢
        by_cases hm : m ≤ halfN n
        · rw [rtwo_left _ _ _ _ _ _ _ h0 (by omega) hm] at h ⊢
          have h2 := two_app w old _ _ _ [last] _ _ _ _ h0 hm (ih (halfN n) (by omega) m r whole h0 hm h)
          rw [twoP_left _ _ _ _ _ _ _ h0 (by omega) hm, h2]
          rfl
        · rw [rtwo_right _ _ _ _ _ _ _ h0 (by omega) hm] at h ⊢
          have h2 := two_app w old _ _ _ [last] _ _ _ _ (by omega) (by omega) (ih (n - halfN n) (by omega) (m - halfN n) r false (by omega) (by omega) h)
          rw [twoP_right _ _ _ _ _ _ _ h0 (by omega) hm, h2]
          rfl
theorem rtwo_of (w : Nat) (old : Dg) : ∀ (n m : Nat) (t : List Dg) (whole : Bool) (A B : Dg), 1 ≤ m → m ≤ n → twoP w old m n t true whole = (A, B, [], true) → (rtwo w old m n t whole).2.2.2 = true := by
  intro n
  induction n using Nat.strongRecOn with
  | _ n ih =>
    intro m t whole A B h0 hmn h
    by_cases h1 : m = n
    · subst h1
      rw [rtwo_same _ _ _ _ _ h0]
      cases whole
      · rw [twoP_part _ _ _ _ _ h0] at h
        cases t with
        | nil => simp at h
        | cons x xs =>
          simp only [List.tail_cons, Prod.mk.injEq] at h
          rw [h.2.2.1]
          rfl
      · rw [twoP_whole _ _ _ _ _ h0] at h
        simp only [Prod.mk.injEq, and_true] at h
        rw [h.2.2]
        rfl
    · have hs := half_spec (n := n) (by omega)
      by_cases hm : m ≤ halfN n
      · rw [twoP_left _ _ _ _ _ _ _ h0 (by omega) hm] at h
        obtain ⟨⟨A', B', rest', ok'⟩, hr⟩ : ∃ r, twoP w old m (halfN n) t true whole = r := ⟨_, rfl⟩
        rw [hr] at h
        simp only [Prod.mk.injEq, Bool.and_eq_true] at h
        obtain ⟨h1, h2, h3, rfl, h5⟩ := h
        obtain ⟨p, rfl, hp2⟩ := two_cut w old _ _ _ _ _ _ _ h0 hm hr
        cases rest' with
        | nil => cases h5
        | cons x xs =>
          simp only [List.tail_cons] at h3
          rw [h3, rtwo_left _ _ _ _ _ _ _ h0 (by omega) hm]
          exact ih (halfN n) (by omega) m p whole _ _ h0 hm hp2
      · rw [twoP_right _ _ _ _ _ _ _ h0 (by omega) hm] at h
        obtain ⟨⟨A', B', rest', ok'⟩, hr⟩ : ∃ r, twoP w old (m - halfN n) (n - halfN n) t true false = r := ⟨_, rfl⟩
        rw [hr] at h
        simp only [Prod.mk.injEq, Bool.and_eq_true] at h
        obtain ⟨h1, h2, h3, rfl, h5⟩ := h
        obtain ⟨p, rfl, hp2⟩ := two_cut w old _ _ _ _ _ _ _ (by omega) (by omega) hr
        cases rest' with
        | nil => cases h5
        | cons x xs =>
          simp only [List.tail_cons] at h3
          rw [h3, rtwo_right _ _ _ _ _ _ _ h0 (by omega) hm]
          exact ih (n - halfN n) (by omega) (m - halfN n) p false _ _ (by omega) (by omega) hp2
theorem two_same (w : Nat) (old od nd : Dg) (n m : Nat) (t : List Dg) (whole : Bool) (h0 : 1 ≤ m) (hmn : m ≤ n) :
    ((twoP w old m n t true whole).2.2.2 && (twoP w old m n t true whole).2.2.1.isEmpty && ((twoP w old m n t true whole).1 == od) && ((twoP w old m n t true whole).2.1 == nd)) = ((rtwo w old m n t whole).2.2.2 && ((rtwo w old m n t whole).1 == od) && ((rtwo w old m n t whole).2.1 == nd)) := by
  cases hk : (rtwo w old m n t whole).2.2.2
  · obtain ⟨⟨A, B, rest, ok⟩, hc⟩ : ∃ r, twoP w old m n t true whole = r := ⟨_, rfl⟩
    rw [hc]
    cases ok
    · rfl
    · cases rest with
      | nil => rw [rtwo_of w old n m t whole A B h0 hmn hc] at hk; cases hk
      | cons => rfl
  · rw [rtwo_yes w old n m t whole h0 hmn hk]
    rfl
theorem drow_nil (w : World) (lim : Nat) : Hid (DRow w lim (.slice none 0 0) []) := ⟨All32.nil, none, 0, rfl, Nat.le_refl _, by decide, fun h => by simp at h⟩
/-- the two heads' blocks -/
structure EG (W : World) (N s : Nat) (od : Dg) (s2 : Nat) (nd : Dg) : Prop where
  bo : HB W N s od
  bn : HB W (N + 1) s2 nd
theorem EG.low {W W' : World} {N s : Nat} {od : Dg} {s2 : Nat} {nd : Dg} (h : EG W N s od s2 nd) {k : Nat} (hb : Below k W W') (hk : N + 2 ≤ k) : EG W' N s od s2 nd := ⟨heap_below h.bo hb (by omega), heap_below h.bn hb (by omega)⟩
theorem EG.cs {W : World} {N s : Nat} {od : Dg} {s2 : Nat} {nd : Dg} (h : EG W N s od s2 nd) : W.cell? ⟨N, 0, none⟩ = some (.int .u64 (s : Int)) := by rw [heap_cell h.bo]; rfl
theorem EG.cs2 {W : World} {N s : Nat} {od : Dg} {s2 : Nat} {nd : Dg} (h : EG W N s od s2 nd) : W.cell? ⟨N + 1, 0, none⟩ = some (.int .u64 (s2 : Int)) := by rw [heap_cell h.bn]; rfl
set_option maxHeartbeats 16000000 in
theorem refExtends_any (n : Int) (s s2 : Nat) (od nd : Dg) (v : Value) (t : List Dg) (w : World) (hod : Hid (od.length = 32)) (hnd : Hid (nd.length = 32)) (hr : Hid (DRow w w.heap.size v t)) (hs : s < 18446744073709551616) (hs2 : s2 < 18446744073709551616) :
    Calls Try.prog 21 #[.int .i64 n, hv s od, hv s2 nd, v] w fun e w' => e = .returned (.bool (extendsB n s od s2 nd t)) ∧ Below w.heap.size w w' := by
  obtain ⟨R, hR⟩ : ∃ R, extendsB n s od s2 nd t = R := ⟨_, rfl⟩
  rw [hR]
  unfold extendsB at hR
  obtain ⟨ad, cap, rfl, _⟩ : ∃ ad c, v = .slice ad t.length c ∧ True := by
    obtain ⟨_, ad, c, e, _⟩ := hr.out
    exact ⟨ad, c, e, trivial⟩
  obtain ⟨N, hN⟩ : ∃ N, w.heap.size = N := ⟨_, rfl⟩
  rw [hN] at hr ⊢
  obtain ⟨W1, hW1⟩ : ∃ x, wideB n = x := ⟨_, rfl⟩
  obtain ⟨F1, hF1⟩ : ∃ x, fitsL n [od, nd] = x := ⟨_, rfl⟩
  obtain ⟨F2, hF2⟩ : ∃ x, fitsL n t = x := ⟨_, rfl⟩
  rw [hW1, hF1, hF2] at hR
  have HW := Lib.hid hW1
  have HF1 := Lib.hid hF1
  have HF2 := Lib.hid hF2
  have HR := Lib.hid hR
  have HN := Lib.hid hN
  clear hW1 hF1 hF2 hR hN
  obtain ⟨G, hG⟩ : ∃ x, (wideB n && fitsL n t) = x := ⟨_, rfl⟩
  have HG0 := Lib.hid hG
  have HG : Hid ((W1 && F2) = G) := by
    show _ = _
    rw [← HW.out, ← HF2.out]
    exact hG
  clear hG
  go_enter Try.func21, Try.ntmps21
  go_upto_region 0 with fail
  refine wp_region_list ?_
  refine wpList_boxB rfl _ _ rfl N HN.out (hcs s od).toArray rfl ?_
  intro w0 e0 b0 z0
  (try simp only [Act.put, nA, nB, nC])
  refine wpList_boxB rfl _ _ rfl (N + 1) z0 (hcs s2 nd).toArray rfl ?_
  intro w1 e1 b1 z1
  (try simp only [Act.put, nA, nB, nC])
  refine wpList_plain rfl (fun K hK => ?_)
  go_simp
  refine hK _ _ ?_
  clear hK K
  (try simp only [Act.put, nA, nB, nC])
  have HB := Lib.hid (b0.trans (b1.mono (by omega)))
  have F : Hid (EG w1 N s od s2 nd) := ⟨heap_below e0 b1 (by omega), e1⟩
  have HSub := Lib.hid (sub_hv s od hod.out)
  have HSub2 := Lib.hid (sub_hv s2 nd hnd.out)
  clear e0 b0 z0 e1 b1
  have hrw := hr.out.low HB.out (by rw [HN.out]; exact Nat.le_refl _)
  go_upto_region 1 with fail
  refine wp_region_list ?_
  refine wpList_plain rfl (fun K hK => ?_)
  go_simp
  refine hK _ _ ?_
  clear hK K
  (try simp only [Act.put, nA, nB, nC])
  refine wpList_plain rfl (fun K hK => ?_)
  go_simp
  refine hK _ _ ?_
  clear hK K
  (try simp only [Act.put, nA, nB, nC])
  refine wpList_plain rfl (fun K hK => ?_)
  go_simp
  refine (rFits_any n _ t _ N hrw).mono ?_; rintro e w3 ⟨rfl, rfl⟩; rw [HG0.out]
  refine hK _ _ ?_
  clear hK K
  (try simp only [Act.put, nA, nB, nC])
  clear hrw
  refine wpList_plain rfl (fun K hK => ?_)
  go_simp
  refine hK _ _ ?_
  clear hK K
  (try simp only [Act.put, nA, nB, nC])
  refine wpList_plain rfl (fun K hK => ?_)
  go_simp
  refine hK _ _ ?_
  clear hK K
  (try simp only [Act.put, nA, nB, nC])
  cases G
  case false =>
    have HRes : Hid (R = false) := by
      show R = false
      rw [← HR.out]
      have := HG.out
      cases W1 <;> cases F2 <;> first | rfl | (cases this; done) | simp
    have HBf := HB
    refine wpList_step (fun K hK => ?_)
    rw [if_neg (Bool.eq_false_iff.1 (by rfl))]
    refine hK _ _ ?_
    clear hK K
    (try simp only [Act.put, nA, nB, nC])
    refine wpList_step (fun K hK => ?_)
    rw [if_neg (Bool.eq_false_iff.1 (by rfl))]
    refine hK _ _ ?_
    clear hK K
    (try simp only [Act.put, nA, nB, nC])
    refine wpList_step (fun K hK => ?_)
    rw [if_neg (Bool.eq_false_iff.1 (by rfl))]
    refine hK _ _ ?_
    clear hK K
    (try simp only [Act.put, nA, nB, nC])
    refine wpList_step (fun K hK => ?_)
    rw [if_neg (Bool.eq_false_iff.1 (by rfl))]
    refine hK _ _ ?_
    clear hK K
    (try simp only [Act.put, nA, nB, nC])
    refine wpList_step (fun K hK => ?_)
    rw [if_neg (Bool.eq_false_iff.1 (by rfl))]
    refine hK _ _ ?_
    clear hK K
    (try simp only [Act.put, nA, nB, nC])
    refine wpList_step (fun K hK => ?_)
    rw [if_neg (Bool.eq_false_iff.1 (by rfl))]
    refine hK _ _ ?_
    clear hK K
    (try simp only [Act.put, nA, nB, nC])
    refine wpList_step (fun K hK => ?_)
    rw [if_neg (Bool.eq_false_iff.1 (by rfl))]
    refine hK _ _ ?_
    clear hK K
    (try simp only [Act.put, nA, nB, nC])
    refine wpList_step (fun K hK => ?_)
    rw [if_neg (Bool.eq_false_iff.1 (by rfl))]
    refine hK _ _ ?_
    clear hK K
    (try simp only [Act.put, nA, nB, nC])
    refine wpList_plain rfl (fun K hK => ?_)
    go_simp
    refine hK _ _ ?_
    clear hK K
    (try simp only [Act.put, nA, nB, nC])
    refine wpList_plain rfl (fun K hK => ?_)
    go_simp
    refine hK _ _ ?_
    clear hK K
    (try simp only [Act.put, nA, nB, nC])
    refine wpList_step (fun K hK => ?_)
    rw [if_neg (Bool.eq_false_iff.1 (by rfl))]
    refine hK _ _ ?_
    clear hK K
    (try simp only [Act.put, nA, nB, nC])
    refine wpList_step (fun K hK => ?_)
    rw [if_neg (Bool.eq_false_iff.1 (by rfl))]
    refine hK _ _ ?_
    clear hK K
    (try simp only [Act.put, nA, nB, nC])
    refine wpList_step (fun K hK => ?_)
    rw [if_neg (Bool.eq_false_iff.1 (by rfl))]
    refine hK _ _ ?_
    clear hK K
    (try simp only [Act.put, nA, nB, nC])
    refine wpList_plain rfl (fun K hK => ?_)
    go_simp
    refine hK _ _ ?_
    clear hK K
    (try simp only [Act.put, nA, nB, nC])
    refine wpList_plain rfl (fun K hK => ?_)
    go_simp
    refine hK _ _ ?_
    clear hK K
    (try simp only [Act.put, nA, nB, nC])
    refine wpList_step (fun K hK => ?_)
    rw [if_neg (Bool.eq_false_iff.1 (by rfl))]
    refine hK _ _ ?_
    clear hK K
    (try simp only [Act.put, nA, nB, nC])
    refine wpList_step (fun K hK => ?_)
    rw [if_neg (Bool.eq_false_iff.1 (by rfl))]
    refine hK _ _ ?_
    clear hK K
    (try simp only [Act.put, nA, nB, nC])
    refine wpList_step (fun K hK => ?_)
    rw [if_neg (Bool.eq_false_iff.1 (by rfl))]
    refine hK _ _ ?_
    clear hK K
    (try simp only [Act.put, nA, nB, nC])
    refine wpList_step (fun K hK => ?_)
    rw [if_neg (Bool.eq_false_iff.1 (by rfl))]
    refine hK _ _ ?_
    clear hK K
    (try simp only [Act.put, nA, nB, nC])
    refine wpList_step (fun K hK => ?_)
    rw [if_neg (Bool.eq_false_iff.1 (by rfl))]
    refine hK _ _ ?_
    clear hK K
    (try simp only [Act.put, nA, nB, nC])
    refine wpList_plain rfl (fun K hK => ?_)
    go_simp
    refine hK _ _ ?_
    clear hK K
    (try simp only [Act.put, nA, nB, nC])
    clear F HSub HSub2
    go_wp2_with fail
    go_ret
    exact ⟨by rw [HRes.out]; rfl, HBf.out⟩
  case true =>
    obtain ⟨rfl, rfl⟩ : W1 = true ∧ F2 = true := by have := HG.out; revert this; cases W1 <;> cases F2 <;> simp
    refine wpList_step (fun K hK => ?_)
    rw [if_pos (by rfl)]
    go_simp
    refine hK _ _ ?_
    clear hK K
    (try simp only [Act.put, nA, nB, nC])
    refine wpList_step (fun K hK => ?_)
    rw [if_pos (by rfl)]
    go_simp
    refine hK _ _ ?_
    clear hK K
    (try simp only [Act.put, nA, nB, nC])
    refine wpList_loadAtG rfl _ rfl N 1 rfl od hod.out _ _ F.out.bo HSub.out ?_
    (try simp only [Act.put, nA, nB, nC])
    refine wpList_step (fun K hK => ?_)
    rw [if_pos (by rfl)]
    go_simp
    refine hK _ _ ?_
    clear hK K
    (try simp only [Act.put, nA, nB, nC])
    refine wpList_loadAtG rfl _ rfl (N + 1) 1 rfl nd hnd.out _ _ F.out.bn HSub2.out ?_
    (try simp only [Act.put, nA, nB, nC])
    refine wpList_slice2G rfl _ _ rfl od nd hod.out hnd.out rfl rfl (N + 2) z1 ?_
    intro w4 e4 b4 z4
    (try simp only [Act.put, nA, nB, nC])
    have R2 := Lib.hid (row_lit rfl (all2 hod.out hnd.out) e4 (by simp))
    refine wpList_step (fun K hK => ?_)
    rw [if_pos (by rfl)]
    go_simp
    refine (rFits_any n _ [od, nd] _ _ R2).mono ?_; rintro e w5 ⟨rfl, rfl⟩; rw [HW.out, HF1.out]
    refine hK _ _ ?_
    clear hK K
    (try simp only [Act.put, nA, nB, nC])
    have HBf := Lib.hid (HB.out.trans (b4.mono (by omega)))
    have F5 := Lib.hid (F.out.low b4 (by omega))
    clear e4 b4 R2 F HB
    rename Hid (EG _ _ _ _ _ _) => F
    have cs2 := F.out.cs2
    have cs := F.out.cs
    refine wpList_step (fun K hK => ?_)
    rw [if_pos (by rfl)]
    go_simp
    refine hK _ _ ?_
    clear hK K
    (try simp only [Act.put, nA, nB, nC])
    refine wpList_plain rfl (fun K hK => ?_)
    go_simp
    refine hK _ _ ?_
    clear hK K
    (try simp only [Act.put, nA, nB, nC])
    refine wpList_plain rfl (fun K hK => ?_)
    go_simp
    refine hK _ _ ?_
    clear hK K
    (try simp only [Act.put, nA, nB, nC])
    cases F1
    case false =>
      have HRes : Hid (R = false) := HR.out.symm
      clear cs cs2
      refine wpList_step (fun K hK => ?_)
      rw [if_neg (Bool.eq_false_iff.1 (by rfl))]
      refine hK _ _ ?_
      clear hK K
      (try simp only [Act.put, nA, nB, nC])
      refine wpList_step (fun K hK => ?_)
      rw [if_neg (Bool.eq_false_iff.1 (by rfl))]
      refine hK _ _ ?_
      clear hK K
      (try simp only [Act.put, nA, nB, nC])
      refine wpList_step (fun K hK => ?_)
      rw [if_neg (Bool.eq_false_iff.1 (by rfl))]
      refine hK _ _ ?_
      clear hK K
      (try simp only [Act.put, nA, nB, nC])
      refine wpList_plain rfl (fun K hK => ?_)
      go_simp
      refine hK _ _ ?_
      clear hK K
      (try simp only [Act.put, nA, nB, nC])
      refine wpList_plain rfl (fun K hK => ?_)
      go_simp
      refine hK _ _ ?_
      clear hK K
      (try simp only [Act.put, nA, nB, nC])
      refine wpList_step (fun K hK => ?_)
      rw [if_neg (Bool.eq_false_iff.1 (by rfl))]
      refine hK _ _ ?_
      clear hK K
      (try simp only [Act.put, nA, nB, nC])
      refine wpList_step (fun K hK => ?_)
      rw [if_neg (Bool.eq_false_iff.1 (by rfl))]
      refine hK _ _ ?_
      clear hK K
      (try simp only [Act.put, nA, nB, nC])
      refine wpList_step (fun K hK => ?_)
      rw [if_neg (Bool.eq_false_iff.1 (by rfl))]
      refine hK _ _ ?_
      clear hK K
      (try simp only [Act.put, nA, nB, nC])
      refine wpList_step (fun K hK => ?_)
      rw [if_neg (Bool.eq_false_iff.1 (by rfl))]
      refine hK _ _ ?_
      clear hK K
      (try simp only [Act.put, nA, nB, nC])
      refine wpList_step (fun K hK => ?_)
      rw [if_neg (Bool.eq_false_iff.1 (by rfl))]
      refine hK _ _ ?_
      clear hK K
      (try simp only [Act.put, nA, nB, nC])
      refine wpList_plain rfl (fun K hK => ?_)
      go_simp
      refine hK _ _ ?_
      clear hK K
      (try simp only [Act.put, nA, nB, nC])
      clear F HSub HSub2
      go_wp2_with fail
      go_ret
      exact ⟨by rw [HRes.out]; rfl, HBf.out⟩
    case true =>
      by_cases hsm : s2 ≤ 1048576
      case neg =>
        have HRes : Hid (R = false) := by
          show R = false
          rw [← HR.out, decide_eq_false hsm]; rfl
        have d1 : decide (1048576 < s2) = true := decide_eq_true (by omega)
        have d2 : decide ((1048576 : Int) < (s2 : Int)) = true := decide_eq_true (by omega)
        refine wpList_step (fun K hK => ?_)
        rw [if_pos (by rfl)]
        go_simp
        refine hK _ _ ?_
        clear hK K
        (try simp only [Act.put, nA, nB, nC])
        refine wpList_step (fun K hK => ?_)
        rw [if_pos (by rfl)]
        go_simp
        refine hK _ _ ?_
        clear hK K
        (try simp only [Act.put, nA, nB, nC])
        refine wpList_step (fun K hK => ?_)
        rw [if_pos (by rfl)]
        go_simp
        refine hK _ _ ?_
        clear hK K
        (try simp only [Act.put, nA, nB, nC])
        refine wpList_plain rfl (fun K hK => ?_)
        go_simp
        refine hK _ _ ?_
        clear hK K
        (try simp only [Act.put, nA, nB, nC])
        refine wpList_plain rfl (fun K hK => ?_)
        go_simp
        refine hK _ _ ?_
        clear hK K
        (try simp only [Act.put, nA, nB, nC])
        clear d1 d2 cs cs2
        refine wpList_step (fun K hK => ?_)
        rw [if_neg (Bool.eq_false_iff.1 (by rfl))]
        refine hK _ _ ?_
        clear hK K
        (try simp only [Act.put, nA, nB, nC])
        refine wpList_step (fun K hK => ?_)
        rw [if_neg (Bool.eq_false_iff.1 (by rfl))]
        refine hK _ _ ?_
        clear hK K
        (try simp only [Act.put, nA, nB, nC])
        refine wpList_step (fun K hK => ?_)
        rw [if_neg (Bool.eq_false_iff.1 (by rfl))]
        refine hK _ _ ?_
        clear hK K
        (try simp only [Act.put, nA, nB, nC])
        refine wpList_step (fun K hK => ?_)
        rw [if_neg (Bool.eq_false_iff.1 (by rfl))]
        refine hK _ _ ?_
        clear hK K
        (try simp only [Act.put, nA, nB, nC])
        refine wpList_step (fun K hK => ?_)
        rw [if_neg (Bool.eq_false_iff.1 (by rfl))]
        refine hK _ _ ?_
        clear hK K
        (try simp only [Act.put, nA, nB, nC])
        refine wpList_plain rfl (fun K hK => ?_)
        go_simp
        refine hK _ _ ?_
        clear hK K
        (try simp only [Act.put, nA, nB, nC])
        clear F HSub HSub2
        go_wp2_with fail
        go_ret
        exact ⟨by rw [HRes.out]; rfl, HBf.out⟩
      case pos =>
        have d1 : decide (1048576 < s2) = false := decide_eq_false (by omega)
        have d2 : decide ((1048576 : Int) < (s2 : Int)) = false := decide_eq_false (by omega)
        refine wpList_step (fun K hK => ?_)
        rw [if_pos (by rfl)]
        go_simp
        refine hK _ _ ?_
        clear hK K
        (try simp only [Act.put, nA, nB, nC])
        refine wpList_step (fun K hK => ?_)
        rw [if_pos (by rfl)]
        go_simp
        refine hK _ _ ?_
        clear hK K
        (try simp only [Act.put, nA, nB, nC])
        refine wpList_step (fun K hK => ?_)
        rw [if_pos (by rfl)]
        go_simp
        refine hK _ _ ?_
        clear hK K
        (try simp only [Act.put, nA, nB, nC])
        refine wpList_plain rfl (fun K hK => ?_)
        go_simp
        refine hK _ _ ?_
        clear hK K
        (try simp only [Act.put, nA, nB, nC])
        refine wpList_plain rfl (fun K hK => ?_)
        go_simp
        refine hK _ _ ?_
        clear hK K
        (try simp only [Act.put, nA, nB, nC])
        clear d1 d2
        by_cases hss : s ≤ s2
        case neg =>
          have HRes : Hid (R = false) := by
            show R = false
            rw [← HR.out, decide_eq_true hsm, decide_eq_false hss]; rfl
          have d1 : decide (s2 < s) = true := decide_eq_true (by omega)
          have d2 : decide ((s2 : Int) < (s : Int)) = true := decide_eq_true (by omega)
          refine wpList_step (fun K hK => ?_)
          rw [if_pos (by rfl)]
          go_simp
          refine hK _ _ ?_
          clear hK K
          (try simp only [Act.put, nA, nB, nC])
          refine wpList_step (fun K hK => ?_)
          rw [if_pos (by rfl)]
          go_simp
          refine hK _ _ ?_
          clear hK K
          (try simp only [Act.put, nA, nB, nC])
          refine wpList_step (fun K hK => ?_)
          rw [if_pos (by rfl)]
          go_simp
          refine hK _ _ ?_
          clear hK K
          (try simp only [Act.put, nA, nB, nC])
          refine wpList_step (fun K hK => ?_)
          rw [if_pos (by rfl)]
          go_simp
          refine hK _ _ ?_
          clear hK K
          (try simp only [Act.put, nA, nB, nC])
          refine wpList_step (fun K hK => ?_)
          rw [if_pos (by rfl)]
          go_simp
          refine hK _ _ ?_
          clear hK K
          (try simp only [Act.put, nA, nB, nC])
          refine wpList_plain rfl (fun K hK => ?_)
          go_simp
          refine hK _ _ ?_
          clear hK K
          (try simp only [Act.put, nA, nB, nC])
          clear d1 d2 cs cs2 F HSub HSub2
          go_wp2_with fail
          go_ret
          exact ⟨by rw [HRes.out]; rfl, HBf.out⟩
        case pos =>
          have d1 : decide (s2 < s) = false := decide_eq_false (by omega)
          have d2 : decide ((s2 : Int) < (s : Int)) = false := decide_eq_false (by omega)
          refine wpList_step (fun K hK => ?_)
          rw [if_pos (by rfl)]
          go_simp
          refine hK _ _ ?_
          clear hK K
          (try simp only [Act.put, nA, nB, nC])
          refine wpList_step (fun K hK => ?_)
          rw [if_pos (by rfl)]
          go_simp
          refine hK _ _ ?_
          clear hK K
          (try simp only [Act.put, nA, nB, nC])
          refine wpList_step (fun K hK => ?_)
          rw [if_pos (by rfl)]
          go_simp
          refine hK _ _ ?_
          clear hK K
          (try simp only [Act.put, nA, nB, nC])
          refine wpList_step (fun K hK => ?_)
          rw [if_pos (by rfl)]
          go_simp
          refine hK _ _ ?_
          clear hK K
          (try simp only [Act.put, nA, nB, nC])
          refine wpList_step (fun K hK => ?_)
          rw [if_pos (by rfl)]
          go_simp
          refine hK _ _ ?_
          clear hK K
          (try simp only [Act.put, nA, nB, nC])
          refine wpList_plain rfl (fun K hK => ?_)
          go_simp
          refine hK _ _ ?_
          clear hK K
          (try simp only [Act.put, nA, nB, nC])
          clear d1 d2
          obtain ⟨m, rfl⟩ : ∃ m : Nat, n = (m : Int) := ⟨n.toNat, by have := HW.out; simp [wideB] at this; omega⟩
          have hm : m ≤ 32 := by have := HW.out; simp [wideB] at this; omega
          have h1m : 1 ≤ m := by have := HW.out; simp [wideB] at this; omega
          have HR2 : Hid ((if s = s2 then (od == nd) && t.isEmpty else if s = 0 then (od == noneD m) && t.isEmpty else ((twoP m od s s2 t true true).2.2.2 && (twoP m od s s2 t true true).2.2.1.isEmpty && ((twoP m od s s2 t true true).1 == od) && ((twoP m od s s2 t true true).2.1 == nd))) = R) := by
            show _ = R
            rw [← HR.out, decide_eq_true hsm, decide_eq_true hss, Int.toNat_natCast]; rfl
          clear HR
          by_cases heq : s = s2
          case pos =>
            rw [if_pos heq] at HR2
            have q1 : ((s : Int) == (s2 : Int)) = true := by simp; omega
            have q2 : (s == s2) = true := by simp; omega
            go_upto_region 4 with fail
            clear cs cs2 q1 q2
            obtain ⟨Q, hQ⟩ : ∃ x, (od == nd) = x := ⟨_, rfl⟩
            have hqe := eqD od nd hod.out hnd.out
            rw [hQ] at hqe HR2
            clear hQ
            refine wp_region_list ?_
            refine wpList_plain rfl (fun K hK => ?_)
            go_simp
            refine hK _ _ ?_
            clear hK K
            (try simp only [Act.put, nA, nB, nC])
            set_option maxRecDepth 20000 in
            refine wpList_loadAt rfl _ rfl N 1 rfl od hod.out _ _ F.out.bo HSub.out ?_
            (try simp only [Act.put, nA, nB, nC])
            refine wpList_plain rfl (fun K hK => ?_)
            go_simp
            refine hK _ _ ?_
            clear hK K
            (try simp only [Act.put, nA, nB, nC])
            set_option maxRecDepth 20000 in
            refine wpList_loadAt rfl _ rfl (N + 1) 1 rfl nd hnd.out _ _ F.out.bn HSub2.out ?_
            (try simp only [Act.put, nA, nB, nC])
            refine wpList_plain rfl (fun K hK => ?_)
            go_simp
            refine hK _ _ ?_
            clear hK K
            (try simp only [Act.put, nA, nB, nC])
            refine wpList_plain rfl (fun K hK => ?_)
            go_simp
            refine hK _ _ ?_
            clear hK K
            (try simp only [Act.put, nA, nB, nC])
            clear hqe
            cases Q
            case false =>
              have HRes : Hid (R = false) := HR2.out.symm
              refine wpList_step (fun K hK => ?_)
              rw [if_neg (Bool.eq_false_iff.1 (by rfl))]
              refine hK _ _ ?_
              clear hK K
              (try simp only [Act.put, nA, nB, nC])
              refine wpList_step (fun K hK => ?_)
              rw [if_neg (Bool.eq_false_iff.1 (by rfl))]
              refine hK _ _ ?_
              clear hK K
              (try simp only [Act.put, nA, nB, nC])
              refine wpList_step (fun K hK => ?_)
              rw [if_neg (Bool.eq_false_iff.1 (by rfl))]
              refine hK _ _ ?_
              clear hK K
              (try simp only [Act.put, nA, nB, nC])
              refine wpList_plain rfl (fun K hK => ?_)
              go_simp
              refine hK _ _ ?_
              clear hK K
              (try simp only [Act.put, nA, nB, nC])
              refine wpList_plain rfl (fun K hK => ?_)
              go_simp
              refine hK _ _ ?_
              clear hK K
              (try simp only [Act.put, nA, nB, nC])
              clear F HSub HSub2
              go_wp2_with fail
              go_ret
              exact ⟨by rw [HRes.out]; rfl, HBf.out⟩
            case true =>
              have HRes : Hid (R = t.isEmpty) := HR2.out.symm
              refine wpList_step (fun K hK => ?_)
              rw [if_pos (by rfl)]
              go_simp
              refine hK _ _ ?_
              clear hK K
              (try simp only [Act.put, nA, nB, nC])
              refine wpList_step (fun K hK => ?_)
              rw [if_pos (by rfl)]
              go_simp
              refine hK _ _ ?_
              clear hK K
              (try simp only [Act.put, nA, nB, nC])
              refine wpList_step (fun K hK => ?_)
              rw [if_pos (by rfl)]
              go_simp
              refine hK _ _ ?_
              clear hK K
              (try simp only [Act.put, nA, nB, nC])
              refine wpList_plain rfl (fun K hK => ?_)
              go_simp
              refine hK _ _ ?_
              clear hK K
              (try simp only [Act.put, nA, nB, nC])
              refine wpList_plain rfl (fun K hK => ?_)
              go_simp
              refine hK _ _ ?_
              clear hK K
              (try simp only [Act.put, nA, nB, nC])
              clear F HSub HSub2
              go_wp2_with fail
              go_ret
              exact ⟨by rw [HRes.out]; cases t <;> rfl, HBf.out⟩
          case neg =>
            rw [if_neg heq] at HR2
            have q1 : ((s : Int) == (s2 : Int)) = false := by simp; omega
            have q2 : (s == s2) = false := by simp; omega
            by_cases hs0 : s = 0
            case pos =>
              rw [if_pos hs0] at HR2
              have q3 : ((s : Int) == 0) = true := by simp; omega
              have q4 : (s == 0) = true := by simp; omega
              go_upto_region 6 with fail
              clear cs cs2 q1 q2 q3 q4
              have hnl := noneD_length m
              have hrn := ringD_nil m
              obtain ⟨ND, hND⟩ : ∃ x, noneD m = x := ⟨_, rfl⟩
              rw [hND] at hnl hrn HR2
              have HNl := Lib.hid hnl
              have HRn := Lib.hid hrn
              clear hND hnl hrn
              obtain ⟨Q, hQ⟩ : ∃ x, (od == ND) = x := ⟨_, rfl⟩
              have hqe := eqD od ND hod.out HNl.out
              have heg := eqGuardD od ND
              rw [hQ] at hqe HR2
              clear hQ
              refine wp_region_held_drew (S := fun W => HB W N s od) (by kernel_rfl) F.out.bo (fun hHeld => ?_)
              refine' wpAnyH_take (i := 0) (oi := ⟨some 57, .fieldAddr 31 (.tmp 5) 1, 0, "ref.go:197", #[], none⟩) rfl (by kernel_rfl) (by kernel_rfl) (by kernel_rfl) (fun _ _ _ h => h) (Or.inl ⟨by rfl, _⟩) (by assumption) _
              rotate_left
              · (intro wS hSw; (try dsimp only at hSw); go_simp; try with_reducible rfl)
              try simp only [Act.put, nA, nB, nC]
              refine' wpAnyH_take (i := 1) (oi := ⟨some 58, .load 23 (.tmp 57), 23, "ref.go:197", #[⟨0, .data⟩], none⟩) rfl (by kernel_rfl) (by kernel_rfl) (by kernel_rfl) (fun _ _ _ h => h) (yieldsIf_loadAt (by rfl) _ rfl N 1 rfl od hod.out (hcs s od) _ (fun W hW => hW) HSub.out) (by assumption) _
              (try simp only [Act.put, nA, nB, nC])
              refine' wpAnyH_take (i := 2) (oi := ⟨some 59, .move (.tmp 0), 3, "ref.go:197", #[], none⟩) rfl (by kernel_rfl) (by kernel_rfl) (by kernel_rfl) (fun _ _ _ h => h) (Or.inl ⟨by rfl, _⟩) (by assumption) _
              rotate_left
              · (intro wS hSw; (try dsimp only at hSw); go_simp; try with_reducible rfl)
              try simp only [Act.put, nA, nB, nC]
              refine wpAnyH_ready (rs := [3]) (by kernel_rfl) (by simp) ?_
              refine AllReadyH.cons (o := ⟨some 60, .call ⟨.value (.func 54), #[.tmp 59, .const (.slice none 0 0)], #[3, 32]⟩, 23, "ref.go:197", #[⟨2, .data⟩], none⟩) rfl (fun K hK => ?_) AllReadyH.nil
              (go_simp; (go_at_call 54; refine (refRing_any m h1m hm 0 _ [] _ rfl (drow_nil _ _) (by decide)).mono ?_; rintro e w7 ⟨rfl, hb7'⟩; rw [HRn.out]; have hb7 : Below w4.heap.size w4 w7 := Below.trans (Below.refl _ _).drew hb7'; have F7 := F.out.low hb7 (by omega)))
              refine hK.out _ _ ?_ (fun hHeld => ?_)
              · exact F7.bo
              clear hK K
              try simp only [Act.put, nA, nB, nC]
              refine' wpAnyH_take (i := 4) (oi := ⟨some 61, .binOp .eql 23 (.tmp 58) (.tmp 60) 23, 4, "ref.go:197", #[⟨1, .data⟩, ⟨3, .data⟩], none⟩) rfl (by kernel_rfl) (by kernel_rfl) (by kernel_rfl) (fun _ _ _ h => h) (Or.inl ⟨by rfl, _⟩) (by assumption) _
              rotate_left
              · (intro wS hSw; (try dsimp only at hSw); go_simp; try with_reducible rfl)
              try simp only [Act.put, nA, nB, nC]
              refine' wpAnyH_take (i := 5) (oi := ⟨some 62, .move (.tmp 61), 4, "ref.go:197", #[⟨4, .data⟩, ⟨3, .chain⟩], none⟩) rfl (by kernel_rfl) (by kernel_rfl) (by kernel_rfl) (fun _ _ _ h => h) (Or.inl ⟨by rfl, _⟩) (by assumption) _
              rotate_left
              · (intro wS hSw; (try dsimp only at hSw); go_simp; try with_reducible rfl)
              try simp only [Act.put, nA, nB, nC]
              have HB7 := Lib.hid (HBf.out.trans (hb7.mono (by omega)))
              clear hqe heg hb7 hb7' F HBf
              rename Hid (Below N w w7) => HBf
              cases Q
              case false =>
                have HRes : Hid (R = false) := HR2.out.symm
                refine' wpAnyH_take (i := 6) (oi := ⟨some 63, .move (.tmp 3), 32, "ref.go:197", #[⟨5, .guard⟩], some (5, true)⟩) rfl (by kernel_rfl) (by kernel_rfl) (by kernel_rfl) (fun _ _ _ h => h) (Or.inr ⟨by rfl, rfl⟩) (by assumption) _
                try simp only [Act.put, nA, nB, nC]
                refine' wpAnyH_take (i := 7) (oi := ⟨some 64, .call ⟨.builtin .len, #[.tmp 63], #[32]⟩, 3, "ref.go:197", #[⟨6, .data⟩, ⟨5, .guard⟩], some (5, true)⟩) rfl (by kernel_rfl) (by kernel_rfl) (by kernel_rfl) (fun _ _ _ h => h) (Or.inr ⟨by rfl, rfl⟩) (by assumption) _
                try simp only [Act.put, nA, nB, nC]
                refine' wpAnyH_take (i := 8) (oi := ⟨some 65, .binOp .eql 3 (.tmp 64) (.const (.int .i64 0)) 3, 4, "ref.go:197", #[⟨7, .data⟩, ⟨5, .guard⟩], some (5, true)⟩) rfl (by kernel_rfl) (by kernel_rfl) (by kernel_rfl) (fun _ _ _ h => h) (Or.inr ⟨by rfl, rfl⟩) (by assumption) _
                try simp only [Act.put, nA, nB, nC]
                refine' wpAnyH_take (i := 9) (oi := ⟨some 66, .pick (.tmp 62) (.tmp 65) (.const (.bool false)), 4, "ref.go:197", #[⟨5, .data⟩, ⟨8, .data⟩], none⟩) rfl (by kernel_rfl) (by kernel_rfl) (by kernel_rfl) (fun _ _ _ h => h) (Or.inl ⟨by rfl, _⟩) (by assumption) _
                rotate_left
                · (intro wS hSw; (try dsimp only at hSw); go_simp; try with_reducible rfl)
                try simp only [Act.put, nA, nB, nC]
                refine' wpAnyH_take (i := 10) (oi := ⟨some 8, .assign (.tmp 66), 4, "ref.go:197", #[⟨9, .data⟩, ⟨5, .chain⟩, ⟨0, .phase⟩, ⟨1, .phase⟩, ⟨2, .phase⟩, ⟨3, .phase⟩, ⟨4, .phase⟩, ⟨5, .phase⟩, ⟨6, .phase⟩, ⟨7, .phase⟩, ⟨8, .phase⟩, ⟨9, .phase⟩], none⟩) rfl (by kernel_rfl) (by kernel_rfl) (by kernel_rfl) (fun _ _ _ h => h) (Or.inl ⟨by rfl, _⟩) (by assumption) _
                rotate_left
                · (intro wS hSw; (try dsimp only at hSw); go_simp; try with_reducible rfl)
                try simp only [Act.put, nA, nB, nC]
                refine wpAnyH_done (by kernel_rfl) ?_ _
                clear F7 HSub HSub2 hHeld
                go_wp2_with fail
                go_ret
                exact ⟨by rw [HRes.out]; rfl, HBf.out⟩
              case true =>
                have HRes : Hid (R = t.isEmpty) := HR2.out.symm
                refine' wpAnyH_take (i := 6) (oi := ⟨some 63, .move (.tmp 3), 32, "ref.go:197", #[⟨5, .guard⟩], some (5, true)⟩) rfl (by kernel_rfl) (by kernel_rfl) (by kernel_rfl) (fun _ _ _ h => h) (Or.inl ⟨by rfl, _⟩) (by assumption) _
                rotate_left
                · (intro wS hSw; (try dsimp only at hSw); go_simp; try with_reducible rfl)
                try simp only [Act.put, nA, nB, nC]
                refine' wpAnyH_take (i := 7) (oi := ⟨some 64, .call ⟨.builtin .len, #[.tmp 63], #[32]⟩, 3, "ref.go:197", #[⟨6, .data⟩, ⟨5, .guard⟩], some (5, true)⟩) rfl (by kernel_rfl) (by kernel_rfl) (by kernel_rfl) (fun _ _ _ h => h) (Or.inl ⟨by rfl, _⟩) (by assumption) _
                rotate_left
                · (intro wS hSw; (try dsimp only at hSw); go_simp; try with_reducible rfl)
                try simp only [Act.put, nA, nB, nC]
                refine' wpAnyH_take (i := 8) (oi := ⟨some 65, .binOp .eql 3 (.tmp 64) (.const (.int .i64 0)) 3, 4, "ref.go:197", #[⟨7, .data⟩, ⟨5, .guard⟩], some (5, true)⟩) rfl (by kernel_rfl) (by kernel_rfl) (by kernel_rfl) (fun _ _ _ h => h) (Or.inl ⟨by rfl, _⟩) (by assumption) _
                rotate_left
                · (intro wS hSw; (try dsimp only at hSw); go_simp; try with_reducible rfl)
                try simp only [Act.put, nA, nB, nC]
                refine' wpAnyH_take (i := 9) (oi := ⟨some 66, .pick (.tmp 62) (.tmp 65) (.const (.bool false)), 4, "ref.go:197", #[⟨5, .data⟩, ⟨8, .data⟩], none⟩) rfl (by kernel_rfl) (by kernel_rfl) (by kernel_rfl) (fun _ _ _ h => h) (Or.inl ⟨by rfl, _⟩) (by assumption) _
                rotate_left
                · (intro wS hSw; (try dsimp only at hSw); go_simp; try with_reducible rfl)
                try simp only [Act.put, nA, nB, nC]
                refine' wpAnyH_take (i := 10) (oi := ⟨some 8, .assign (.tmp 66), 4, "ref.go:197", #[⟨9, .data⟩, ⟨5, .chain⟩, ⟨0, .phase⟩, ⟨1, .phase⟩, ⟨2, .phase⟩, ⟨3, .phase⟩, ⟨4, .phase⟩, ⟨5, .phase⟩, ⟨6, .phase⟩, ⟨7, .phase⟩, ⟨8, .phase⟩, ⟨9, .phase⟩], none⟩) rfl (by kernel_rfl) (by kernel_rfl) (by kernel_rfl) (fun _ _ _ h => h) (Or.inl ⟨by rfl, _⟩) (by assumption) _
                rotate_left
                · (intro wS hSw; (try dsimp only at hSw); go_simp; try with_reducible rfl)
                try simp only [Act.put, nA, nB, nC]
                refine wpAnyH_done (by kernel_rfl) ?_ _
                clear F7 HSub HSub2 hHeld
                go_wp2_with fail
                go_ret
                exact ⟨by rw [HRes.out]; cases t <;> rfl, HBf.out⟩
            case neg =>
              rw [if_neg hs0, two_same m od od nd s2 s t true (by omega) hss] at HR2
              have q3 : ((s : Int) == 0) = false := by simp; omega
              have q4 : (s == 0) = false := by simp; omega
              obtain ⟨⟨X, Y, xs, ok⟩, htw⟩ : ∃ r, rtwo m od s s2 t true = r := ⟨_, rfl⟩
              have htl := rtwo_shape m od hod.out s2 s t true (by omega) hss hr.out.1
              rw [htw] at htl HR2
              dsimp only at HR2
              have HX : Hid (List.length X = 32) := htl.1
              have HY : Hid (List.length Y = 32) := htl.2.1
              have hrw := hr.out.low HBf.out (by rw [HN.out]; exact Nat.le_refl _)
              have hcc := rTwo_any m h1m hm od hod s2 s _ t true w4 (hrw.mono (by omega)) (by omega) hss hsm
              rw [htw] at hcc
              have HC := Lib.hid hcc
              clear htl htw hrw hcc
              have hws : IntKind.i64.wrap (s : Int) = (s : Int) := IntWalk.i64_in _ (by omega)
              have hws2 : IntKind.i64.wrap (s2 : Int) = (s2 : Int) := IntWalk.i64_in _ (by omega)
              go_upto_region 7 with fail
              clear q1 q2 q3 q4
              refine wp_region_list ?_
              refine wpList_plain rfl (fun K hK => ?_)
              go_simp
              refine hK _ _ ?_
              clear hK K
              (try simp only [Act.put, nA, nB, nC])
              refine wpList_plain rfl (fun K hK => ?_)
              go_simp
              refine hK _ _ ?_
              clear hK K
              (try simp only [Act.put, nA, nB, nC])
              refine wpList_plain rfl (fun K hK => ?_)
              go_simp
              refine hK _ _ ?_
              clear hK K
              (try simp only [Act.put, nA, nB, nC])
              refine wpList_plain rfl (fun K hK => ?_)
              go_simp
              refine hK _ _ ?_
              clear hK K
              (try simp only [Act.put, nA, nB, nC])
              refine wpList_plain rfl (fun K hK => ?_)
              go_simp
              refine hK _ _ ?_
              clear hK K
              (try simp only [Act.put, nA, nB, nC])
              refine wpList_plain rfl (fun K hK => ?_)
              go_simp
              refine hK _ _ ?_
              clear hK K
              (try simp only [Act.put, nA, nB, nC])
              refine wpList_plain rfl (fun K hK => ?_)
              go_simp
              refine hK _ _ ?_
              clear hK K
              (try simp only [Act.put, nA, nB, nC])
              refine wpList_plain rfl (fun K hK => ?_)
              go_simp
              refine hK _ _ ?_
              clear hK K
              (try simp only [Act.put, nA, nB, nC])
              set_option maxRecDepth 20000 in
              refine wpList_loadAt rfl _ rfl N 1 rfl od hod.out _ _ F.out.bo HSub.out ?_
              (try simp only [Act.put, nA, nB, nC])
              refine wpList_plain rfl (fun K hK => ?_)
              go_simp
              refine hK _ _ ?_
              clear hK K
              (try simp only [Act.put, nA, nB, nC])
              refine wpList_plain rfl (fun K hK => ?_)
              go_simp
              refine HC.out.mono ?_; rintro e w5 ⟨sv, rfl, ho, hb⟩; dsimp only
              refine hK _ _ ?_
              clear hK K
              (try simp only [Act.put, nA, nB, nC])
              have z5 := hb.size
              have F5 := Lib.hid (F.out.low hb (by omega))
              have HB5 := Lib.hid (HBf.out.trans (hb.mono (by omega)))
              clear ho hb HC F HBf cs cs2 hws hws2
              obtain ⟨y, hy⟩ : ∃ y, w5.heap.size = y := ⟨_, rfl⟩
              rw [hy] at z5
              refine wpList_plain rfl (fun K hK => ?_)
              go_simp
              refine hK _ _ ?_
              clear hK K
              (try simp only [Act.put, nA, nB, nC])
              refine wpList_plain rfl (fun K hK => ?_)
              go_simp
              refine hK _ _ ?_
              clear hK K
              (try simp only [Act.put, nA, nB, nC])
              refine wpList_plain rfl (fun K hK => ?_)
              go_simp
              refine hK _ _ ?_
              clear hK K
              (try simp only [Act.put, nA, nB, nC])
              refine wpList_plain rfl (fun K hK => ?_)
              go_simp
              refine hK _ _ ?_
              clear hK K
              (try simp only [Act.put, nA, nB, nC])
              refine wpList_plain rfl (fun K hK => ?_)
              go_simp
              refine hK _ _ ?_
              clear hK K
              (try simp only [Act.put, nA, nB, nC])
              refine wpList_allocD rfl rfl y hy ?_
              intro v3 e3 b3 z3
              (try simp only [Act.put, nA, nB, nC])
              refine wpList_allocD rfl rfl (y + 1) z3 ?_
              intro v4 e4 b4 z4b
              (try simp only [Act.put, nA, nB, nC])
              set_option maxRecDepth 20000 in
              refine wpList_storeD rfl _ _ rfl y rfl zeros32 X rfl HX.out rfl (heap_below e3 b4 (by omega)) ?_
              intro v5 e5 b5 k5 z5b
              (try simp only [Act.put, nA, nB, nC])
              set_option maxRecDepth 20000 in
              refine wpList_storeD rfl _ _ rfl (y + 1) rfl zeros32 Y rfl HY.out rfl (k5.heap e4 (by omega)) ?_
              intro v6 e6 b6 k6 z6b
              (try simp only [Act.put, nA, nB, nC])
              have b26 : Below y w5 v6 := ((b3.trans (b4.mono (by omega))).trans b5).trans (b6.mono (by omega))
              have GX := Lib.hid (k6.heap e5 (by omega))
              have GY := Lib.hid e6
              have F6 := Lib.hid (F5.out.low b26 (by omega))
              have HBf := Lib.hid (HB5.out.trans (b26.mono (by omega)))
              clear e3 b3 e4 b4 z4b e5 b5 k5 z5b e6 b6 k6 z6b b26 F5 HB5 z3
              refine wpList_plain rfl (fun K hK => ?_)
              go_simp
              refine hK _ _ ?_
              clear hK K
              (try simp only [Act.put, nA, nB, nC])
              refine wpList_plain rfl (fun K hK => ?_)
              go_simp
              refine hK _ _ ?_
              clear hK K
              (try simp only [Act.put, nA, nB, nC])
              obtain ⟨Q1, hQ1⟩ : ∃ q, (X == od) = q := ⟨_, rfl⟩
              have h1e := eqD X od HX.out hod.out
              rw [hQ1] at h1e HR2
              clear hQ1
              obtain ⟨Q2, hQ2⟩ : ∃ q, (Y == nd) = q := ⟨_, rfl⟩
              have h2e := eqD Y nd HY.out hnd.out
              rw [hQ2] at h2e HR2
              clear hQ2
              go_upto_region 8 with fail
              refine wp_region_list ?_
              refine wpList_plain rfl (fun K hK => ?_)
              go_simp
              refine hK _ _ ?_
              clear hK K
              (try simp only [Act.put, nA, nB, nC])
              refine wpList_plain rfl (fun K hK => ?_)
              go_simp
              refine hK _ _ ?_
              clear hK K
              (try simp only [Act.put, nA, nB, nC])
              cases ok
              case false =>
                have HRes : Hid (R = false) := HR2.out.symm
                refine wpList_step (fun K hK => ?_)
                rw [if_neg (Bool.eq_false_iff.1 (by rfl))]
                refine hK _ _ ?_
                clear hK K
                (try simp only [Act.put, nA, nB, nC])
                refine wpList_step (fun K hK => ?_)
                rw [if_neg (Bool.eq_false_iff.1 (by rfl))]
                refine hK _ _ ?_
                clear hK K
                (try simp only [Act.put, nA, nB, nC])
                refine wpList_step (fun K hK => ?_)
                rw [if_neg (Bool.eq_false_iff.1 (by rfl))]
                refine hK _ _ ?_
                clear hK K
                (try simp only [Act.put, nA, nB, nC])
                refine wpList_step (fun K hK => ?_)
                rw [if_neg (Bool.eq_false_iff.1 (by rfl))]
                refine hK _ _ ?_
                clear hK K
                (try simp only [Act.put, nA, nB, nC])
                refine wpList_plain rfl (fun K hK => ?_)
                go_simp
                refine hK _ _ ?_
                clear hK K
                (try simp only [Act.put, nA, nB, nC])
                refine wpList_plain rfl (fun K hK => ?_)
                go_simp
                refine hK _ _ ?_
                clear hK K
                (try simp only [Act.put, nA, nB, nC])
                refine wpList_step (fun K hK => ?_)
                rw [if_neg (Bool.eq_false_iff.1 (by rfl))]
                refine hK _ _ ?_
                clear hK K
                (try simp only [Act.put, nA, nB, nC])
                refine wpList_step (fun K hK => ?_)
                rw [if_neg (Bool.eq_false_iff.1 (by rfl))]
                refine hK _ _ ?_
                clear hK K
                (try simp only [Act.put, nA, nB, nC])
                refine wpList_step (fun K hK => ?_)
                rw [if_neg (Bool.eq_false_iff.1 (by rfl))]
                refine hK _ _ ?_
                clear hK K
                (try simp only [Act.put, nA, nB, nC])
                refine wpList_step (fun K hK => ?_)
                rw [if_neg (Bool.eq_false_iff.1 (by rfl))]
                refine hK _ _ ?_
                clear hK K
                (try simp only [Act.put, nA, nB, nC])
                refine wpList_plain rfl (fun K hK => ?_)
                go_simp
                refine hK _ _ ?_
                clear hK K
                (try simp only [Act.put, nA, nB, nC])
                refine wpList_plain rfl (fun K hK => ?_)
                go_simp
                refine hK _ _ ?_
                clear hK K
                (try simp only [Act.put, nA, nB, nC])
                clear GX GY F6 HSub HSub2 h1e h2e
                go_wp2_with fail
                go_ret
                exact ⟨by rw [HRes.out]; rfl, HBf.out⟩
              case true =>
                set_option maxRecDepth 20000 in
                refine wpList_loadDg rfl _ rfl y rfl X HX.out GX.out ?_
                (try simp only [Act.put, nA, nB, nC])
                refine wpList_step (fun K hK => ?_)
                rw [if_pos (by rfl)]
                go_simp
                refine hK _ _ ?_
                clear hK K
                (try simp only [Act.put, nA, nB, nC])
                set_option maxRecDepth 20000 in
                refine wpList_loadAtG rfl _ rfl N 1 rfl od hod.out _ _ F6.out.bo HSub.out ?_
                (try simp only [Act.put, nA, nB, nC])
                refine wpList_step (fun K hK => ?_)
                rw [if_pos (by rfl)]
                go_simp
                refine hK _ _ ?_
                clear hK K
                (try simp only [Act.put, nA, nB, nC])
                refine wpList_plain rfl (fun K hK => ?_)
                go_simp
                refine hK _ _ ?_
                clear hK K
                (try simp only [Act.put, nA, nB, nC])
                refine wpList_plain rfl (fun K hK => ?_)
                go_simp
                refine hK _ _ ?_
                clear hK K
                (try simp only [Act.put, nA, nB, nC])
                cases Q1
                case false =>
                  have HRes : Hid (R = false) := HR2.out.symm
                  refine wpList_step (fun K hK => ?_)
                  rw [if_neg (Bool.eq_false_iff.1 (by rfl))]
                  refine hK _ _ ?_
                  clear hK K
                  (try simp only [Act.put, nA, nB, nC])
                  refine wpList_step (fun K hK => ?_)
                  rw [if_neg (Bool.eq_false_iff.1 (by rfl))]
                  refine hK _ _ ?_
                  clear hK K
                  (try simp only [Act.put, nA, nB, nC])
                  refine wpList_step (fun K hK => ?_)
                  rw [if_neg (Bool.eq_false_iff.1 (by rfl))]
                  refine hK _ _ ?_
                  clear hK K
                  (try simp only [Act.put, nA, nB, nC])
                  refine wpList_step (fun K hK => ?_)
                  rw [if_neg (Bool.eq_false_iff.1 (by rfl))]
                  refine hK _ _ ?_
                  clear hK K
                  (try simp only [Act.put, nA, nB, nC])
                  refine wpList_plain rfl (fun K hK => ?_)
                  go_simp
                  refine hK _ _ ?_
                  clear hK K
                  (try simp only [Act.put, nA, nB, nC])
                  refine wpList_plain rfl (fun K hK => ?_)
                  go_simp
                  refine hK _ _ ?_
                  clear hK K
                  (try simp only [Act.put, nA, nB, nC])
                  clear GX GY F6 HSub HSub2 h1e h2e
                  go_wp2_with fail
                  go_ret
                  exact ⟨by rw [HRes.out]; rfl, HBf.out⟩
                case true =>
                  have HRes : Hid (R = Q2) := HR2.out.symm
                  set_option maxRecDepth 20000 in
                  refine wpList_loadDg rfl _ rfl (y + 1) rfl Y HY.out GY.out ?_
                  (try simp only [Act.put, nA, nB, nC])
                  refine wpList_step (fun K hK => ?_)
                  rw [if_pos (by rfl)]
                  go_simp
                  refine hK _ _ ?_
                  clear hK K
                  (try simp only [Act.put, nA, nB, nC])
                  set_option maxRecDepth 20000 in
                  refine wpList_loadAtG rfl _ rfl (N + 1) 1 rfl nd hnd.out _ _ F6.out.bn HSub2.out ?_
                  (try simp only [Act.put, nA, nB, nC])
                  refine wpList_step (fun K hK => ?_)
                  rw [if_pos (by rfl)]
                  go_simp
                  refine hK _ _ ?_
                  clear hK K
                  (try simp only [Act.put, nA, nB, nC])
                  refine wpList_plain rfl (fun K hK => ?_)
                  go_simp
                  refine hK _ _ ?_
                  clear hK K
                  (try simp only [Act.put, nA, nB, nC])
                  refine wpList_plain rfl (fun K hK => ?_)
                  go_simp
                  refine hK _ _ ?_
                  clear hK K
                  (try simp only [Act.put, nA, nB, nC])
                  clear GX GY F6 HSub HSub2 h1e h2e
                  go_wp2_with fail
                  go_ret
                  exact ⟨by rw [HRes.out]; rfl, HBf.out⟩
end Go.Proofs.Ytihbhpggpnmifaa

namespace Go.Proofs.Ytihbhpggpnmifaa
open Go.RowKit Go.Lib Hw
set_option linter.unusedVariables false

set_option maxHeartbeats 4000000 in
theorem RingsExtends_walk (v0 v1 v2 v3 : Value) (w : World) (h0 : IsI64 v0) (h1 : IsHead v1) (h2 : IsHead v2) (h3 : IsDgs w v3) :
    Calls Try.prog 5 #[v0, v1, v2, v3] w fun e w' => e = .returned (.bool true) ∧ Below w.heap.size w w' := by
  obtain ⟨n, rfl, hn1, hn2⟩ := h0
  obtain ⟨s, od, rfl, hs, hod⟩ := h1
  obtain ⟨s2, nd, rfl, hs2, hnd⟩ := h2
  obtain ⟨t, htr, htn, htl⟩ := h3
  have Ho := Lib.hid hod
  have Hn := Lib.hid hnd
  have HT := Lib.hid htr
  have HTn := Lib.hid htn
  have hA : Hid (All32 t) := htr.1
  obtain ⟨_, ad, c, rfl, _⟩ := htr
  clear hod hnd htn
  obtain ⟨N, hN⟩ : ∃ N, w.heap.size = N := ⟨_, rfl⟩
  rw [hN] at HT ⊢
  obtain ⟨R, hR⟩ : ∃ R, extendsB n s od s2 nd t = R := ⟨_, rfl⟩
  have HR := Lib.hid hR
  have HN := Lib.hid hN
  clear hR hN
  go_enter Try.func5, Try.ntmps5
  go_upto_region 0 with fail
  refine wp_region_list ?_
  refine wpList_boxB rfl _ _ rfl N HN.out (hcs s od).toArray rfl ?_
  intro w0 e0 b0 z0
  (try simp only [Act.put, nA, nB, nC])
  refine wpList_boxB rfl _ _ rfl (N + 1) z0 (hcs s2 nd).toArray rfl ?_
  intro w1 e1 b1 z1
  (try simp only [Act.put, nA, nB, nC])
  refine wpList_plain rfl (fun K hK => ?_)
  go_simp
  refine hK _ _ ?_
  clear hK K
  (try simp only [Act.put, nA, nB, nC])
  have HB1 := Lib.hid (b0.trans (b1.mono (by omega)))
  have E1 : Hid (EG w1 N s od s2 nd) := ⟨heap_below e0 b1 (by omega), e1⟩
  have HT1 := Lib.hid ((HT.out.low HB1.out (by rw [HN.out]; exact Nat.le_refl _)).mono (lim' := w1.heap.size) (by omega))
  clear e0 b0 z0 e1 b1
  go_upto_region 1 with fail
  refine wp_region_list ?_
  refine wpList_plain rfl (fun K hK => ?_)
  go_simp
  refine hK _ _ ?_
  clear hK K
  (try simp only [Act.put, nA, nB, nC])
  refine wpList_plain rfl (fun K hK => ?_)
  go_simp
  refine (lentDigests_any _ t w1 _ HT1 HTn.out htl).mono ?_; rintro e w2 ⟨g, cap, rfl, ho, hb⟩
  refine hK _ _ ?_
  clear hK K
  (try simp only [Act.put, nA, nB, nC])
  have hgl := ho.lt g rfl
  have hz2 := hb.size
  rw [z1] at ho hb hgl hz2
  have O2 := Lib.hid ho
  have HB2 := Lib.hid (HB1.out.trans (hb.mono (by omega)))
  have E2 := Lib.hid (E1.out.low hb (by omega))
  clear ho hb E1 HB1 HT1
  refine wpList_plain rfl (fun K hK => ?_)
  go_simp
  refine hK _ _ ?_
  clear hK K
  (try simp only [Act.put, nA, nB, nC])
  go_upto_region 2 with fail
  refine wp_region_list ?_
  refine wpList_plain rfl (fun K hK => ?_)
  go_simp
  refine hK _ _ ?_
  clear hK K
  (try simp only [Act.put, nA, nB, nC])
  refine wpList_loadH rfl _ rfl N rfl s od Ho.out E2.out.bo ?_
  (try simp only [Act.put, nA, nB, nC])
  refine wpList_loadH rfl _ rfl (N + 1) rfl s2 nd Hn.out E2.out.bn ?_
  (try simp only [Act.put, nA, nB, nC])
  refine wpList_plain rfl (fun K hK => ?_)
  go_simp
  refine hK _ _ ?_
  clear hK K
  (try simp only [Act.put, nA, nB, nC])
  refine wpList_plain rfl (fun K hK => ?_)
  go_simp
  refine (Extends_any n s s2 od nd _ t w2 Ho Hn (Lib.hid (O2.out.front hA.out mark7_len htl)) hs hs2).mono ?_; rintro e w3 ⟨rfl, hb⟩; rw [HR.out]
  refine hK _ _ ?_
  clear hK K
  (try simp only [Act.put, nA, nB, nC])
  have hz3 := hb.size
  have O3 := Lib.hid (O2.out.below hb (fun k hk => by have e : g = k := Option.some.inj hk; have := hgl.2; omega))
  have HB3 := Lib.hid (HB2.out.trans (hb.mono (by omega)))
  have E3 := Lib.hid (E2.out.low hb (by omega))
  clear hb O2 HB2 E2
  refine wpList_plain rfl (fun K hK => ?_)
  go_simp
  refine hK _ _ ?_
  clear hK K
  (try simp only [Act.put, nA, nB, nC])
  have HT3 := Lib.hid ((HT.out.low HB3.out (by rw [HN.out]; exact Nat.le_refl _)).mono (lim' := w3.heap.size) (by omega))
  go_upto_region 3 with fail
  refine wp_region_list ?_
  refine wpList_plain rfl (fun K hK => ?_)
  go_simp
  refine hK _ _ ?_
  clear hK K
  (try simp only [Act.put, nA, nB, nC])
  refine wpList_plain rfl (fun K hK => ?_)
  go_simp
  refine hK _ _ ?_
  clear hK K
  (try simp only [Act.put, nA, nB, nC])
  refine wpList_loadH rfl _ rfl N rfl s od Ho.out E3.out.bo ?_
  (try simp only [Act.put, nA, nB, nC])
  refine wpList_loadH rfl _ rfl (N + 1) rfl s2 nd Hn.out E3.out.bn ?_
  (try simp only [Act.put, nA, nB, nC])
  refine wpList_plain rfl (fun K hK => ?_)
  go_simp
  refine hK _ _ ?_
  clear hK K
  (try simp only [Act.put, nA, nB, nC])
  refine wpList_plain rfl (fun K hK => ?_)
  go_simp
  refine (refExtends_any n s s2 od nd _ t w3 Ho Hn HT3 hs hs2).mono ?_; rintro e w4 ⟨rfl, hb⟩; rw [HR.out]
  refine hK _ _ ?_
  clear hK K
  (try simp only [Act.put, nA, nB, nC])
  have hz4 := hb.size
  have O4 := Lib.hid (O3.out.below hb (fun k hk => by have e : g = k := Option.some.inj hk; have := hgl.2; omega))
  have HB4 := Lib.hid (HB3.out.trans (hb.mono (by omega)))
  clear hb O3 HB3 E3 HT3
  have HT4 := Lib.hid (HT.out.low HB4.out (by rw [HN.out]; exact Nat.le_refl _))
  refine wpList_plain rfl (fun K hK => ?_)
  go_simp
  refine hK _ _ ?_
  clear hK K
  (try simp only [Act.put, nA, nB, nC])
  refine wpList_plain rfl (fun K hK => ?_)
  go_simp
  refine hK _ _ ?_
  clear hK K
  (try simp only [Act.put, nA, nB, nC])
  refine wpList_step (fun K hK => ?_)
  rw [if_pos (by rfl)]
  go_simp
  refine hK _ _ ?_
  clear hK K
  (try simp only [Act.put, nA, nB, nC])
  refine wpList_step (fun K hK => ?_)
  rw [if_pos (by rfl)]
  go_simp
  refine hK _ _ ?_
  clear hK K
  (try simp only [Act.put, nA, nB, nC])
  refine wpList_step (fun K hK => ?_)
  rw [if_pos (by rfl)]
  go_simp
  refine (keptDigests_any g cap _ t w4 (N + 2) N O4 HT4 (by omega) (by omega) t.length htl).mono ?_; rintro e w5 ⟨rfl, hb⟩
  refine hK _ _ ?_
  clear hK K
  (try simp only [Act.put, nA, nB, nC])
  have hz5 := hb.size
  have HB5 := Lib.hid (HB4.out.trans (hb.mono (by omega)))
  clear hb O4 HB4 HT4
  refine wpList_plain rfl (fun K hK => ?_)
  go_simp
  refine hK _ _ ?_
  clear hK K
  (try simp only [Act.put, nA, nB, nC])
  refine wpList_plain rfl (fun K hK => ?_)
  go_simp
  refine hK _ _ ?_
  clear hK K
  (try simp only [Act.put, nA, nB, nC])
  refine wpList_step (fun K hK => ?_)
  rw [if_pos (by rfl)]
  go_simp
  refine (lives_any _).mono ?_; rintro e w6 ⟨rfl, hb⟩
  refine hK _ _ ?_
  clear hK K
  (try simp only [Act.put, nA, nB, nC])
  have HB6 := Lib.hid (HB5.out.trans (hb.mono (by omega)))
  clear hb HB5
  refine wpList_plain rfl (fun K hK => ?_)
  go_simp
  refine hK _ _ ?_
  clear hK K
  (try simp only [Act.put, nA, nB, nC])
  refine wpList_plain rfl (fun K hK => ?_)
  go_simp
  refine hK _ _ ?_
  clear hK K
  (try simp only [Act.put, nA, nB, nC])
  go_wp2_with fail
  go_ret
  exact ⟨rfl, HB6.out⟩
end Go.Proofs.Ytihbhpggpnmifaa

