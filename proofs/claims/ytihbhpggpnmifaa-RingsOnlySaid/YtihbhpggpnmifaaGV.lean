/-
  The walk of the document's Of. The document's Two in plain words; its walk.
-/
import Derived.Test.YtihbhpggpnmifaaGU
set_option linter.unusedSimpArgs false
set_option linter.unusedVariables false
namespace Go.Proofs.Ytihbhpggpnmifaa
open Go.RowKit Go.Lib Hw
set_option linter.unusedVariables false

theorem DRow.dropAt {w : World} {lim b o c n : Nat} {xs : List Dg} (h : DRow w lim (.slice (some ⟨b, o, none⟩) n c) xs) (k : Nat) (hk : k ≤ xs.length) : DRow w lim (.slice (some ⟨b, o + k * 32, none⟩) (n - k) (c - k)) (xs.drop k) := by
  obtain ⟨h0, ad', c', e, h1, h2, h3⟩ := h
  simp only [Value.slice.injEq] at e
  obtain ⟨rfl, rfl, rfl⟩ := e
  refine ⟨h0.drop k, _, c - k, by rw [List.length_drop], by rw [List.length_drop]; omega, by omega, fun hp => ?_⟩
  rw [List.length_drop] at hp
  obtain ⟨b', o', e, hb1, hb2, hr⟩ := h3 (by omega)
  simp only [Option.some.injEq, Addr.mk.injEq, and_true] at e
  obtain ⟨rfl, rfl⟩ := e
  refine ⟨b, o + k * 32, rfl, hb1, hb2, fun i hi => ?_⟩
  rw [List.length_drop] at hi
  rw [List.getElem_drop]
  have := hr (k + i) (by omega)
  rw [show o + (k + i) * 32 = o + k * 32 + i * 32 by omega] at this
  exact this
theorem ringD_length (m : Nat) (l : List Dg) (h : All32 l) : (ringD m l).length = 32 := by
  match l, h with
  | [], _ => rw [ringD_nil]; exact noneD_length m
  | [x], h => rw [ringD_one]; exact h x (by simp)
  | x :: y :: r, h => rw [ringD_more m _ (by simp)]; exact knotD_length _ _ _
theorem strRow_nil (w : World) : StrRow w (.slice none 0 0) [] := ⟨none, 0, rfl, fun _ => rfl, fun h => by simp at h⟩
set_option maxHeartbeats 8000000 in
theorem refRing_any (m : Nat) (h1m : 1 ≤ m) (hm : m ≤ 32) : ∀ (n : Nat) (v : Value) (l : List Dg) (w : World), l.length = n → Hid (DRow w w.heap.size v l) → n ≤ 1048576 →
    Calls Try.prog 54 #[.int .i64 (m : Int), v] w (fun e w' => e = .returned (dv (ringD m l)) ∧ Below w.heap.size w w') := by
  intro n
  induction n using Nat.strongRecOn with
  | _ n ih =>
    intro v l w hln hd hn
    have IH := Lib.hid ih
    clear ih
    obtain ⟨R, hR⟩ : ∃ R, ringD m l = R := ⟨_, rfl⟩
    have hRl : Hid (R.length = 32) := by show _ = _; rw [← hR]; exact ringD_length m l hd.out.1
    rw [hR]
    have HR := Lib.hid hR
    clear hR
    have HA : Hid (All32 l) := hd.out.1
    obtain ⟨_, ad, c, rfl, hc1, hc2, hrow⟩ := hd.out
    have HRow := Lib.hid hrow
    clear hrow
    rw [hln] at hd hc1 ⊢
    have HLn := Lib.hid hln
    obtain ⟨N, hN⟩ : ∃ N, w.heap.size = N := ⟨_, rfl⟩
    have HN := Lib.hid hN
    go_enter Try.func54, Try.ntmps54
    go_upto_region 0 with fail
    refine wp_region_list ?_
    refine wpList_allocD rfl rfl N hN ?_
    intro w0 e0 b0 z0
    (try simp only [Act.put, nA, nB, nC])
    have Z0 := Lib.hid e0
    have B0 := Lib.hid b0
    clear e0 b0 hN
    by_cases hn0 : n = 0
    case pos =>
      have hl0 : l = [] := List.eq_nil_of_length_eq_zero (by omega)
      have HR2 : Hid (digL (m : Int) ringsTag [] = R) := by
        show _ = _
        rw [← HR.out, hl0]
        rfl
      have q1 : ((n : Int) == 0) = true := by simp; omega
      have q2 : (n == 0) = true := by simp; omega
      clear hln hl0
      go_upto_region 2 with fail
      refine wp_region_list ?_
      refine wpList_plain rfl (fun K hK => ?_)
      go_simp
      refine hK _ _ ?_
      clear hK K
      (try simp only [Act.put, nA, nB, nC])
      refine wpList_plain rfl (fun K hK => ?_)
      go_simp
      refine (refDigest_wide (m : Int) ringsTag (.slice none 0 0) [] w0 (Lib.hid (strRow_nil w0)) (by decide) (by decide)).mono ?_; rintro e w1 ⟨rfl, hb⟩; rw [HR2.out]
      refine hK _ _ ?_
      clear hK K
      (try simp only [Act.put, nA, nB, nC])
      obtain ⟨E, hE⟩ : ∃ x, digE (m : Int) ringsTag = x := ⟨_, rfl⟩
      rw [hE]
      clear hE
      obtain ⟨P, hP⟩ : ∃ P, w1.heap.size = P := ⟨_, rfl⟩
      have hz := hb.size
      rw [hP] at hz
      have Z1 := Lib.hid (heap_below Z0.out hb (by omega))
      have B1 := Lib.hid (B0.out.trans (hb.mono (by omega)))
      clear hb q1 q2 Z0 B0
      refine wpList_plain rfl (fun K hK => ?_)
      go_simp
      refine hK _ _ ?_
      clear hK K
      (try simp only [Act.put, nA, nB, nC])
      refine wpList_plain rfl (fun K hK => ?_)
      go_simp
      refine hK _ _ ?_
      clear hK K
      (try simp only [Act.put, nA, nB, nC])
      refine wpList_plain rfl (fun K hK => ?_)
      go_simp
      refine hK _ _ ?_
      clear hK K
      (try simp only [Act.put, nA, nB, nC])
      refine wpList_allocD rfl rfl P hP ?_
      intro w2 e2 b2 z2
      (try simp only [Act.put, nA, nB, nC])
      refine wpList_storeD rfl _ _ rfl P rfl zeros32 R rfl hRl.out rfl e2 ?_
      intro w3 e3 b3 k3 z3
      (try simp only [Act.put, nA, nB, nC])
      refine wpList_plain rfl (fun K hK => ?_)
      go_simp
      refine hK _ _ ?_
      clear hK K
      (try simp only [Act.put, nA, nB, nC])
      have b13 : Below P w1 w3 := b2.trans b3
      have Z3 := Lib.hid (heap_below Z1.out b13 (by omega))
      have B3 := Lib.hid (B1.out.trans (b13.mono (by omega)))
      have E3 := Lib.hid e3
      clear e2 b2 z2 e3 b3 k3 z3 b13 Z1 B1
      go_upto_region 3 with fail
      refine wp_region_list ?_
      refine wpList_loadD rfl _ rfl P rfl R hRl.out E3.out ?_
      (try simp only [Act.put, nA, nB, nC])
      refine wpList_storeD rfl _ _ rfl N rfl zeros32 R rfl hRl.out rfl Z3.out ?_
      intro w4 e4 b4 k4 z4
      (try simp only [Act.put, nA, nB, nC])
      have E4 := Lib.hid e4
      have B4 := Lib.hid (B3.out.trans (b4.mono (by omega)))
      clear e4 b4 k4 z4 Z3 B3 E3
      go_wp2_with fail
      refine bodyPost_ret (v := dv R) ?_ rfl ⟨rfl, by rw [HN.out]; exact B4.out⟩
      exact results_cell1 Try.results54 rfl (DB.load E4.out hRl.out)
    case neg =>
      have q1 : ((n : Int) == 0) = false := by simp; omega
      have q2 : (n == 0) = false := by simp; omega
      by_cases hn1 : n = 1
      case pos =>
        obtain ⟨x, hx⟩ : ∃ x, l = [x] := by
          match l, hln with
          | [x], _ => exact ⟨x, rfl⟩
          | [], h => simp at h; omega
          | x :: y :: r, h => simp at h; omega
        have hxR : x = R := by rw [← HR.out, hx, ringD_one]
        have q3 : ((n : Int) == 1) = true := by simp; omega
        have q4 : (n == 1) = true := by simp; omega
        obtain ⟨b, o, hb, _, hbw, hr⟩ := HRow.out (by omega)
        have hr0 := hr 0 (by omega)
        subst hx
        simp only [List.getElem_cons_zero] at hr0
        rw [hxR, Nat.zero_mul, Nat.add_zero] at hr0
        have hr1 := Lib.hid (range_block hr0 (B0.out.block b (by rw [← HN.out]; exact hbw)))
        subst hb
        clear hr hr0 HRow HA hd hln IH HR hxR
        have iq : (0 : Int) < (n : Int) := by omega
        go_upto_region 5 with fail
        refine wp_region_list ?_
        refine wpList_plain rfl (fun K hK => ?_)
        go_simp
        refine hK _ _ ?_
        clear hK K
        (try simp only [Act.put, nA, nB, nC])
        refine wpList_plain rfl (fun K hK => ?_)
        go_simp
        refine hK _ _ ?_
        clear hK K
        (try simp only [Act.put, nA, nB, nC])
        refine wpList_loadRng rfl _ rfl b o (by first | rfl | simp) R hRl.out hr1.out ?_
        (try simp only [Act.put, nA, nB, nC])
        refine wpList_storeD rfl _ _ rfl N rfl zeros32 R rfl hRl.out rfl Z0.out ?_
        intro w4 e4 b4 k4 z4
        (try simp only [Act.put, nA, nB, nC])
        have E4 := Lib.hid e4
        have B4 := Lib.hid (B0.out.trans (b4.mono (by omega)))
        clear e4 b4 k4 z4 Z0 B0 q1 q2 q3 q4
        go_wp2_with fail
        refine bodyPost_ret (v := dv R) ?_ rfl ⟨rfl, by rw [HN.out]; exact B4.out⟩
        exact results_cell1 Try.results54 rfl (DB.load E4.out hRl.out)
      case neg =>
        have q3 : ((n : Int) == 1) = false := by simp; omega
        have q4 : (n == 1) = false := by simp; omega
        have hs := half_spec (n := n) (by omega)
        obtain ⟨k, hk⟩ : ∃ k, halfN n = k := ⟨_, rfl⟩
        rw [hk] at hs
        obtain ⟨hs1, hs2, hs3⟩ := hs
        obtain ⟨X, hX⟩ : ∃ X, ringD m (l.take k) = X := ⟨_, rfl⟩
        obtain ⟨Y, hY⟩ : ∃ Y, ringD m (l.drop k) = Y := ⟨_, rfl⟩
        have HXl : Hid (X.length = 32) := by show _ = _; rw [← hX]; exact ringD_length m _ (HA.out.take k)
        have HYl : Hid (Y.length = 32) := by show _ = _; rw [← hY]; exact ringD_length m _ (HA.out.drop k)
        have HK : Hid (knotD m X Y = R) := by
          show _ = _
          rw [← HR.out, ringD_more m l (by omega), hln, hk, hX, hY]
        obtain ⟨b, o, hb, _, hbw, _⟩ := HRow.out (by omega)
        subst hb
        have hlt : (l.take k).length = k := by rw [List.length_take]; omega
        have hld : (l.drop k).length = n - k := by rw [List.length_drop, hln]
        have HX := Lib.hid hX
        have HY := Lib.hid hY
        have HKn := Lib.hid hk
        have Hlt := Lib.hid hlt
        have Hld := Lib.hid hld
        have D0 := Lib.hid ((hd.out.low (by rw [HN.out]; exact B0.out) (Nat.le_refl _)).mono (lim' := w0.heap.size) B0.out.size)
        have hkl : k ≤ l.length := by omega
        have Hkl := Lib.hid hkl
        clear hX hY hk hlt hld HRow HR hd hln hkl HLn
        go_upto_region 6 with fail
        refine wp_region_list ?_
        refine wpList_plain rfl (fun K hK => ?_)
        go_simp
        refine hK _ _ ?_
        clear hK K
        (try simp only [Act.put, nA, nB, nC])
        refine wpList_plain rfl (fun K hK => ?_)
        go_simp
        refine hK _ _ ?_
        clear hK K
        (try simp only [Act.put, nA, nB, nC])
        refine wpList_plain rfl (fun K hK => ?_)
        go_simp
        refine (refHalf_any n _ (by omega) (by omega)).mono ?_; rintro e w2 ⟨rfl, rfl⟩; rw [HKn.out]
        refine hK _ _ ?_
        clear hK K
        (try simp only [Act.put, nA, nB, nC])
        refine wpList_plain rfl (fun K hK => ?_)
        go_simp
        refine hK _ _ ?_
        clear hK K
        (try simp only [Act.put, nA, nB, nC])
        clear q1 q2 q3 q4
        have ik : (k : Int) ≤ (n : Int) := by omega
        have kc : k ≤ c := by omega
        have kne : ¬ c = k := by omega
        go_upto_region 7 with fail
        refine wp_region_list ?_
        refine wpList_plain rfl (fun K hK => ?_)
        go_simp
        refine hK _ _ ?_
        clear hK K
        (try simp only [Act.put, nA, nB, nC])
        refine wpList_plain rfl (fun K hK => ?_)
        go_simp
        refine hK _ _ ?_
        clear hK K
        (try simp only [Act.put, nA, nB, nC])
        refine wpList_plain rfl (fun K hK => ?_)
        go_simp
        refine hK _ _ ?_
        clear hK K
        (try simp only [Act.put, nA, nB, nC])
        refine wpList_plain rfl (fun K hK => ?_)
        go_simp
        refine hK _ _ ?_
        clear hK K
        (try simp only [Act.put, nA, nB, nC])
        refine wpList_plain rfl (fun K hK => ?_)
        go_simp
        refine (IH.out k hs2 _ (l.take k) w0 Hlt.out (Lib.hid (D0.out.take k Hkl.out)) (by omega)).mono ?_; rintro e w1 ⟨rfl, hb⟩; rw [HX.out]
        refine hK _ _ ?_
        clear hK K
        (try simp only [Act.put, nA, nB, nC])
        obtain ⟨P, hP⟩ : ∃ P, w1.heap.size = P := ⟨_, rfl⟩
        have hz := hb.size
        rw [hP] at hz
        have Z1 := Lib.hid (heap_below Z0.out hb (by omega))
        have B1 := Lib.hid (B0.out.trans (hb.mono (by omega)))
        have D1 := Lib.hid ((D0.out.low hb (Nat.le_refl _)).mono (lim' := w1.heap.size) (by omega))
        clear hb Z0 B0 D0
        refine wpList_allocD rfl rfl P hP ?_
        intro w2 e2 b2 z2
        (try simp only [Act.put, nA, nB, nC])
        refine wpList_storeD rfl _ _ rfl P rfl zeros32 X rfl HXl.out rfl e2 ?_
        intro w3 e3 b3 k3 z3
        (try simp only [Act.put, nA, nB, nC])
        rw [z2] at z3
        have b13 : Below P w1 w3 := b2.trans b3
        have Z3 := Lib.hid (heap_below Z1.out b13 (by omega))
        have B3 := Lib.hid (B1.out.trans (b13.mono (by omega)))
        have D3 := Lib.hid ((D1.out.low (by rw [hP]; exact b13) (Nat.le_refl _)).mono (lim' := w3.heap.size) (by omega))
        have E3 := Lib.hid e3
        clear e2 b2 z2 e3 b3 k3 b13 Z1 B1 D1
        go_upto_region 8 with fail
        refine wp_region_list ?_
        refine wpList_plain rfl (fun K hK => ?_)
        go_simp
        refine hK _ _ ?_
        clear hK K
        (try simp only [Act.put, nA, nB, nC])
        refine wpList_plain rfl (fun K hK => ?_)
        go_simp
        refine hK _ _ ?_
        clear hK K
        (try simp only [Act.put, nA, nB, nC])
        refine wpList_plain rfl (fun K hK => ?_)
        go_simp
        refine hK _ _ ?_
        clear hK K
        (try simp only [Act.put, nA, nB, nC])
        refine wpList_plain rfl (fun K hK => ?_)
        go_simp
        refine hK _ _ ?_
        clear hK K
        (try simp only [Act.put, nA, nB, nC])
        refine wpList_plain rfl (fun K hK => ?_)
        go_simp
        refine (IH.out (n - k) (by omega) _ (l.drop k) w3 Hld.out (Lib.hid (D3.out.dropAt k Hkl.out)) (by omega)).mono ?_; rintro e w4 ⟨rfl, hb⟩; rw [HY.out]
        refine hK _ _ ?_
        clear hK K
        (try simp only [Act.put, nA, nB, nC])
        obtain ⟨P2, hP2⟩ : ∃ P, w4.heap.size = P := ⟨_, rfl⟩
        have hz4 := hb.size
        rw [hP2, z3] at hz4
        have Z4 := Lib.hid (heap_below Z3.out hb (by omega))
        have B4 := Lib.hid (B3.out.trans (hb.mono (by omega)))
        have E4 := Lib.hid (heap_below E3.out hb (by omega))
        clear hb Z3 B3 E3 D3 IH
        refine wpList_allocD rfl rfl P2 hP2 ?_
        intro w5 e5 b5 z5
        (try simp only [Act.put, nA, nB, nC])
        refine wpList_storeD rfl _ _ rfl P2 rfl zeros32 Y rfl HYl.out rfl e5 ?_
        intro w6 e6 b6 k6 z6
        (try simp only [Act.put, nA, nB, nC])
        rw [z5] at z6
        have b46 : Below P2 w4 w6 := b5.trans b6
        have Z6 := Lib.hid (heap_below Z4.out b46 (by omega))
        have X6 := Lib.hid (heap_below E4.out b46 (by omega))
        have B6 := Lib.hid (B4.out.trans (b46.mono (by omega)))
        have Y6 := Lib.hid e6
        clear e5 b5 z5 e6 b6 k6 b46 Z4 B4 E4
        go_upto_region 9 with fail
        refine wp_region_list ?_
        refine wpList_plain rfl (fun K hK => ?_)
        go_simp
        refine hK _ _ ?_
        clear hK K
        (try simp only [Act.put, nA, nB, nC])
        set_option maxRecDepth 20000 in
        refine wpList_loadD rfl _ rfl P rfl X HXl.out X6.out ?_
        (try simp only [Act.put, nA, nB, nC])
        set_option maxRecDepth 20000 in
        refine wpList_loadD rfl _ rfl P2 rfl Y HYl.out Y6.out ?_
        (try simp only [Act.put, nA, nB, nC])
        refine wpList_plain rfl (fun K hK => ?_)
        go_simp
        refine (refKnot_any m X Y w6 h1m hm HXl HYl).mono ?_; rintro e w7 ⟨rfl, hb⟩; rw [HK.out]
        refine hK _ _ ?_
        clear hK K
        (try simp only [Act.put, nA, nB, nC])
        have Z7 := Lib.hid (heap_below Z6.out hb (by omega))
        have B7 := Lib.hid (B6.out.trans (hb.mono (by omega)))
        clear hb Z6 B6 X6 Y6
        set_option maxRecDepth 20000 in
        refine wpList_storeD rfl _ _ rfl N rfl zeros32 R rfl hRl.out rfl Z7.out ?_
        intro w8 e8 b8 k8 z8
        (try simp only [Act.put, nA, nB, nC])
        have E8 := Lib.hid e8
        have B8 := Lib.hid (B7.out.trans (b8.mono (by omega)))
        clear e8 b8 k8 z8 Z7 B7
        go_wp2_with fail
        refine bodyPost_ret (v := dv R) ?_ rfl ⟨rfl, by rw [HN.out]; exact B8.out⟩
        exact results_cell1 Try.results54 rfl (DB.load E8.out hRl.out)
end Go.Proofs.Ytihbhpggpnmifaa

namespace Go.Proofs.Ytihbhpggpnmifaa
open Go.RowKit Go.Lib Hw
set_option linter.unusedVariables false

/-! ### plain -/
def rtwoF (w : Nat) (old : Dg) : Nat → Nat → Nat → List Dg → Bool → Dg × Dg × List Dg × Bool
  | 0, _, _, t, _ => (old, old, [], false)
  | f + 1, m, n, t, whole =>
    if m = n then (if whole then (old, old, [], t.isEmpty) else if t.length = 1 then (t.headD zeros32, t.headD zeros32, [], true) else (old, old, [], false))
    else if t.isEmpty then (old, old, [], false)
    else if m ≤ halfN n then
      let r := rtwoF w old f m (halfN n) t.dropLast whole
      (r.1, knotD w r.2.1 (t.getLastD zeros32), r.2.2.1 ++ [r.2.1 ++ t.getLastD zeros32], r.2.2.2)
    else
      let r := rtwoF w old f (m - halfN n) (n - halfN n) t.dropLast false
      (knotD w (t.getLastD zeros32) r.1, knotD w (t.getLastD zeros32) r.2.1, r.2.2.1 ++ [t.getLastD zeros32 ++ r.1] ++ [t.getLastD zeros32 ++ r.2.1], r.2.2.2)
def rtwo (w : Nat) (old : Dg) (m n : Nat) (t : List Dg) (whole : Bool) : Dg × Dg × List Dg × Bool := rtwoF w old n m n t whole
theorem rtwoF_fuel (w : Nat) (old : Dg) : ∀ (f g m n : Nat) (t : List Dg) (whole : Bool), 1 ≤ m → m ≤ n → n ≤ f → n ≤ g → rtwoF w old f m n t whole = rtwoF w old g m n t whole
  | 0, _, m, n, t, whole, h0, h1, h2, h3 => by omega
  | f + 1, 0, m, n, t, whole, h0, h1, h2, h3 => by omega
  | f + 1, g + 1, m, n, t, whole, h0, h1, h2, h3 => by
    rw [rtwoF, rtwoF]
    by_cases h : m = n
    · rw [if_pos h, if_pos h]
    · have hs := half_spec (n := n) (by omega)
      rw [if_neg h, if_neg h]
      by_cases ht : t.isEmpty = true
      · rw [if_pos ht, if_pos ht]
      · rw [if_neg ht, if_neg ht]
        by_cases hm : m ≤ halfN n
        · rw [if_pos hm, if_pos hm, rtwoF_fuel w old f g m (halfN n) t.dropLast whole h0 hm (by omega) (by omega)]
        · rw [if_neg hm, if_neg hm, rtwoF_fuel w old f g (m - halfN n) (n - halfN n) t.dropLast false (by omega) (by omega) (by omega) (by omega)]
theorem rtwo_same (w : Nat) (old : Dg) (n : Nat) (t : List Dg) (whole : Bool) (h : 1 ≤ n) : rtwo w old n n t whole = (if whole then (old, old, [], t.isEmpty) else if t.length = 1 then (t.headD zeros32, t.headD zeros32, [], true) else (old, old, [], false)) := by
  unfold rtwo
  obtain ⟨x, rfl⟩ : ∃ x, n = x + 1 := ⟨n - 1, by omega⟩
  rw [rtwoF, if_pos rfl]
theorem rtwo_nil (w : Nat) (old : Dg) (m n : Nat) (whole : Bool) (h0 : 1 ≤ m) (h : m < n) : rtwo w old m n [] whole = (old, old, [], false) := by
  unfold rtwo
  obtain ⟨x, rfl⟩ : ∃ x, n = x + 1 := ⟨n - 1, by omega⟩
  rw [rtwoF, if_neg (by omega)]
  rfl
theorem rtwo_left (w : Nat) (old : Dg) (m n : Nat) (t : List Dg) (last : Dg) (whole : Bool) (h0 : 1 ≤ m) (h : m < n) (hm : m ≤ halfN n) :
    rtwo w old m n (t ++ [last]) whole = (let r := rtwo w old m (halfN n) t whole; (r.1, knotD w r.2.1 last, r.2.2.1 ++ [r.2.1 ++ last], r.2.2.2)) := by
  unfold rtwo
  have hs := half_spec (n := n) (by omega)
  obtain ⟨x, rfl⟩ : ∃ x, n = x + 1 := ⟨n - 1, by omega⟩
  rw [rtwoF, if_neg (by omega), if_neg (by simp), if_pos hm, List.dropLast_concat, List.getLastD_concat, rtwoF_fuel w old x (halfN (x + 1)) m (halfN (x + 1)) t whole h0 hm (by omega) (by omega)]
theorem rtwo_right (w : Nat) (old : Dg) (m n : Nat) (t : List Dg) (last : Dg) (whole : Bool) (h0 : 1 ≤ m) (h : m < n) (hm : ¬ m ≤ halfN n) :
    rtwo w old m n (t ++ [last]) whole = (let r := rtwo w old (m - halfN n) (n - halfN n) t false; (knotD w last r.1, knotD w last r.2.1, r.2.2.1 ++ [last ++ r.1] ++ [last ++ r.2.1], r.2.2.2)) := by
  unfold rtwo
  have hs := half_spec (n := n) (by omega)
  obtain ⟨x, rfl⟩ : ∃ x, n = x + 1 := ⟨n - 1, by omega⟩
  rw [rtwoF, if_neg (by omega), if_neg (by simp), if_neg hm, List.dropLast_concat, List.getLastD_concat, rtwoF_fuel w old x (x + 1 - halfN (x + 1)) (m - halfN (x + 1)) (x + 1 - halfN (x + 1)) t false (by omega) (by omega) (by omega) (by omega)]
theorem rtwo_shape (w : Nat) (old : Dg) (hl : old.length = 32) : ∀ (n m : Nat) (t : List Dg) (whole : Bool), 1 ≤ m → m ≤ n → All32 t → (rtwo w old m n t whole).1.length = 32 ∧ (rtwo w old m n t whole).2.1.length = 32 ∧ All64 (rtwo w old m n t whole).2.2.1 ∧ (rtwo w old m n t whole).2.2.1.length ≤ 2 * n := by
  intro n
  induction n using Nat.strongRecOn with
  | _ n ih =>
    intro m t whole h0 hmn ht
    by_cases h : m = n
    · subst h
      rw [rtwo_same w old m t whole h0]
      cases whole
      · simp only [Bool.false_eq_true, if_false]
        by_cases h1 : t.length = 1
        · rw [if_pos h1]
          match t, h1, ht with
          | [x], _, ht => exact ⟨ht x (by simp), ht x (by simp), All64.nil, Nat.zero_le _⟩
        · rw [if_neg h1]; exact ⟨hl, hl, All64.nil, Nat.zero_le _⟩
      · exact ⟨hl, hl, All64.nil, Nat.zero_le _⟩
    · have hs := half_spec (n := n) (by omega)
      rcases List.eq_nil_or_concat t with rfl | ⟨r, last, rfl⟩
      · rw [rtwo_nil w old m n whole h0 (by omega)]
        exact ⟨hl, hl, All64.nil, Nat.zero_le _⟩
      · rw [List.concat_eq_append] at ht ⊢
        have hr : All32 r := fun d hd => ht d (List.mem_append_left _ hd)
        have hla : last.length = 32 := ht last (by simp)
        by_cases hm : m ≤ halfN n
        · rw [rtwo_left w old m n r last whole h0 (by omega) hm]
          obtain ⟨h1, h2, h3, h4⟩ := ih (halfN n) (by omega) m r whole h0 hm hr
          refine ⟨h1, knotD_length _ _ _, h3.snoc (by rw [List.length_append, h2, hla]), ?_⟩
          simp only [List.length_append, List.length_singleton]
          omega
        · rw [rtwo_right w old m n r last whole h0 (by omega) hm]
          obtain ⟨h1, h2, h3, h4⟩ := ih (n - halfN n) (by omega) (m - halfN n) r false (by omega) (by omega) hr
          refine ⟨knotD_length _ _ _, knotD_length _ _ _, (h3.snoc (by rw [List.length_append, h1, hla])).snoc (by rw [List.length_append, h2, hla]), ?_⟩
          simp only [List.length_append, List.length_singleton]
          omega
theorem results_DDTT {fn : Func} {tmps : Array Value} {a b c d : Nat} {p q : Nat} {l m : List UInt8} {u e : Value} {w : World} (hr : fn.results = #[.cell a 23, .cell b 23, .tmp c, .tmp d]) (ha : tmps.getD a undef = .pointer (some ⟨p, 0, none⟩)) (hb : tmps.getD b undef = .pointer (some ⟨q, 0, none⟩)) (hc : tmps.getD c undef = u) (hd' : tmps.getD d undef = e) (hl : l.length = 32) (hm : m.length = 32) (hd : DB w p l) (hd2 : DB w q m) :
    (results fn tmps).run Try.prog w = .ok (.tuple #[dv l, dv m, u, e]) w := by
  have h1 := hd.load hl
  have h2 := hd2.load hm
  unfold results
  rw [hr]
  have ha' : tmps[a]?.getD undef = .pointer (some ⟨p, 0, none⟩) := by rw [← ha]; simp
  have hb' : tmps[b]?.getD undef = .pointer (some ⟨q, 0, none⟩) := by rw [← hb]; simp
  have hc' : tmps[c]?.getD undef = u := by rw [← hc]; simp
  have hd'' : tmps[d]?.getD undef = e := by rw [← hd']; simp
  simp [ha', hb', hc', hd'', h1, h2, asAddr, dv]
/-- what the document's Two holds ahead of its last region -/
structure RG (w : World) (N : Nat) (W : World) (PA PB : Nat) (A B LA : Dg) (sv : Value) (xs : List Dg) : Prop where
  z1 : DB W (N + 1) zeros32
  z2 : DB W (N + 2) zeros32
  la : DB W (N + 3) LA
  a : DB W PA A
  b : DB W PB B
  own : OwnQ W (N + 4) sv xs
  hb : Below N w W
  hPA : N + 4 ≤ PA
  hPB : N + 4 ≤ PB
  ne : ∀ g, sv.ownBlock = some g → g ≠ PA ∧ g ≠ PB
theorem RG.below {w : World} {N : Nat} {W W' : World} {PA PB : Nat} {A B LA : Dg} {sv : Value} {xs : List Dg} (h : RG w N W PA PB A B LA sv xs) (hb : Below W.heap.size W W') : RG w N W' PA PB A B LA sv xs := by
  have hp := heap_lt h.a
  have h1 := h.hPA
  exact ⟨heap_below h.z1 hb (by omega), heap_below h.z2 hb (by omega), heap_below h.la hb (by omega), heap_below h.a hb hp, heap_below h.b hb (heap_lt h.b), h.own.below hb (fun g hg => (h.own.lt g hg).2), h.hb.trans (hb.mono (by omega)), h.hPA, h.hPB, h.ne⟩
theorem RG.app {w : World} {N : Nat} {W W' : World} {PA PB : Nat} {A B LA : Dg} {sv sv' : Value} {xs xs' : List Dg} (h : RG w N W PA PB A B LA sv xs) (hg : W.grownBy W' sv.ownBlock) (ho : OwnQ W' (N + 4) sv' xs') (hs : ∀ g, sv'.ownBlock = some g → sv.ownBlock = some g ∨ g = W.heap.size) : RG w N W' PA PB A B LA sv' xs' := by
  have hp := heap_lt h.a
  have hp2 := heap_lt h.b
  have h1 := h.hPA
  have hk : ∀ k o, W.heap[k]? = some o → sv.ownBlock ≠ some k → W'.heap[k]? = some o := fun k o hk hn => heap_grown hk hg (fun e => hn e.symm)
  have lo : ∀ k, k < N + 4 → sv.ownBlock ≠ some k := fun k hk e => by have := (h.own.lt _ e).1; omega
  refine ⟨hk _ _ h.z1 (lo _ (by omega)), hk _ _ h.z2 (lo _ (by omega)), hk _ _ h.la (lo _ (by omega)), hk _ _ h.a (fun e => (h.ne _ e).1 rfl), hk _ _ h.b (fun e => (h.ne _ e).2 rfl), ho, h.hb.grown hg (by omega) (fun g e => by have := (h.own.lt g e).1; omega), h.hPA, h.hPB, fun g hg' => ?_⟩
  rcases hs g hg' with e | e
  · exact h.ne g e
  · omega
def RTres (w : World) (r : Dg × Dg × List Dg × Bool) (e : Ending) (w' : World) : Prop :=
  ∃ sv, e = .returned (.tuple #[dv r.1, dv r.2.1, sv, .bool r.2.2.2]) ∧ OwnQ w' w.heap.size sv r.2.2.1 ∧ Below w.heap.size w w'
set_option maxHeartbeats 16000000 in
theorem rTwo_any (w0m : Nat) (h1m : 1 ≤ w0m) (hm : w0m ≤ 32) (old : Dg) (hl : Hid (old.length = 32)) : ∀ (n m : Nat) (v : Value) (t : List Dg) (whole : Bool) (w : World), Hid (DRow w w.heap.size v t) → 1 ≤ m → m ≤ n → n ≤ 1048576 →
    Calls Try.prog 30 #[.int .i64 (w0m : Int), .int .i64 (m : Int), .int .i64 (n : Int), dv old, v, .bool whole] w (RTres w (rtwo w0m old m n t whole)) := by
  intro n
  induction n using Nat.strongRecOn with
  | _ n ih =>
    intro m v t whole w hd hm1 hmn hn
    have IH := Lib.hid ih
    clear ih
    obtain ⟨R, hR⟩ : ∃ R, rtwo w0m old m n t whole = R := ⟨_, rfl⟩
    rw [hR]
    have HR := Lib.hid hR
    clear hR
    obtain ⟨hA, ad, c, rfl, hc1, hc2, hrow⟩ := hd.out
    have HA := Lib.hid hA
    have HRow := Lib.hid hrow
    clear hA hrow
    obtain ⟨N, hN⟩ : ∃ N, w.heap.size = N := ⟨_, rfl⟩
    have HN := Lib.hid hN
    obtain ⟨T, hT⟩ : ∃ T, t.length = T := ⟨_, rfl⟩
    rw [hT] at hd hc1 ⊢
    have HT := Lib.hid hT
    clear hT
    go_enter Try.func30, Try.ntmps30
    go_upto_region 0 with fail
    refine wp_region_list ?_
    refine wpList_boxD rfl _ rfl old rfl N hN ?_
    intro w0 e0 b0 z0
    (try simp only [Act.put, nA, nB, nC])
    refine wpList_allocD rfl rfl (N + 1) z0 ?_
    intro w1 e1 b1 z1
    (try simp only [Act.put, nA, nB, nC])
    refine wpList_allocD rfl rfl (N + 2) z1 ?_
    intro w2 e2 b2 z2
    (try simp only [Act.put, nA, nB, nC])
    refine wpList_plain rfl (fun K hK => ?_)
    go_simp
    refine hK _ _ ?_
    clear hK K
    (try simp only [Act.put, nA, nB, nC])
    refine wpList_plain rfl (fun K hK => ?_)
    go_simp
    refine hK _ _ ?_
    clear hK K
    (try simp only [Act.put, nA, nB, nC])
    have L2 := Lib.hid (heap_below (heap_below e0 b1 (by omega)) b2 (by omega))
    have Z1 := Lib.hid (heap_below e1 b2 (by omega))
    have Z2 := Lib.hid e2
    have B2 := Lib.hid ((b0.trans (b1.mono (by omega))).trans (b2.mono (by omega)))
    clear e0 b0 z0 e1 b1 z1 e2 b2 hN
    by_cases hmn2 : m = n
    case pos =>
      subst hmn2
      have q1 : ((m : Int) == (m : Int)) = true := by simp
      have HR1 : Hid ((if whole then (old, old, [], t.isEmpty) else if t.length = 1 then (t.headD zeros32, t.headD zeros32, [], true) else (old, old, [], false)) = R) := by
        show _ = _
        rw [← HR.out, rtwo_same w0m old m t whole hm1]
      clear HR
      cases whole
      case true =>
        obtain ⟨E, hE⟩ : ∃ E, t.isEmpty = E := ⟨_, rfl⟩
        have HR2 : Hid (R = (old, old, [], E)) := by
          show _ = _
          rw [← HR1.out, hE]
          rfl
        have el : ((T : Int) == 0) = E := by rw [← HT.out, ← hE]; cases t <;> simp <;> omega
        have el2 : (T == 0) = E := by rw [← HT.out, ← hE]; cases t <;> simp
        clear hE HR1
        go_upto_region 3 with fail
        refine wp_region_held_drew (S := fun W => DB W N old) (by kernel_rfl) L2.out (fun hHeld => ?_)
        refine' wpAnyH_take (i := 0) (oi := ⟨some 31, .load 23 (.tmp 9), 23, "ref.go:166", #[], none⟩) rfl (by kernel_rfl) (by kernel_rfl) (by kernel_rfl) (fun _ _ _ h => h) (yieldsIf_loadD (by rfl) _ rfl (N) rfl (old) (hl.out) (fun W hW => hW)) (by assumption) _
        try simp only [Act.put, nA, nB, nC]
        refine' wpAnyH_take (i := 1) (oi := { dst := Option.some 32, op := Op.load 23 (Operand.tmp 9), type := 23, pos := "ref.go:166", after := #[{ on := 5, ground := Ground.gcOnly Departure.lateStores }], guard := Option.none }) rfl (by kernel_rfl) (by kernel_rfl) (by kernel_rfl) (fun _ _ _ h => h) (yieldsIf_loadD (by rfl) _ rfl (N) rfl (old) (hl.out) (fun W hW => hW)) (by assumption) _
        try simp only [Act.put, nA, nB, nC]
        refine' wpAnyH_take (i := 2) (oi := ⟨some 33, .move (.tmp 4), 32, "ref.go:166", #[], none⟩) rfl (by kernel_rfl) (by kernel_rfl) (by kernel_rfl) (fun _ _ _ h => h) (Or.inl ⟨by rfl, _⟩) (by assumption) _
        rotate_left
        · (intro wS hSw; (try dsimp only at hSw); go_simp; try with_reducible rfl)
        try simp only [Act.put, nA, nB, nC]
        refine' wpAnyH_take (i := 3) (oi := ⟨some 34, .call ⟨.builtin .len, #[.tmp 33], #[32]⟩, 3, "ref.go:166", #[⟨2, .data⟩], none⟩) rfl (by kernel_rfl) (by kernel_rfl) (by kernel_rfl) (fun _ _ _ h => h) (Or.inl ⟨by rfl, _⟩) (by assumption) _
        rotate_left
        · (intro wS hSw; (try dsimp only at hSw); go_simp; try with_reducible rfl)
        try simp only [Act.put, nA, nB, nC]
        refine' wpAnyH_take (i := 4) (oi := { dst := Option.some 35, op := Op.binOp BinOp.eql 3 (Operand.tmp 34) (Operand.const (Value.int IntKind.i64 0)) 3, type := 4, pos := "ref.go:166", after := #[{ on := 3, ground := Ground.data }, { on := 7, ground := Ground.gcOnly Departure.lateStores }], guard := Option.none }) rfl (by kernel_rfl) (by kernel_rfl) (by kernel_rfl) (fun _ _ _ h => h) (Or.inl ⟨by rfl, _⟩) (by assumption) _
        rotate_left
        · (intro wS hSw; (try dsimp only at hSw); go_simp; try with_reducible rfl)
        try simp only [Act.put, nA, nB, nC]
        refine wpAnyH_ready (rs := [5]) (by kernel_rfl) (by simp) ?_
        refine (AllReadyH.cons (o := { dst := Option.none, op := Op.store 23 (Operand.tmp 12) (Operand.tmp 31), type := 0, pos := "ref.go:166", after := #[{ on := 0, ground := Ground.data }, { on := 0, ground := Ground.phase }, { on := 1, ground := Ground.textOnly Departure.lateStores }, { on := 2, ground := Ground.textOnly Departure.lateStores }, { on := 3, ground := Ground.textOnly Departure.lateStoresUnsure }, { on := 4, ground := Ground.textOnly Departure.lateStores }], guard := Option.none }) rfl (fun K hK => ?_) AllReadyH.nil)
        set_option maxRecDepth 20000 in
        refine step_of rfl (wp_storeD _ _ rfl (N + 1) rfl zeros32 old rfl hl.out rfl Z1.out ?_)
        intro wa ea ba ka za
        have EA := Lib.hid ea
        have BA : Hid (Below N w wa) := B2.out.drew.trans (ba.mono (by omega))
        have ZA := Lib.hid (ka.heap Z2.out (by omega))
        refine hK.out _ _ ?_ (fun hHeld => ?_)
        · exact ka.heap L2.out (by omega)
        clear hK K ea ba ka za
        (try simp only [Act.put, nA, nB, nC])
        refine wpAnyH_ready (rs := [6]) (by kernel_rfl) (by simp) ?_
        refine (AllReadyH.cons (o := { dst := Option.none, op := Op.store 23 (Operand.tmp 13) (Operand.tmp 32), type := 0, pos := "ref.go:166", after := #[{ on := 1, ground := Ground.data }, { on := 5, ground := Ground.chain }, { on := 0, ground := Ground.phase }, { on := 1, ground := Ground.phase }, { on := 2, ground := Ground.textOnly Departure.lateStores }, { on := 3, ground := Ground.textOnly Departure.lateStoresUnsure }, { on := 4, ground := Ground.textOnly Departure.lateStores }, { on := 5, ground := Ground.phase }], guard := Option.none }) rfl (fun K hK => ?_) AllReadyH.nil)
        set_option maxRecDepth 20000 in
        refine step_of rfl (wp_storeD _ _ rfl (N + 2) rfl zeros32 old rfl hl.out rfl ZA.out ?_)
        intro wb eb bb kb zb
        have EB := Lib.hid eb
        have EA2 := Lib.hid (kb.heap EA.out (by omega))
        have BB : Hid (Below N w wb) := BA.out.trans (bb.mono (by omega))
        refine hK.out _ _ ?_ (fun hHeld => ?_)
        · exact kb.heap hHeld (by omega)
        clear hK K eb bb kb zb ZA BA EA
        (try simp only [Act.put, nA, nB, nC])
        refine' wpAnyH_take (i := 7) (oi := { dst := Option.some 14, op := Op.assign (Operand.const (Value.slice Option.none 0 0)), type := 51, pos := "ref.go:166", after := #[{ on := 6, ground := Ground.chain }, { on := 0, ground := Ground.phase }, { on := 1, ground := Ground.phase }, { on := 2, ground := Ground.textOnly Departure.lateStores }, { on := 3, ground := Ground.textOnly Departure.lateStoresUnsure }, { on := 4, ground := Ground.textOnly Departure.lateStores }, { on := 5, ground := Ground.phase }, { on := 6, ground := Ground.phase }], guard := Option.none }) rfl (by kernel_rfl) (by kernel_rfl) (by kernel_rfl) (fun _ _ _ h => h) (Or.inl ⟨by rfl, _⟩) (by assumption) _
        rotate_left
        · (intro wS hSw; (try dsimp only at hSw); go_simp; try with_reducible rfl)
        try simp only [Act.put, nA, nB, nC]
        refine' wpAnyH_take (i := 8) (oi := ⟨some 15, .assign (.tmp 35), 4, "ref.go:166", #[⟨4, .data⟩, ⟨7, .chain⟩, ⟨0, .phase⟩, ⟨1, .phase⟩, ⟨2, .phase⟩, ⟨3, .phase⟩, ⟨4, .phase⟩, ⟨5, .phase⟩, ⟨6, .phase⟩, ⟨7, .phase⟩], none⟩) rfl (by kernel_rfl) (by kernel_rfl) (by kernel_rfl) (fun _ _ _ h => h) (Or.inl ⟨by rfl, _⟩) (by assumption) _
        rotate_left
        · (intro wS hSw; (try dsimp only at hSw); go_simp; try with_reducible rfl)
        try simp only [Act.put, nA, nB, nC]
        refine wpAnyH_done (by kernel_rfl) ?_ _
        clear hHeld q1 el el2
        go_wp2_with fail
        rw [HR2.out]
        refine bodyPost_ret (v := .tuple #[dv old, dv old, .slice none 0 0, .bool E]) ?_ rfl ⟨_, rfl, OwnQ.nil _ _, by rw [HN.out]; exact BB.out⟩
        exact results_DDTT Try.results30 rfl rfl rfl rfl hl.out hl.out EA2.out EB.out
      case false =>
        by_cases hT1 : T = 1
        case pos =>
          obtain ⟨x, hx⟩ : ∃ x, t = [x] := by
            have h9 := HT.out
            match t, h9 with
            | [x], _ => exact ⟨x, rfl⟩
            | [], h => simp at h; omega
            | x :: y :: r, h => simp at h; omega
          have HR2 : Hid (R = (x, x, [], true)) := by
            show _ = _
            rw [← HR1.out, hx]
            rfl
          have q3 : ((T : Int) != 1) = false := by simp; omega
          have q4 : (T != 1) = false := by simp; omega
          obtain ⟨b, o, hb, _, hbw, hr⟩ := HRow.out (by rw [HT.out]; omega)
          have hr0 := hr 0 (by rw [HT.out]; omega)
          subst hx
          simp only [List.getElem_cons_zero] at hr0
          rw [Nat.zero_mul, Nat.add_zero] at hr0
          have HX : Hid (x.length = 32) := HA.out x (by simp)
          have hr1 := Lib.hid (range_block hr0 (B2.out.block b (by rw [← HN.out]; exact hbw)))
          subst hb
          have hbN : b < N := by rw [← HN.out]; exact hbw
          clear hr hr0 HRow HA hd IH HR1 hbw
          have iq : (0 : Int) < (T : Int) := by omega
          go_upto_region 6 with fail
          refine wp_region_held_drew (S := fun W => W.rangeAt b o (x.map bv)) (by kernel_rfl) hr1.out (fun hHeld => ?_)
          refine' wpAnyH_take (i := 0) (oi := ⟨some 41, .move (.tmp 4), 32, "ref.go:171", #[], none⟩) rfl (by kernel_rfl) (by kernel_rfl) (by kernel_rfl) (fun _ _ _ h => h) (Or.inl ⟨by rfl, _⟩) (by assumption) _
          rotate_left
          · (intro wS hSw; (try dsimp only at hSw); go_simp; try with_reducible rfl)
          try simp only [Act.put, nA, nB, nC]
          refine' wpAnyH_take (i := 1) (oi := ⟨some 42, .indexAddr 32 (.tmp 41) (.const (.int .i64 0)), 0, "ref.go:171", #[⟨0, .data⟩], none⟩) rfl (by kernel_rfl) (by kernel_rfl) (by kernel_rfl) (fun _ _ _ h => h) (Or.inl ⟨by rfl, _⟩) (by assumption) _
          rotate_left
          · (intro wS hSw; (try dsimp only at hSw); go_simp; try with_reducible rfl)
          try simp only [Act.put, nA, nB, nC]
          refine' wpAnyH_take (i := 2) (oi := ⟨some 43, .load 23 (.tmp 42), 23, "ref.go:171", #[⟨1, .data⟩], none⟩) rfl (by kernel_rfl) (by kernel_rfl) (by kernel_rfl) (fun _ _ _ h => h) (yieldsIf_loadRng (by rfl) _ rfl b o (by first | rfl | simp) x HX.out (fun W hW => hW)) (by assumption) _
          (try simp only [Act.put, nA, nB, nC])
          refine' wpAnyH_take (i := 3) (oi := { dst := Option.some 44, op := Op.move (Operand.tmp 4), type := 32, pos := "ref.go:171", after := #[{ on := 6, ground := Ground.gcOnly Departure.lateStores }], guard := Option.none }) rfl (by kernel_rfl) (by kernel_rfl) (by kernel_rfl) (fun _ _ _ h => h) (Or.inl ⟨by rfl, _⟩) (by assumption) _
          rotate_left
          · (intro wS hSw; (try dsimp only at hSw); go_simp; try with_reducible rfl)
          try simp only [Act.put, nA, nB, nC]
          refine' wpAnyH_take (i := 4) (oi := { dst := Option.some 45, op := Op.indexAddr 32 (Operand.tmp 44) (Operand.const (Value.int IntKind.i64 0)), type := 0, pos := "ref.go:171", after := #[{ on := 3, ground := Ground.data }, { on := 6, ground := Ground.gcOnly Departure.lateStores }], guard := Option.none }) rfl (by kernel_rfl) (by kernel_rfl) (by kernel_rfl) (fun _ _ _ h => h) (Or.inl ⟨by rfl, _⟩) (by assumption) _
          rotate_left
          · (intro wS hSw; (try dsimp only at hSw); go_simp; try with_reducible rfl)
          try simp only [Act.put, nA, nB, nC]
          refine' wpAnyH_take (i := 5) (oi := { dst := Option.some 46, op := Op.load 23 (Operand.tmp 45), type := 23, pos := "ref.go:171", after := #[{ on := 4, ground := Ground.data }, { on := 6, ground := Ground.gcOnly Departure.lateStores }], guard := Option.none }) rfl (by kernel_rfl) (by kernel_rfl) (by kernel_rfl) (fun _ _ _ h => h) (yieldsIf_loadRng (by rfl) _ rfl b o (by first | rfl | simp) x HX.out (fun W hW => hW)) (by assumption) _
          (try simp only [Act.put, nA, nB, nC])
          refine wpAnyH_ready (rs := [6]) (by kernel_rfl) (by simp) ?_
          refine (AllReadyH.cons (o := { dst := Option.none, op := Op.store 23 (Operand.tmp 12) (Operand.tmp 43), type := 0, pos := "ref.go:171", after := #[{ on := 2, ground := Ground.data }, { on := 0, ground := Ground.phase }, { on := 1, ground := Ground.phase }, { on := 2, ground := Ground.phase }, { on := 3, ground := Ground.textOnly Departure.lateStores }, { on := 4, ground := Ground.textOnly Departure.lateStores }, { on := 5, ground := Ground.textOnly Departure.lateStores }], guard := Option.none }) rfl (fun K hK => ?_) AllReadyH.nil)
          set_option maxRecDepth 20000 in
          refine step_of rfl (wp_storeD _ _ rfl (N + 1) rfl zeros32 x rfl HX.out rfl Z1.out ?_)
          intro wa ea ba ka za
          have EA := Lib.hid ea
          have BA : Hid (Below N w wa) := B2.out.drew.trans (ba.mono (by omega))
          have ZA := Lib.hid (ka.heap Z2.out (by omega))
          refine hK.out _ _ ?_ (fun hHeld => ?_)
          · exact range_block hHeld (ka.block b (by simp only [World.size_drew]; have := B2.out.size; have := HN.out; omega) (by omega))
          clear hK K ea ba ka za
          (try simp only [Act.put, nA, nB, nC])
          refine wpAnyH_ready (rs := [7]) (by kernel_rfl) (by simp) ?_
          refine (AllReadyH.cons (o := ⟨none, .store 23 (.tmp 13) (.tmp 46), 0, "ref.go:171", #[⟨5, .data⟩, ⟨6, .chain⟩, ⟨0, .phase⟩, ⟨1, .phase⟩, ⟨2, .phase⟩, ⟨3, .phase⟩, ⟨4, .phase⟩, ⟨5, .phase⟩, ⟨6, .phase⟩], none⟩) rfl (fun K hK => ?_) AllReadyH.nil)
          set_option maxRecDepth 20000 in
          refine step_of rfl (wp_storeD _ _ rfl (N + 2) rfl zeros32 x rfl HX.out rfl ZA.out ?_)
          intro wb eb bb kb zb
          have EB := Lib.hid eb
          have EA2 := Lib.hid (kb.heap EA.out (by omega))
          have BB : Hid (Below N w wb) := BA.out.trans (bb.mono (by omega))
          refine hK.out _ _ ?_ (fun hHeld => ?_)
          · exact range_block hHeld (kb.block b (by have := BA.out.size; have := HN.out; omega) (by omega))
          clear hK K eb bb kb zb ZA BA EA
          (try simp only [Act.put, nA, nB, nC])
          refine' wpAnyH_take (i := 8) (oi := ⟨some 14, .assign (.const (.slice none 0 0)), 51, "ref.go:171", #[⟨7, .chain⟩, ⟨0, .phase⟩, ⟨1, .phase⟩, ⟨2, .phase⟩, ⟨3, .phase⟩, ⟨4, .phase⟩, ⟨5, .phase⟩, ⟨6, .phase⟩, ⟨7, .phase⟩], none⟩) rfl (by kernel_rfl) (by kernel_rfl) (by kernel_rfl) (fun _ _ _ h => h) (Or.inl ⟨by rfl, _⟩) (by assumption) _
          rotate_left
          · (intro wS hSw; (try dsimp only at hSw); go_simp; try with_reducible rfl)
          try simp only [Act.put, nA, nB, nC]
          refine' wpAnyH_take (i := 9) (oi := ⟨some 15, .assign (.const (.bool true)), 4, "ref.go:171", #[⟨8, .chain⟩, ⟨0, .phase⟩, ⟨1, .phase⟩, ⟨2, .phase⟩, ⟨3, .phase⟩, ⟨4, .phase⟩, ⟨5, .phase⟩, ⟨6, .phase⟩, ⟨7, .phase⟩, ⟨8, .phase⟩], none⟩) rfl (by kernel_rfl) (by kernel_rfl) (by kernel_rfl) (fun _ _ _ h => h) (Or.inl ⟨by rfl, _⟩) (by assumption) _
          rotate_left
          · (intro wS hSw; (try dsimp only at hSw); go_simp; try with_reducible rfl)
          try simp only [Act.put, nA, nB, nC]
          refine wpAnyH_done (by kernel_rfl) ?_ _
          clear hHeld q1 q3 q4
          go_wp2_with fail
          rw [HR2.out]
          refine bodyPost_ret (v := .tuple #[dv x, dv x, .slice none 0 0, .bool true]) ?_ rfl ⟨_, rfl, OwnQ.nil _ _, by rw [HN.out]; exact BB.out⟩
          exact results_DDTT Try.results30 rfl rfl rfl rfl HX.out HX.out EA2.out EB.out
        case neg =>
          have HR2 : Hid (R = (old, old, [], false)) := by
            show _ = _
            rw [← HR1.out, if_neg (by decide), if_neg (by rw [HT.out]; exact hT1)]
          clear HR1
          have q3 : ((T : Int) != 1) = true := by simp; omega
          have q4 : (T != 1) = true := by simp; omega
          go_upto_region 5 with fail
          refine wp_region_held_drew (S := fun W => DB W N old) (by kernel_rfl) L2.out (fun hHeld => ?_)
          refine' wpAnyH_take (i := 0) (oi := ⟨some 39, .load 23 (.tmp 9), 23, "ref.go:169", #[], none⟩) rfl (by kernel_rfl) (by kernel_rfl) (by kernel_rfl) (fun _ _ _ h => h) (yieldsIf_loadD (by rfl) _ rfl (N) rfl (old) (hl.out) (fun W hW => hW)) (by assumption) _
          try simp only [Act.put, nA, nB, nC]
          refine' wpAnyH_take (i := 1) (oi := { dst := Option.some 40, op := Op.load 23 (Operand.tmp 9), type := 23, pos := "ref.go:169", after := #[{ on := 2, ground := Ground.gcOnly Departure.lateStores }], guard := Option.none }) rfl (by kernel_rfl) (by kernel_rfl) (by kernel_rfl) (fun _ _ _ h => h) (yieldsIf_loadD (by rfl) _ rfl (N) rfl (old) (hl.out) (fun W hW => hW)) (by assumption) _
          try simp only [Act.put, nA, nB, nC]
          refine wpAnyH_ready (rs := [2]) (by kernel_rfl) (by simp) ?_
          refine (AllReadyH.cons (o := { dst := Option.none, op := Op.store 23 (Operand.tmp 12) (Operand.tmp 39), type := 0, pos := "ref.go:169", after := #[{ on := 0, ground := Ground.data }, { on := 0, ground := Ground.phase }, { on := 1, ground := Ground.textOnly Departure.lateStores }], guard := Option.none }) rfl (fun K hK => ?_) AllReadyH.nil)
          set_option maxRecDepth 20000 in
          refine step_of rfl (wp_storeD _ _ rfl (N + 1) rfl zeros32 old rfl hl.out rfl Z1.out ?_)
          intro wa ea ba ka za
          have EA := Lib.hid ea
          have BA : Hid (Below N w wa) := B2.out.drew.trans (ba.mono (by omega))
          have ZA := Lib.hid (ka.heap Z2.out (by omega))
          refine hK.out _ _ ?_ (fun hHeld => ?_)
          · exact ka.heap L2.out (by omega)
          clear hK K ea ba ka za
          (try simp only [Act.put, nA, nB, nC])
          refine wpAnyH_ready (rs := [3]) (by kernel_rfl) (by simp) ?_
          refine (AllReadyH.cons (o := ⟨none, .store 23 (.tmp 13) (.tmp 40), 0, "ref.go:169", #[⟨1, .data⟩, ⟨2, .chain⟩, ⟨0, .phase⟩, ⟨1, .phase⟩, ⟨2, .phase⟩], none⟩) rfl (fun K hK => ?_) AllReadyH.nil)
          set_option maxRecDepth 20000 in
          refine step_of rfl (wp_storeD _ _ rfl (N + 2) rfl zeros32 old rfl hl.out rfl ZA.out ?_)
          intro wb eb bb kb zb
          have EB := Lib.hid eb
          have EA2 := Lib.hid (kb.heap EA.out (by omega))
          have BB : Hid (Below N w wb) := BA.out.trans (bb.mono (by omega))
          refine hK.out _ _ ?_ (fun hHeld => ?_)
          · exact kb.heap hHeld (by omega)
          clear hK K eb bb kb zb ZA BA EA
          (try simp only [Act.put, nA, nB, nC])
          refine' wpAnyH_take (i := 4) (oi := ⟨some 14, .assign (.const (.slice none 0 0)), 51, "ref.go:169", #[⟨3, .chain⟩, ⟨0, .phase⟩, ⟨1, .phase⟩, ⟨2, .phase⟩, ⟨3, .phase⟩], none⟩) rfl (by kernel_rfl) (by kernel_rfl) (by kernel_rfl) (fun _ _ _ h => h) (Or.inl ⟨by rfl, _⟩) (by assumption) _
          rotate_left
          · (intro wS hSw; (try dsimp only at hSw); go_simp; try with_reducible rfl)
          try simp only [Act.put, nA, nB, nC]
          refine' wpAnyH_take (i := 5) (oi := ⟨some 15, .assign (.const (.bool false)), 4, "ref.go:169", #[⟨4, .chain⟩, ⟨0, .phase⟩, ⟨1, .phase⟩, ⟨2, .phase⟩, ⟨3, .phase⟩, ⟨4, .phase⟩], none⟩) rfl (by kernel_rfl) (by kernel_rfl) (by kernel_rfl) (fun _ _ _ h => h) (Or.inl ⟨by rfl, _⟩) (by assumption) _
          rotate_left
          · (intro wS hSw; (try dsimp only at hSw); go_simp; try with_reducible rfl)
          try simp only [Act.put, nA, nB, nC]
          refine wpAnyH_done (by kernel_rfl) ?_ _
          clear hHeld q1 q3 q4
          go_wp2_with fail
          rw [HR2.out]
          refine bodyPost_ret (v := .tuple #[dv old, dv old, .slice none 0 0, .bool false]) ?_ rfl ⟨_, rfl, OwnQ.nil _ _, by rw [HN.out]; exact BB.out⟩
          exact results_DDTT Try.results30 rfl rfl rfl rfl hl.out hl.out EA2.out EB.out
    case neg =>
      have q1 : ((m : Int) == (n : Int)) = false := by simp; omega
      have q2 : (m == n) = false := by simp; omega
      have el : ((T : Int) == 0) = t.isEmpty := by rw [← HT.out]; cases t <;> simp <;> omega
      have el2 : (T == 0) = t.isEmpty := by rw [← HT.out]; cases t <;> simp
      rcases List.eq_nil_or_concat t with rfl | ⟨r, LA, ht⟩
      case inl =>
        have HR2 : Hid (R = (old, old, [], false)) := by
          show _ = _
          rw [← HR.out, rtwo_nil w0m old m n whole hm1 (by omega)]
        go_upto_region 8 with fail
        refine wp_region_held_drew (S := fun W => DB W N old) (by kernel_rfl) L2.out (fun hHeld => ?_)
        refine' wpAnyH_take (i := 0) (oi := ⟨some 50, .load 23 (.tmp 9), 23, "ref.go:174", #[], none⟩) rfl (by kernel_rfl) (by kernel_rfl) (by kernel_rfl) (fun _ _ _ h => h) (yieldsIf_loadD (by rfl) _ rfl (N) rfl (old) (hl.out) (fun W hW => hW)) (by assumption) _
        try simp only [Act.put, nA, nB, nC]
        refine' wpAnyH_take (i := 1) (oi := { dst := Option.some 51, op := Op.load 23 (Operand.tmp 9), type := 23, pos := "ref.go:174", after := #[{ on := 2, ground := Ground.gcOnly Departure.lateStores }], guard := Option.none }) rfl (by kernel_rfl) (by kernel_rfl) (by kernel_rfl) (fun _ _ _ h => h) (yieldsIf_loadD (by rfl) _ rfl (N) rfl (old) (hl.out) (fun W hW => hW)) (by assumption) _
        try simp only [Act.put, nA, nB, nC]
        refine wpAnyH_ready (rs := [2]) (by kernel_rfl) (by simp) ?_
        refine (AllReadyH.cons (o := { dst := Option.none, op := Op.store 23 (Operand.tmp 12) (Operand.tmp 50), type := 0, pos := "ref.go:174", after := #[{ on := 0, ground := Ground.data }, { on := 0, ground := Ground.phase }, { on := 1, ground := Ground.textOnly Departure.lateStores }], guard := Option.none }) rfl (fun K hK => ?_) AllReadyH.nil)
        set_option maxRecDepth 20000 in
        refine step_of rfl (wp_storeD _ _ rfl (N + 1) rfl zeros32 old rfl hl.out rfl Z1.out ?_)
        intro wa ea ba ka za
        have EA := Lib.hid ea
        have BA : Hid (Below N w wa) := B2.out.drew.trans (ba.mono (by omega))
        have ZA := Lib.hid (ka.heap Z2.out (by omega))
        refine hK.out _ _ ?_ (fun hHeld => ?_)
        · exact ka.heap L2.out (by omega)
        clear hK K ea ba ka za
        (try simp only [Act.put, nA, nB, nC])
        refine wpAnyH_ready (rs := [3]) (by kernel_rfl) (by simp) ?_
        refine (AllReadyH.cons (o := ⟨none, .store 23 (.tmp 13) (.tmp 51), 0, "ref.go:174", #[⟨1, .data⟩, ⟨2, .chain⟩, ⟨0, .phase⟩, ⟨1, .phase⟩, ⟨2, .phase⟩], none⟩) rfl (fun K hK => ?_) AllReadyH.nil)
        set_option maxRecDepth 20000 in
        refine step_of rfl (wp_storeD _ _ rfl (N + 2) rfl zeros32 old rfl hl.out rfl ZA.out ?_)
        intro wb eb bb kb zb
        have EB := Lib.hid eb
        have EA2 := Lib.hid (kb.heap EA.out (by omega))
        have BB : Hid (Below N w wb) := BA.out.trans (bb.mono (by omega))
        refine hK.out _ _ ?_ (fun hHeld => ?_)
        · exact kb.heap hHeld (by omega)
        clear hK K eb bb kb zb ZA BA EA
        (try simp only [Act.put, nA, nB, nC])
        refine' wpAnyH_take (i := 4) (oi := ⟨some 14, .assign (.const (.slice none 0 0)), 51, "ref.go:174", #[⟨3, .chain⟩, ⟨0, .phase⟩, ⟨1, .phase⟩, ⟨2, .phase⟩, ⟨3, .phase⟩], none⟩) rfl (by kernel_rfl) (by kernel_rfl) (by kernel_rfl) (fun _ _ _ h => h) (Or.inl ⟨by rfl, _⟩) (by assumption) _
        rotate_left
        · (intro wS hSw; (try dsimp only at hSw); go_simp; try with_reducible rfl)
        try simp only [Act.put, nA, nB, nC]
        refine' wpAnyH_take (i := 5) (oi := ⟨some 15, .assign (.const (.bool false)), 4, "ref.go:174", #[⟨4, .chain⟩, ⟨0, .phase⟩, ⟨1, .phase⟩, ⟨2, .phase⟩, ⟨3, .phase⟩, ⟨4, .phase⟩], none⟩) rfl (by kernel_rfl) (by kernel_rfl) (by kernel_rfl) (fun _ _ _ h => h) (Or.inl ⟨by rfl, _⟩) (by assumption) _
        rotate_left
        · (intro wS hSw; (try dsimp only at hSw); go_simp; try with_reducible rfl)
        try simp only [Act.put, nA, nB, nC]
        refine wpAnyH_done (by kernel_rfl) ?_ _
        clear hHeld q1 q2 el el2
        go_wp2_with fail
        rw [HR2.out]
        refine bodyPost_ret (v := .tuple #[dv old, dv old, .slice none 0 0, .bool false]) ?_ rfl ⟨_, rfl, OwnQ.nil _ _, by rw [HN.out]; exact BB.out⟩
        exact results_DDTT Try.results30 rfl rfl rfl rfl hl.out hl.out EA2.out EB.out
      case inr =>
        rw [List.concat_eq_append] at ht
        have hE : t.isEmpty = false := by rw [ht]; simp
        rw [hE] at el el2
        clear hE
        have hs := half_spec (n := n) (by omega)
        obtain ⟨k, hk⟩ : ∃ k, halfN n = k := ⟨_, rfl⟩
        rw [hk] at hs
        obtain ⟨hs1, hs2, hs3⟩ := hs
        have hln : T = r.length + 1 := by rw [← HT.out, ht, List.length_append, List.length_singleton]
        have htl := HT.out
        have hr0 : t.take r.length = r := by rw [ht, List.take_left' rfl]
        have hla : t[r.length]'(by omega) = LA := by subst ht; simp
        have hLAl : Hid (LA.length = 32) := by show _ = _; rw [← hla]; exact HA.out _ (List.getElem_mem _)
        have hd1 : Hid (DRow w2 w2.heap.size (.slice ad T c) t) := (hd.out.low (by rw [HN.out]; exact B2.out) (Nat.le_refl _)).mono B2.out.size
        obtain ⟨_, ad2, c2, e2, _, _, hr2⟩ := hd1.out
        have e3 : ad = ad2 := by simp only [Value.slice.injEq] at e2; exact e2.1
        obtain ⟨b, o, e4, _, hbw, hrng⟩ := hr2 (by omega)
        rw [← e3] at e4
        clear e2 e3 hr2
        subst e4
        have hrl := hrng r.length (by omega)
        rw [hla] at hrl
        have HRl := Lib.hid hrl
        have hd2 : Hid (DRow w2 w2.heap.size (.slice (some ⟨b, o, none⟩) r.length c) r) := by
          have := hd1.out.take r.length (by omega)
          rw [hr0] at this
          exact this
        have hR2 := HR.out
        rw [ht] at hR2
        have HR2 : Hid (rtwo w0m old m n (r ++ [LA]) whole = R) := hR2
        have HK := Lib.hid hk
        clear hrl hrng hla hd1 hr0 hR2 HR hk ht HA HRow htl
        obtain ⟨x, hx⟩ : ∃ x, r.length = x := ⟨_, rfl⟩
        rw [hx] at hd2 HRl hln
        have HX := Lib.hid hx
        clear hd hx
        have c1 : (T : Int) - 1 = (x : Int) := by omega
        have c2 : IntKind.i64.wrap (x : Int) = (x : Int) := IntWalk.i64_in _ (by omega)
        have c3 : (x : Int) < (T : Int) := by omega
        clear hln
        go_upto_region 9 with fail
        refine wp_region_list ?_
        refine wpList_plain rfl (fun K hK => ?_)
        go_simp
        refine hK _ _ ?_
        clear hK K
        (try simp only [Act.put, nA, nB, nC])
        refine wpList_plain rfl (fun K hK => ?_)
        go_simp
        refine (refHalf_any n _ (by omega) (by omega)).mono ?_; rintro e w3 ⟨rfl, rfl⟩; rw [HK.out]
        refine hK _ _ ?_
        clear hK K
        (try simp only [Act.put, nA, nB, nC])
        refine wpList_plain rfl (fun K hK => ?_)
        go_simp
        refine hK _ _ ?_
        clear hK K
        (try simp only [Act.put, nA, nB, nC])
        go_upto_region 10 with fail
        refine wp_region_list ?_
        refine wpList_plain rfl (fun K hK => ?_)
        go_simp
        refine hK _ _ ?_
        clear hK K
        (try simp only [Act.put, nA, nB, nC])
        refine wpList_plain rfl (fun K hK => ?_)
        go_simp
        refine hK _ _ ?_
        clear hK K
        (try simp only [Act.put, nA, nB, nC])
        refine wpList_plain rfl (fun K hK => ?_)
        go_simp
        refine hK _ _ ?_
        clear hK K
        (try simp only [Act.put, nA, nB, nC])
        refine wpList_plain rfl (fun K hK => ?_)
        go_simp
        refine hK _ _ ?_
        clear hK K
        (try simp only [Act.put, nA, nB, nC])
        refine wpList_plain rfl (fun K hK => ?_)
        go_simp
        refine hK _ _ ?_
        clear hK K
        (try simp only [Act.put, nA, nB, nC])
        set_option maxRecDepth 20000 in
        refine wpList_loadRng rfl _ rfl b (o + x * 32) rfl LA hLAl.out HRl.out ?_
        (try simp only [Act.put, nA, nB, nC])
        refine wpList_allocD rfl rfl (N + 3) z2 ?_
        intro w3 e3 b3 z3
        (try simp only [Act.put, nA, nB, nC])
        refine wpList_storeD rfl _ _ rfl (N + 3) rfl zeros32 LA rfl hLAl.out rfl e3 ?_
        intro w4 e4 b4 k4 z4
        (try simp only [Act.put, nA, nB, nC])
        have b24 : Below (N + 3) w2 w4 := b3.trans b4
        have L4 := Lib.hid (heap_below L2.out b24 (by omega))
        have Z14 := Lib.hid (heap_below Z1.out b24 (by omega))
        have Z24 := Lib.hid (heap_below Z2.out b24 (by omega))
        have A4 := Lib.hid e4
        have B4 := Lib.hid (B2.out.trans (b24.mono (by omega)))
        rw [z3] at z4
        have hd4 : Hid (DRow w4 w4.heap.size (.slice (some ⟨b, o, none⟩) x c) r) := by
          have := (hd2.out.low (by rw [z2]; exact b24) (Nat.le_refl _)).mono (lim' := w4.heap.size) (by omega)
          exact this
        clear e3 b3 z3 e4 b4 k4 b24 L2 Z1 Z2 B2 hd2 HRl z2
        go_upto_region 11 with fail
        go_upto_region 12 with fail
        clear c1 c2 c3 el el2 q1 q2
        by_cases hmk : m ≤ k
        case pos =>
          have d1 : decide (m ≤ k) = true := decide_eq_true hmk
          have d2 : decide ((m : Int) ≤ (k : Int)) = true := decide_eq_true (by omega)
          have hi9 : m ≤ k := by omega
          have hn9 : k < n := by omega
          have hj9 : 1 ≤ m := by omega
          obtain ⟨⟨A, B, xs, ok⟩, hr9⟩ : ∃ y, rtwo w0m old m k r whole = y := ⟨_, rfl⟩
          have hsh := rtwo_shape w0m old hl.out k m r whole hj9 hi9 hd4.out.1
          rw [hr9] at hsh
          obtain ⟨hAl, hBl, _, hXn⟩ := hsh
          dsimp only at hAl hBl hXn
          have HAl := Lib.hid hAl
          have HBl := Lib.hid hBl
          have HR3 : Hid (R = (A, knotD w0m B LA, xs ++ [B ++ LA], ok)) := by
            show _ = _
            rw [← HR2.out, rtwo_left w0m old m n r LA whole hm1 (by omega) (by rw [HK.out]; exact hmk), HK.out, hr9]
          have HI : Hid (Calls Try.prog 30 #[.int .i64 (w0m : Int), .int .i64 (m : Int), .int .i64 (k : Int), dv old, .slice (some ⟨b, o, none⟩) x c, .bool whole] w4 (RTres w4 (A, B, xs, ok))) := by
            have h9 := IH.out k hn9 m (.slice (some ⟨b, o, none⟩) x c) r whole w4 hd4 hj9 hi9 (by omega)
            rw [hr9] at h9
            exact h9
          clear hr9 hAl hBl IH hd4 HR2
          go_upto_region 13 with fail
          clear d1 d2
          refine wp_region_list ?_
          refine wpList_plain rfl (fun K hK => ?_)
          go_simp
          refine hK _ _ ?_
          clear hK K
          (try simp only [Act.put, nA, nB, nC])
          refine wpList_plain rfl (fun K hK => ?_)
          go_simp
          refine hK _ _ ?_
          clear hK K
          (try simp only [Act.put, nA, nB, nC])
          refine wpList_plain rfl (fun K hK => ?_)
          go_simp
          refine hK _ _ ?_
          clear hK K
          (try simp only [Act.put, nA, nB, nC])
          refine wpList_loadD rfl _ rfl N rfl old hl.out L4.out ?_
          (try simp only [Act.put, nA, nB, nC])
          refine wpList_plain rfl (fun K hK => ?_)
          go_simp
          refine hK _ _ ?_
          clear hK K
          (try simp only [Act.put, nA, nB, nC])
          refine wpList_plain rfl (fun K hK => ?_)
          go_simp
          refine hK _ _ ?_
          clear hK K
          (try simp only [Act.put, nA, nB, nC])
          refine wpList_plain rfl (fun K hK => ?_)
          go_simp
          refine HI.out.mono ?_; rintro e w5 ⟨sv, rfl, ho, hb5⟩; dsimp only at ho ⊢
          refine hK _ _ ?_
          clear hK K
          (try simp only [Act.put, nA, nB, nC])
          have z5 := hb5.size
          rw [z4] at ho hb5 z5
          have O5 := Lib.hid ho
          have Z15 := Lib.hid (heap_below Z14.out hb5 (by omega))
          have Z25 := Lib.hid (heap_below Z24.out hb5 (by omega))
          have A5 := Lib.hid (heap_below A4.out hb5 (by omega))
          have B5 := Lib.hid (B4.out.trans (hb5.mono (by omega)))
          obtain ⟨ad9, cap9, hsv⟩ := ho.shape
          subst hsv
          clear ho hb5 HI L4 Z14 Z24 A4 B4
          refine wpList_plain rfl (fun K hK => ?_)
          go_simp
          refine hK _ _ ?_
          clear hK K
          (try simp only [Act.put, nA, nB, nC])
          refine wpList_plain rfl (fun K hK => ?_)
          go_simp
          refine hK _ _ ?_
          clear hK K
          (try simp only [Act.put, nA, nB, nC])
          refine wpList_plain rfl (fun K hK => ?_)
          go_simp
          refine hK _ _ ?_
          clear hK K
          (try simp only [Act.put, nA, nB, nC])
          refine wpList_plain rfl (fun K hK => ?_)
          go_simp
          refine hK _ _ ?_
          clear hK K
          (try simp only [Act.put, nA, nB, nC])
          refine wpList_plain rfl (fun K hK => ?_)
          go_simp
          refine hK _ _ ?_
          clear hK K
          (try simp only [Act.put, nA, nB, nC])
          obtain ⟨P, hP⟩ : ∃ P, w5.heap.size = P := ⟨_, rfl⟩
          rw [hP] at z5
          refine wpList_allocD rfl rfl P hP ?_
          intro w6 e6 b6 z6
          (try simp only [Act.put, nA, nB, nC])
          refine wpList_allocD rfl rfl (P + 1) z6 ?_
          intro w7 e7 b7 z7
          (try simp only [Act.put, nA, nB, nC])
          refine wpList_storeD rfl _ _ rfl P rfl zeros32 A rfl HAl.out rfl (heap_below e6 b7 (by omega)) ?_
          intro w8 e8 b8 k8 z8
          (try simp only [Act.put, nA, nB, nC])
          refine wpList_storeD rfl _ _ rfl (P + 1) rfl zeros32 B rfl HBl.out rfl (k8.heap e7 (by omega)) ?_
          intro w9 e9 b9 k9 z9
          (try simp only [Act.put, nA, nB, nC])
          have b59 : Below P w5 w9 := ((b6.trans (b7.mono (by omega))).trans b8).trans (b9.mono (by omega))
          have hlt5 : ∀ g, (Value.slice ad9 xs.length cap9).ownBlock = some g → g < P := fun g hg => by have := (O5.out.lt g hg).2; omega
          have G9 : Hid (RG w N w9 P (P + 1) A B LA (.slice ad9 xs.length cap9) xs) := ⟨heap_below Z15.out b59 (by omega), heap_below Z25.out b59 (by omega), heap_below A5.out b59 (by omega), k9.heap e8 (by omega), e9, O5.out.below b59 hlt5, B5.out.trans (b59.mono (by omega)), by omega, by omega, fun g hg => by have := hlt5 g hg; omega⟩
          clear e6 b6 z6 e7 b7 z7 e8 b8 k8 z8 e9 b9 k9 z9 b59 hlt5 O5 Z15 Z25 A5 B5
          refine wpList_plain rfl (fun K hK => ?_)
          go_simp
          refine hK _ _ ?_
          clear hK K
          (try simp only [Act.put, nA, nB, nC])
          refine wpList_plain rfl (fun K hK => ?_)
          go_simp
          refine hK _ _ ?_
          clear hK K
          (try simp only [Act.put, nA, nB, nC])
          go_upto_region 14 with fail
          refine wp_region_held_drew (S := fun W => DB W P A ∧ DB W (P + 1) B ∧ DB W (N + 3) LA) (by kernel_rfl) ⟨G9.out.a, G9.out.b, G9.out.la⟩ (fun hHeld => ?_)
          refine' wpAnyH_take (i := 0) (oi := ⟨some 80, .load 23 (.tmp 19), 23, "ref.go:181", #[], none⟩) rfl (by kernel_rfl) (by kernel_rfl) (by kernel_rfl) (fun _ _ _ h => h) (yieldsIf_loadD (by rfl) _ rfl (P) rfl (A) (HAl.out) (fun W hW => hW.1)) (by assumption) _
          try simp only [Act.put, nA, nB, nC]
          refine' wpAnyH_take (i := 1) (oi := ⟨some 81, .move (.tmp 0), 3, "ref.go:181", #[], none⟩) rfl (by kernel_rfl) (by kernel_rfl) (by kernel_rfl) (fun _ _ _ h => h) (Or.inl ⟨by rfl, _⟩) (by assumption) _
          rotate_left
          · (intro wS hSw; (try dsimp only at hSw); go_simp; try with_reducible rfl)
          try simp only [Act.put, nA, nB, nC]
          refine' wpAnyH_take (i := 2) (oi := ⟨some 82, .load 23 (.tmp 20), 23, "ref.go:181", #[], none⟩) rfl (by kernel_rfl) (by kernel_rfl) (by kernel_rfl) (fun _ _ _ h => h) (yieldsIf_loadD (by rfl) _ rfl ((P + 1)) rfl (B) (HBl.out) (fun W hW => hW.2.1)) (by assumption) _
          try simp only [Act.put, nA, nB, nC]
          refine' wpAnyH_take (i := 3) (oi := ⟨some 83, .load 23 (.tmp 17), 23, "ref.go:181", #[], none⟩) rfl (by kernel_rfl) (by kernel_rfl) (by kernel_rfl) (fun _ _ _ h => h) (yieldsIf_loadD (by rfl) _ rfl ((N + 3)) rfl (LA) (hLAl.out) (fun W hW => hW.2.2)) (by assumption) _
          try simp only [Act.put, nA, nB, nC]
          refine' wpAnyH_take (i := 5) (oi := ⟨some 85, .move (.tmp 21), 51, "ref.go:181", #[], none⟩) rfl (by kernel_rfl) (by kernel_rfl) (by kernel_rfl) (fun _ _ _ h => h) (Or.inl ⟨by rfl, _⟩) (by assumption) _
          rotate_left
          · (intro wS hSw; (try dsimp only at hSw); go_simp; try with_reducible rfl)
          try simp only [Act.put, nA, nB, nC]
          refine' wpAnyH_take (i := 6) (oi := ⟨some 86, .load 23 (.tmp 20), 23, "ref.go:181", #[], none⟩) rfl (by kernel_rfl) (by kernel_rfl) (by kernel_rfl) (fun _ _ _ h => h) (yieldsIf_loadD (by rfl) _ rfl ((P + 1)) rfl (B) (HBl.out) (fun W hW => hW.2.1)) (by assumption) _
          try simp only [Act.put, nA, nB, nC]
          refine' wpAnyH_take (i := 7) (oi := ⟨some 87, .load 23 (.tmp 17), 23, "ref.go:181", #[], none⟩) rfl (by kernel_rfl) (by kernel_rfl) (by kernel_rfl) (fun _ _ _ h => h) (yieldsIf_loadD (by rfl) _ rfl ((N + 3)) rfl (LA) (hLAl.out) (fun W hW => hW.2.2)) (by assumption) _
          try simp only [Act.put, nA, nB, nC]
          refine' wpAnyH_take (i := 8) (oi := ⟨some 88, .build 106 #[(0, .tmp 86), (1, .tmp 87)], 106, "ref.go:181", #[⟨6, .data⟩, ⟨7, .data⟩], none⟩) rfl (by kernel_rfl) (by kernel_rfl) (by kernel_rfl) (fun _ _ _ h => h) (Or.inl ⟨by rfl, _⟩) (by assumption) _
          rotate_left
          · intro wS hSw
            exact build_Q _ _ _ _ rfl B LA HBl.out hLAl.out rfl rfl wS
          (try simp only [Act.put, nA, nB, nC])
          refine' wpAnyH_take (i := 11) (oi := { dst := Option.some 91, op := Op.move (Operand.tmp 22), type := 4, pos := "ref.go:181", after := #[{ on := 14, ground := Ground.gcOnly Departure.lateStores }], guard := Option.none }) rfl (by kernel_rfl) (by kernel_rfl) (by kernel_rfl) (fun _ _ _ h => h) (Or.inl ⟨by rfl, _⟩) (by assumption) _
          rotate_left
          · (intro wS hSw; (try dsimp only at hSw); go_simp; try with_reducible rfl)
          try simp only [Act.put, nA, nB, nC]
          refine wpAnyH_ready (rs := [4, 9]) (by kernel_rfl) (by simp) ?_
          refine (AllReadyH.cons (o := ⟨some 84, .call ⟨.value (.func 60), #[.tmp 81, .tmp 82, .tmp 83], #[3, 23, 23]⟩, 23, "ref.go:181", #[⟨1, .data⟩, ⟨2, .data⟩, ⟨3, .data⟩], none⟩) rfl (fun K hK => ?_) (AllReadyH.cons (o := ⟨some 89, .buildSlice 51 1 #[(0, .tmp 88)], 51, "ref.go:181", #[⟨8, .data⟩], none⟩) rfl (fun K hK => ?_) AllReadyH.nil))
          · go_simp
            go_at_call 60
            refine (refKnot_any w0m B LA _ h1m hm HBl hLAl).mono ?_
            rintro e v1 ⟨rfl, hb⟩
            have hb2 : Below w9.heap.size w9 v1 := Below.trans (Below.refl _ _).drew hb
            have GV1 := Lib.hid (G9.out.below hb2)
            have hz0 := hb2.size
            clear hb hb2 G9
            refine hK.out _ _ ?_ (fun hHeld => ?_)
            · exact ⟨GV1.out.a, GV1.out.b, GV1.out.la⟩
            clear hK K
            (try simp only [Act.put, nA, nB, nC])
            refine wpAnyH_ready (rs := [9]) (by kernel_rfl) (by simp) ?_
            refine (AllReadyH.cons (o := ⟨some 89, .buildSlice 51 1 #[(0, .tmp 88)], 51, "ref.go:181", #[⟨8, .data⟩], none⟩) rfl (fun K hK => ?_) AllReadyH.nil)
            obtain ⟨q, hq⟩ : ∃ q, v1.heap.size = q := ⟨_, rfl⟩
            set_option maxRecDepth 20000 in
            refine step_of rfl (wp_sliceQ _ rfl (B ++ LA) (by rw [List.length_append, HBl.out, hLAl.out]) rfl q hq ?_)
            intro v2 e9 b9 z9
            have hb2 : Below v1.heap.size v1 v2 := (by rw [hq]; exact b9)
            have GV2 := Lib.hid (GV1.out.below hb2)
            have Lit := Lib.hid e9
            clear e9 b9 hb2 GV1 hq
            refine hK.out _ _ ?_ (fun hHeld => ?_)
            · exact ⟨GV2.out.a, GV2.out.b, GV2.out.la⟩
            clear hK K
            (try simp only [Act.put, nA, nB, nC])
            refine wpAnyH_ready (rs := [10]) (by kernel_rfl) (by simp) ?_
            refine (AllReadyH.cons (o := ⟨some 90, .call ⟨.builtin .append, #[.tmp 85, .tmp 89], #[51, 51]⟩, 51, "ref.go:181", #[⟨5, .data⟩, ⟨9, .data⟩, ⟨4, .chain⟩], none⟩) rfl (fun K hK => ?_) AllReadyH.nil)
            set_option maxRecDepth 20000 in
            refine step_of rfl (wp_appQ v2 (B ++ LA) (by rw [List.length_append, HBl.out, hLAl.out]) _ _ rfl (N + 4) (.slice ad9 xs.length cap9) xs rfl GV2.out.own q 1 rfl Lit.out (by omega) (by have := GV2.out.hPA; have := heap_lt GV2.out.a; omega) ?_)
            intro g2 cap2 we ho9 hg9 hs9
            have Ge : Hid (RG w N we P (P + 1) A B LA (.slice (some ⟨g2, 0, none⟩) (xs.length + 1) cap2) (xs ++ [B ++ LA])) := GV2.out.app hg9 ho9 (fun g hg => by have e : g2 = g := Option.some.inj hg; subst e; exact hs9)
            refine hK.out _ _ ?_ (fun hHeld => ?_)
            · exact ⟨Ge.out.a, Ge.out.b, Ge.out.la⟩
            clear hK K ho9 hg9 hs9 GV2
            (try simp only [Act.put, nA, nB, nC])
            obtain ⟨R2, hR2⟩ : ∃ y, knotD w0m B LA = y := ⟨_, rfl⟩
            have HR22 : Hid (R2.length = 32) := by show _ = _; rw [← hR2]; exact knotD_length _ _ _
            rw [hR2] at HR3 ⊢
            clear hR2
            refine wpAnyH_ready (rs := [12]) (by kernel_rfl) (by simp) ?_
            refine (AllReadyH.cons (o := { dst := Option.none, op := Op.store 23 (Operand.tmp 12) (Operand.tmp 80), type := 0, pos := "ref.go:181", after := #[{ on := 0, ground := Ground.data }, { on := 10, ground := Ground.chain }, { on := 0, ground := Ground.phase }, { on := 1, ground := Ground.textOnly Departure.lateStores }, { on := 2, ground := Ground.textOnly Departure.lateStores }, { on := 3, ground := Ground.textOnly Departure.lateStores }, { on := 4, ground := Ground.textOnly Departure.lateStoresUnsure }, { on := 5, ground := Ground.textOnly Departure.lateStores }, { on := 6, ground := Ground.textOnly Departure.lateStores }, { on := 7, ground := Ground.textOnly Departure.lateStores }, { on := 8, ground := Ground.textOnly Departure.lateStores }, { on := 9, ground := Ground.textOnly Departure.lateStores }, { on := 10, ground := Ground.textOnly Departure.lateStoresUnsure }, { on := 11, ground := Ground.textOnly Departure.lateStores }], guard := Option.none }) rfl (fun K hK => ?_) AllReadyH.nil)
            set_option maxRecDepth 20000 in
            refine step_of rfl (wp_storeD _ _ rfl (N + 1) rfl zeros32 A rfl HAl.out rfl Ge.out.z1 ?_)
            intro wa ea ba ka za
            have EA := Lib.hid ea
            have BA : Hid (Below N w wa) := Ge.out.hb.trans (ba.mono (by omega))
            have ZA := Lib.hid (ka.heap Ge.out.z2 (by omega))
            have OA := Lib.hid (Ge.out.own.heap (fun g hg => ka.block g (Ge.out.own.lt g hg).2 (fun e => by have := (Ge.out.own.lt g hg).1; omega)))
            refine hK.out _ _ ?_ (fun hHeld => ?_)
            · exact ⟨ka.heap Ge.out.a (by have := Ge.out.hPA; omega), ka.heap Ge.out.b (by have := Ge.out.hPB; omega), ka.heap Ge.out.la (by omega)⟩
            clear hK K ea ba ka za
            (try simp only [Act.put, nA, nB, nC])
            refine wpAnyH_ready (rs := [13]) (by kernel_rfl) (by simp) ?_
            refine (AllReadyH.cons (o := { dst := Option.none, op := Op.store 23 (Operand.tmp 13) (Operand.tmp 84), type := 0, pos := "ref.go:181", after := #[{ on := 4, ground := Ground.data }, { on := 12, ground := Ground.chain }, { on := 0, ground := Ground.phase }, { on := 1, ground := Ground.phase }, { on := 2, ground := Ground.phase }, { on := 3, ground := Ground.phase }, { on := 4, ground := Ground.phase }, { on := 5, ground := Ground.textOnly Departure.lateStores }, { on := 6, ground := Ground.textOnly Departure.lateStores }, { on := 7, ground := Ground.textOnly Departure.lateStores }, { on := 8, ground := Ground.textOnly Departure.lateStores }, { on := 9, ground := Ground.textOnly Departure.lateStores }, { on := 10, ground := Ground.textOnly Departure.lateStoresUnsure }, { on := 11, ground := Ground.textOnly Departure.lateStores }, { on := 12, ground := Ground.phase }], guard := Option.none }) rfl (fun K hK => ?_) AllReadyH.nil)
            set_option maxRecDepth 20000 in
            refine step_of rfl (wp_storeD _ _ rfl (N + 2) rfl zeros32 R2 rfl HR22.out rfl ZA.out ?_)
            intro wb eb bb kb zb
            have EB := Lib.hid eb
            have EA2 := Lib.hid (kb.heap EA.out (by omega))
            have BB : Hid (Below N w wb) := BA.out.trans (bb.mono (by omega))
            have OB := Lib.hid (OA.out.heap (fun g hg => kb.block g (OA.out.lt g hg).2 (fun e => by have := (OA.out.lt g hg).1; omega)))
            refine hK.out _ _ ?_ (fun hHeld => ?_)
            · exact ⟨kb.heap hHeld.1 (by have := Ge.out.hPA; omega), kb.heap hHeld.2.1 (by have := Ge.out.hPB; omega), kb.heap hHeld.2.2 (by omega)⟩
            clear hK K eb bb kb zb ZA BA EA
            (try simp only [Act.put, nA, nB, nC])
            refine' wpAnyH_take (i := 14) (oi := { dst := Option.some 14, op := Op.assign (Operand.tmp 90), type := 51, pos := "ref.go:181", after := #[{ on := 10, ground := Ground.data }, { on := 13, ground := Ground.chain }, { on := 0, ground := Ground.phase }, { on := 1, ground := Ground.phase }, { on := 2, ground := Ground.phase }, { on := 3, ground := Ground.phase }, { on := 4, ground := Ground.phase }, { on := 5, ground := Ground.phase }, { on := 6, ground := Ground.phase }, { on := 7, ground := Ground.phase }, { on := 8, ground := Ground.phase }, { on := 9, ground := Ground.phase }, { on := 10, ground := Ground.phase }, { on := 11, ground := Ground.textOnly Departure.lateStores }, { on := 12, ground := Ground.phase }, { on := 13, ground := Ground.phase }], guard := Option.none }) rfl (by kernel_rfl) (by kernel_rfl) (by kernel_rfl) (fun _ _ _ h => h) (Or.inl ⟨by rfl, _⟩) (by assumption) _
            rotate_left
            · (intro wS hSw; (try dsimp only at hSw); go_simp; try with_reducible rfl)
            try simp only [Act.put, nA, nB, nC]
            refine' wpAnyH_take (i := 15) (oi := ⟨some 15, .assign (.tmp 91), 4, "ref.go:181", #[⟨11, .data⟩, ⟨14, .chain⟩, ⟨0, .phase⟩, ⟨1, .phase⟩, ⟨2, .phase⟩, ⟨3, .phase⟩, ⟨4, .phase⟩, ⟨5, .phase⟩, ⟨6, .phase⟩, ⟨7, .phase⟩, ⟨8, .phase⟩, ⟨9, .phase⟩, ⟨10, .phase⟩, ⟨11, .phase⟩, ⟨12, .phase⟩, ⟨13, .phase⟩, ⟨14, .phase⟩], none⟩) rfl (by kernel_rfl) (by kernel_rfl) (by kernel_rfl) (fun _ _ _ h => h) (Or.inl ⟨by rfl, _⟩) (by assumption) _
            rotate_left
            · (intro wS hSw; (try dsimp only at hSw); go_simp; try with_reducible rfl)
            try simp only [Act.put, nA, nB, nC]
            refine wpAnyH_done (by kernel_rfl) ?_ _
            clear hHeld
            go_wp2_with fail
            rw [HR3.out]
            refine bodyPost_ret (v := .tuple #[dv A, dv R2, .slice (some ⟨g2, 0, none⟩) (xs.length + 1) cap2, .bool ok]) ?_ rfl ⟨_, rfl, by rw [HN.out]; exact OB.out.mono (by omega), by rw [HN.out]; exact BB.out⟩
            exact results_DDTT Try.results30 rfl rfl rfl rfl HAl.out HR22.out EA2.out EB.out
          · obtain ⟨q, hq⟩ : ∃ q, w9.heap.size = q := ⟨_, rfl⟩
            set_option maxRecDepth 20000 in
            refine step_of rfl (wp_sliceQ _ rfl (B ++ LA) (by rw [List.length_append, HBl.out, hLAl.out]) rfl q hq ?_)
            intro v1 e9 b9 z9
            have hb2 : Below w9.heap.size w9 v1 := Below.trans (Below.refl _ _).drew (by rw [hq]; exact b9)
            have GV1 := Lib.hid (G9.out.below hb2)
            have Lit := Lib.hid e9
            clear e9 b9 hb2 G9 hq
            refine hK.out _ _ ?_ (fun hHeld => ?_)
            · exact ⟨GV1.out.a, GV1.out.b, GV1.out.la⟩
            clear hK K
            (try simp only [Act.put, nA, nB, nC])
            refine wpAnyH_ready (rs := [4]) (by kernel_rfl) (by simp) ?_
            refine (AllReadyH.cons (o := ⟨some 84, .call ⟨.value (.func 60), #[.tmp 81, .tmp 82, .tmp 83], #[3, 23, 23]⟩, 23, "ref.go:181", #[⟨1, .data⟩, ⟨2, .data⟩, ⟨3, .data⟩], none⟩) rfl (fun K hK => ?_) AllReadyH.nil)
            go_simp
            go_at_call 60
            refine (refKnot_any w0m B LA _ h1m hm HBl hLAl).mono ?_
            rintro e v2 ⟨rfl, hb⟩
            have hb2 : Below v1.heap.size v1 v2 := hb
            have GV2 := Lib.hid (GV1.out.below hb2)
            have Lit := Lib.hid (heap_below Lit.out hb2 (by omega))
            have hz1 := hb2.size
            clear hb hb2 GV1
            refine hK.out _ _ ?_ (fun hHeld => ?_)
            · exact ⟨GV2.out.a, GV2.out.b, GV2.out.la⟩
            clear hK K
            (try simp only [Act.put, nA, nB, nC])
            refine wpAnyH_ready (rs := [10]) (by kernel_rfl) (by simp) ?_
            refine (AllReadyH.cons (o := ⟨some 90, .call ⟨.builtin .append, #[.tmp 85, .tmp 89], #[51, 51]⟩, 51, "ref.go:181", #[⟨5, .data⟩, ⟨9, .data⟩, ⟨4, .chain⟩], none⟩) rfl (fun K hK => ?_) AllReadyH.nil)
            set_option maxRecDepth 20000 in
            refine step_of rfl (wp_appQ v2 (B ++ LA) (by rw [List.length_append, HBl.out, hLAl.out]) _ _ rfl (N + 4) (.slice ad9 xs.length cap9) xs rfl GV2.out.own q 1 rfl Lit.out (by omega) (by have := GV2.out.hPA; have := heap_lt GV2.out.a; omega) ?_)
            intro g2 cap2 we ho9 hg9 hs9
            have Ge : Hid (RG w N we P (P + 1) A B LA (.slice (some ⟨g2, 0, none⟩) (xs.length + 1) cap2) (xs ++ [B ++ LA])) := GV2.out.app hg9 ho9 (fun g hg => by have e : g2 = g := Option.some.inj hg; subst e; exact hs9)
            refine hK.out _ _ ?_ (fun hHeld => ?_)
            · exact ⟨Ge.out.a, Ge.out.b, Ge.out.la⟩
            clear hK K ho9 hg9 hs9 GV2
            (try simp only [Act.put, nA, nB, nC])
            obtain ⟨R2, hR2⟩ : ∃ y, knotD w0m B LA = y := ⟨_, rfl⟩
            have HR22 : Hid (R2.length = 32) := by show _ = _; rw [← hR2]; exact knotD_length _ _ _
            rw [hR2] at HR3 ⊢
            clear hR2
            refine wpAnyH_ready (rs := [12]) (by kernel_rfl) (by simp) ?_
            refine (AllReadyH.cons (o := { dst := Option.none, op := Op.store 23 (Operand.tmp 12) (Operand.tmp 80), type := 0, pos := "ref.go:181", after := #[{ on := 0, ground := Ground.data }, { on := 10, ground := Ground.chain }, { on := 0, ground := Ground.phase }, { on := 1, ground := Ground.textOnly Departure.lateStores }, { on := 2, ground := Ground.textOnly Departure.lateStores }, { on := 3, ground := Ground.textOnly Departure.lateStores }, { on := 4, ground := Ground.textOnly Departure.lateStoresUnsure }, { on := 5, ground := Ground.textOnly Departure.lateStores }, { on := 6, ground := Ground.textOnly Departure.lateStores }, { on := 7, ground := Ground.textOnly Departure.lateStores }, { on := 8, ground := Ground.textOnly Departure.lateStores }, { on := 9, ground := Ground.textOnly Departure.lateStores }, { on := 10, ground := Ground.textOnly Departure.lateStoresUnsure }, { on := 11, ground := Ground.textOnly Departure.lateStores }], guard := Option.none }) rfl (fun K hK => ?_) AllReadyH.nil)
            set_option maxRecDepth 20000 in
            refine step_of rfl (wp_storeD _ _ rfl (N + 1) rfl zeros32 A rfl HAl.out rfl Ge.out.z1 ?_)
            intro wa ea ba ka za
            have EA := Lib.hid ea
            have BA : Hid (Below N w wa) := Ge.out.hb.trans (ba.mono (by omega))
            have ZA := Lib.hid (ka.heap Ge.out.z2 (by omega))
            have OA := Lib.hid (Ge.out.own.heap (fun g hg => ka.block g (Ge.out.own.lt g hg).2 (fun e => by have := (Ge.out.own.lt g hg).1; omega)))
            refine hK.out _ _ ?_ (fun hHeld => ?_)
            · exact ⟨ka.heap Ge.out.a (by have := Ge.out.hPA; omega), ka.heap Ge.out.b (by have := Ge.out.hPB; omega), ka.heap Ge.out.la (by omega)⟩
            clear hK K ea ba ka za
            (try simp only [Act.put, nA, nB, nC])
            refine wpAnyH_ready (rs := [13]) (by kernel_rfl) (by simp) ?_
            refine (AllReadyH.cons (o := { dst := Option.none, op := Op.store 23 (Operand.tmp 13) (Operand.tmp 84), type := 0, pos := "ref.go:181", after := #[{ on := 4, ground := Ground.data }, { on := 12, ground := Ground.chain }, { on := 0, ground := Ground.phase }, { on := 1, ground := Ground.phase }, { on := 2, ground := Ground.phase }, { on := 3, ground := Ground.phase }, { on := 4, ground := Ground.phase }, { on := 5, ground := Ground.textOnly Departure.lateStores }, { on := 6, ground := Ground.textOnly Departure.lateStores }, { on := 7, ground := Ground.textOnly Departure.lateStores }, { on := 8, ground := Ground.textOnly Departure.lateStores }, { on := 9, ground := Ground.textOnly Departure.lateStores }, { on := 10, ground := Ground.textOnly Departure.lateStoresUnsure }, { on := 11, ground := Ground.textOnly Departure.lateStores }, { on := 12, ground := Ground.phase }], guard := Option.none }) rfl (fun K hK => ?_) AllReadyH.nil)
            set_option maxRecDepth 20000 in
            refine step_of rfl (wp_storeD _ _ rfl (N + 2) rfl zeros32 R2 rfl HR22.out rfl ZA.out ?_)
            intro wb eb bb kb zb
            have EB := Lib.hid eb
            have EA2 := Lib.hid (kb.heap EA.out (by omega))
            have BB : Hid (Below N w wb) := BA.out.trans (bb.mono (by omega))
            have OB := Lib.hid (OA.out.heap (fun g hg => kb.block g (OA.out.lt g hg).2 (fun e => by have := (OA.out.lt g hg).1; omega)))
            refine hK.out _ _ ?_ (fun hHeld => ?_)
            · exact ⟨kb.heap hHeld.1 (by have := Ge.out.hPA; omega), kb.heap hHeld.2.1 (by have := Ge.out.hPB; omega), kb.heap hHeld.2.2 (by omega)⟩
            clear hK K eb bb kb zb ZA BA EA
            (try simp only [Act.put, nA, nB, nC])
            refine' wpAnyH_take (i := 14) (oi := { dst := Option.some 14, op := Op.assign (Operand.tmp 90), type := 51, pos := "ref.go:181", after := #[{ on := 10, ground := Ground.data }, { on := 13, ground := Ground.chain }, { on := 0, ground := Ground.phase }, { on := 1, ground := Ground.phase }, { on := 2, ground := Ground.phase }, { on := 3, ground := Ground.phase }, { on := 4, ground := Ground.phase }, { on := 5, ground := Ground.phase }, { on := 6, ground := Ground.phase }, { on := 7, ground := Ground.phase }, { on := 8, ground := Ground.phase }, { on := 9, ground := Ground.phase }, { on := 10, ground := Ground.phase }, { on := 11, ground := Ground.textOnly Departure.lateStores }, { on := 12, ground := Ground.phase }, { on := 13, ground := Ground.phase }], guard := Option.none }) rfl (by kernel_rfl) (by kernel_rfl) (by kernel_rfl) (fun _ _ _ h => h) (Or.inl ⟨by rfl, _⟩) (by assumption) _
            rotate_left
            · (intro wS hSw; (try dsimp only at hSw); go_simp; try with_reducible rfl)
            try simp only [Act.put, nA, nB, nC]
            refine' wpAnyH_take (i := 15) (oi := ⟨some 15, .assign (.tmp 91), 4, "ref.go:181", #[⟨11, .data⟩, ⟨14, .chain⟩, ⟨0, .phase⟩, ⟨1, .phase⟩, ⟨2, .phase⟩, ⟨3, .phase⟩, ⟨4, .phase⟩, ⟨5, .phase⟩, ⟨6, .phase⟩, ⟨7, .phase⟩, ⟨8, .phase⟩, ⟨9, .phase⟩, ⟨10, .phase⟩, ⟨11, .phase⟩, ⟨12, .phase⟩, ⟨13, .phase⟩, ⟨14, .phase⟩], none⟩) rfl (by kernel_rfl) (by kernel_rfl) (by kernel_rfl) (fun _ _ _ h => h) (Or.inl ⟨by rfl, _⟩) (by assumption) _
            rotate_left
            · (intro wS hSw; (try dsimp only at hSw); go_simp; try with_reducible rfl)
            try simp only [Act.put, nA, nB, nC]
            refine wpAnyH_done (by kernel_rfl) ?_ _
            clear hHeld
            go_wp2_with fail
            rw [HR3.out]
            refine bodyPost_ret (v := .tuple #[dv A, dv R2, .slice (some ⟨g2, 0, none⟩) (xs.length + 1) cap2, .bool ok]) ?_ rfl ⟨_, rfl, by rw [HN.out]; exact OB.out.mono (by omega), by rw [HN.out]; exact BB.out⟩
            exact results_DDTT Try.results30 rfl rfl rfl rfl HAl.out HR22.out EA2.out EB.out
        case neg =>
          have d1 : decide (m ≤ k) = false := decide_eq_false hmk
          have d2 : decide ((m : Int) ≤ (k : Int)) = false := decide_eq_false (by omega)
          obtain ⟨m2, hm2⟩ : ∃ y, m - k = y := ⟨_, rfl⟩
          obtain ⟨n2, hn2⟩ : ∃ y, n - k = y := ⟨_, rfl⟩
          have f1 : (m : Int) - (k : Int) = (m2 : Int) := by omega
          have f2 : IntKind.i64.wrap (m2 : Int) = (m2 : Int) := IntWalk.i64_in _ (by omega)
          have f3 : (n : Int) - (k : Int) = (n2 : Int) := by omega
          have f4 : IntKind.i64.wrap (n2 : Int) = (n2 : Int) := IntWalk.i64_in _ (by omega)
          have hi9 : m2 ≤ n2 := by omega
          have hn9 : n2 < n := by omega
          have hj9 : 1 ≤ m2 := by omega
          obtain ⟨⟨A, B, xs, ok⟩, hr9⟩ : ∃ y, rtwo w0m old m2 n2 r false = y := ⟨_, rfl⟩
          have hsh := rtwo_shape w0m old hl.out n2 m2 r false hj9 hi9 hd4.out.1
          rw [hr9] at hsh
          obtain ⟨hAl, hBl, _, hXn⟩ := hsh
          dsimp only at hAl hBl hXn
          have HAl := Lib.hid hAl
          have HBl := Lib.hid hBl
          have HR3 : Hid (R = (knotD w0m LA A, knotD w0m LA B, xs ++ [LA ++ A] ++ [LA ++ B], ok)) := by
            show _ = _
            rw [← HR2.out, rtwo_right w0m old m n r LA whole hm1 (by omega) (by rw [HK.out]; exact hmk), HK.out, hm2, hn2, hr9]
          have HI : Hid (Calls Try.prog 30 #[.int .i64 (w0m : Int), .int .i64 (m2 : Int), .int .i64 (n2 : Int), dv old, .slice (some ⟨b, o, none⟩) x c, .bool false] w4 (RTres w4 (A, B, xs, ok))) := by
            have h9 := IH.out n2 hn9 m2 (.slice (some ⟨b, o, none⟩) x c) r false w4 hd4 hj9 hi9 (by omega)
            rw [hr9] at h9
            exact h9
          clear hr9 hAl hBl IH hd4 HR2 hm2 hn2
          go_upto_region 15 with fail
          clear d1 d2
          refine wp_region_list ?_
          refine wpList_plain rfl (fun K hK => ?_)
          go_simp
          refine hK _ _ ?_
          clear hK K
          (try simp only [Act.put, nA, nB, nC])
          refine wpList_plain rfl (fun K hK => ?_)
          go_simp
          refine hK _ _ ?_
          clear hK K
          (try simp only [Act.put, nA, nB, nC])
          refine wpList_plain rfl (fun K hK => ?_)
          go_simp
          refine hK _ _ ?_
          clear hK K
          (try simp only [Act.put, nA, nB, nC])
          refine wpList_plain rfl (fun K hK => ?_)
          go_simp
          refine hK _ _ ?_
          clear hK K
          (try simp only [Act.put, nA, nB, nC])
          refine wpList_plain rfl (fun K hK => ?_)
          go_simp
          refine hK _ _ ?_
          clear hK K
          (try simp only [Act.put, nA, nB, nC])
          refine wpList_plain rfl (fun K hK => ?_)
          go_simp
          refine hK _ _ ?_
          clear hK K
          (try simp only [Act.put, nA, nB, nC])
          refine wpList_plain rfl (fun K hK => ?_)
          go_simp
          refine hK _ _ ?_
          clear hK K
          (try simp only [Act.put, nA, nB, nC])
          refine wpList_loadD rfl _ rfl N rfl old hl.out L4.out ?_
          (try simp only [Act.put, nA, nB, nC])
          refine wpList_plain rfl (fun K hK => ?_)
          go_simp
          refine hK _ _ ?_
          clear hK K
          (try simp only [Act.put, nA, nB, nC])
          refine wpList_plain rfl (fun K hK => ?_)
          go_simp
          refine HI.out.mono ?_; rintro e w5 ⟨sv, rfl, ho, hb5⟩; dsimp only at ho ⊢
          refine hK _ _ ?_
          clear hK K
          (try simp only [Act.put, nA, nB, nC])
          have z5 := hb5.size
          rw [z4] at ho hb5 z5
          have O5 := Lib.hid ho
          have Z15 := Lib.hid (heap_below Z14.out hb5 (by omega))
          have Z25 := Lib.hid (heap_below Z24.out hb5 (by omega))
          have A5 := Lib.hid (heap_below A4.out hb5 (by omega))
          have B5 := Lib.hid (B4.out.trans (hb5.mono (by omega)))
          obtain ⟨ad9, cap9, hsv⟩ := ho.shape
          subst hsv
          clear ho hb5 HI L4 Z14 Z24 A4 B4 f1 f2 f3 f4
          refine wpList_plain rfl (fun K hK => ?_)
          go_simp
          refine hK _ _ ?_
          clear hK K
          (try simp only [Act.put, nA, nB, nC])
          refine wpList_plain rfl (fun K hK => ?_)
          go_simp
          refine hK _ _ ?_
          clear hK K
          (try simp only [Act.put, nA, nB, nC])
          refine wpList_plain rfl (fun K hK => ?_)
          go_simp
          refine hK _ _ ?_
          clear hK K
          (try simp only [Act.put, nA, nB, nC])
          refine wpList_plain rfl (fun K hK => ?_)
          go_simp
          refine hK _ _ ?_
          clear hK K
          (try simp only [Act.put, nA, nB, nC])
          refine wpList_plain rfl (fun K hK => ?_)
          go_simp
          refine hK _ _ ?_
          clear hK K
          (try simp only [Act.put, nA, nB, nC])
          obtain ⟨P, hP⟩ : ∃ P, w5.heap.size = P := ⟨_, rfl⟩
          rw [hP] at z5
          refine wpList_allocD rfl rfl P hP ?_
          intro w6 e6 b6 z6
          (try simp only [Act.put, nA, nB, nC])
          refine wpList_allocD rfl rfl (P + 1) z6 ?_
          intro w7 e7 b7 z7
          (try simp only [Act.put, nA, nB, nC])
          refine wpList_storeD rfl _ _ rfl P rfl zeros32 A rfl HAl.out rfl (heap_below e6 b7 (by omega)) ?_
          intro w8 e8 b8 k8 z8
          (try simp only [Act.put, nA, nB, nC])
          refine wpList_storeD rfl _ _ rfl (P + 1) rfl zeros32 B rfl HBl.out rfl (k8.heap e7 (by omega)) ?_
          intro w9 e9 b9 k9 z9
          (try simp only [Act.put, nA, nB, nC])
          have b59 : Below P w5 w9 := ((b6.trans (b7.mono (by omega))).trans b8).trans (b9.mono (by omega))
          have hlt5 : ∀ g, (Value.slice ad9 xs.length cap9).ownBlock = some g → g < P := fun g hg => by have := (O5.out.lt g hg).2; omega
          have G9 : Hid (RG w N w9 P (P + 1) A B LA (.slice ad9 xs.length cap9) xs) := ⟨heap_below Z15.out b59 (by omega), heap_below Z25.out b59 (by omega), heap_below A5.out b59 (by omega), k9.heap e8 (by omega), e9, O5.out.below b59 hlt5, B5.out.trans (b59.mono (by omega)), by omega, by omega, fun g hg => by have := hlt5 g hg; omega⟩
          clear e6 b6 z6 e7 b7 z7 e8 b8 k8 z8 e9 b9 k9 z9 b59 hlt5 O5 Z15 Z25 A5 B5
          refine wpList_plain rfl (fun K hK => ?_)
          go_simp
          refine hK _ _ ?_
          clear hK K
          (try simp only [Act.put, nA, nB, nC])
          refine wpList_plain rfl (fun K hK => ?_)
          go_simp
          refine hK _ _ ?_
          clear hK K
          (try simp only [Act.put, nA, nB, nC])
          go_upto_region 16 with fail
          refine wp_region_list ?_
          refine wpList_plain rfl (fun K hK => ?_)
          go_simp
          refine hK _ _ ?_
          clear hK K
          (try simp only [Act.put, nA, nB, nC])
          set_option maxRecDepth 20000 in
          refine wpList_loadD rfl _ rfl (N + 3) rfl LA hLAl.out G9.out.la ?_
          (try simp only [Act.put, nA, nB, nC])
          set_option maxRecDepth 20000 in
          refine wpList_loadD rfl _ rfl P rfl A HAl.out G9.out.a ?_
          (try simp only [Act.put, nA, nB, nC])
          refine wpList_plain rfl fun K hK => ?_
          unfold Oper.wp
          rw [build_Q _ _ _ _ rfl LA A hLAl.out HAl.out rfl rfl]
          refine hK _ _ ?_
          clear hK K
          (try simp only [Act.put, nA, nB, nC])
          obtain ⟨q, hq⟩ : ∃ q, w9.heap.size = q := ⟨_, rfl⟩
          refine wpList_plain rfl fun K hK => ?_
          set_option maxRecDepth 20000 in
          refine wp_sliceQ _ rfl (LA ++ A) (by rw [List.length_append, hLAl.out, HAl.out]) rfl q hq ?_
          intro wc ec bc zc
          refine hK _ _ ?_
          clear hK K
          (try simp only [Act.put, nA, nB, nC])
          have Gc := Lib.hid (G9.out.below (by rw [hq]; exact bc))
          have Lc := Lib.hid ec
          clear ec bc G9 hq
          refine wpList_plain rfl fun K hK => ?_
          set_option maxRecDepth 20000 in
          refine wp_appQ wc (LA ++ A) (by rw [List.length_append, hLAl.out, HAl.out]) _ _ rfl (N + 4) (.slice ad9 xs.length cap9) xs rfl Gc.out.own q 1 rfl Lc.out (by omega) (by have := Gc.out.hPA; have := heap_lt Gc.out.a; omega) ?_
          intro g1 cap1 wd hod hgd hsd
          refine hK _ _ ?_
          clear hK K
          (try simp only [Act.put, nA, nB, nC])
          obtain ⟨ys, hys⟩ : ∃ ys, xs ++ [LA ++ A] = ys := ⟨_, rfl⟩
          have hyl : xs.length + 1 = ys.length := by rw [← hys, List.length_append, List.length_singleton]
          rw [hys] at hod HR3
          rw [hyl] at hod ⊢
          have Gd : Hid (RG w N wd P (P + 1) A B LA (.slice (some ⟨g1, 0, none⟩) ys.length cap1) ys) := Gc.out.app hgd hod (fun g hg => by have e : g1 = g := Option.some.inj hg; subst e; exact hsd)
          have hyn : ys.length ≤ 2 * n2 + 1 := by omega
          clear hod hgd hsd Gc Lc hyl hys zc
          refine wpList_plain rfl (fun K hK => ?_)
          go_simp
          refine hK _ _ ?_
          clear hK K
          (try simp only [Act.put, nA, nB, nC])
          go_upto_region 17 with fail
          refine wp_region_held_drew (S := fun W => DB W P A ∧ DB W (P + 1) B ∧ DB W (N + 3) LA) (by kernel_rfl) ⟨Gd.out.a, Gd.out.b, Gd.out.la⟩ (fun hHeld => ?_)
          refine' wpAnyH_take (i := 0) (oi := ⟨some 113, .move (.tmp 0), 3, "ref.go:185", #[], none⟩) rfl (by kernel_rfl) (by kernel_rfl) (by kernel_rfl) (fun _ _ _ h => h) (Or.inl ⟨by rfl, _⟩) (by assumption) _
          rotate_left
          · (intro wS hSw; (try dsimp only at hSw); go_simp; try with_reducible rfl)
          try simp only [Act.put, nA, nB, nC]
          refine' wpAnyH_take (i := 1) (oi := ⟨some 114, .load 23 (.tmp 17), 23, "ref.go:185", #[], none⟩) rfl (by kernel_rfl) (by kernel_rfl) (by kernel_rfl) (fun _ _ _ h => h) (yieldsIf_loadD (by rfl) _ rfl ((N + 3)) rfl (LA) (hLAl.out) (fun W hW => hW.2.2)) (by assumption) _
          try simp only [Act.put, nA, nB, nC]
          refine' wpAnyH_take (i := 2) (oi := ⟨some 115, .load 23 (.tmp 23), 23, "ref.go:185", #[], none⟩) rfl (by kernel_rfl) (by kernel_rfl) (by kernel_rfl) (fun _ _ _ h => h) (yieldsIf_loadD (by rfl) _ rfl (P) rfl (A) (HAl.out) (fun W hW => hW.1)) (by assumption) _
          try simp only [Act.put, nA, nB, nC]
          refine' wpAnyH_take (i := 4) (oi := ⟨some 117, .move (.tmp 0), 3, "ref.go:185", #[], none⟩) rfl (by kernel_rfl) (by kernel_rfl) (by kernel_rfl) (fun _ _ _ h => h) (Or.inl ⟨by rfl, _⟩) (by assumption) _
          rotate_left
          · (intro wS hSw; (try dsimp only at hSw); go_simp; try with_reducible rfl)
          try simp only [Act.put, nA, nB, nC]
          refine' wpAnyH_take (i := 5) (oi := ⟨some 118, .load 23 (.tmp 17), 23, "ref.go:185", #[], none⟩) rfl (by kernel_rfl) (by kernel_rfl) (by kernel_rfl) (fun _ _ _ h => h) (yieldsIf_loadD (by rfl) _ rfl ((N + 3)) rfl (LA) (hLAl.out) (fun W hW => hW.2.2)) (by assumption) _
          try simp only [Act.put, nA, nB, nC]
          refine' wpAnyH_take (i := 6) (oi := ⟨some 119, .load 23 (.tmp 24), 23, "ref.go:185", #[], none⟩) rfl (by kernel_rfl) (by kernel_rfl) (by kernel_rfl) (fun _ _ _ h => h) (yieldsIf_loadD (by rfl) _ rfl ((P + 1)) rfl (B) (HBl.out) (fun W hW => hW.2.1)) (by assumption) _
          try simp only [Act.put, nA, nB, nC]
          refine' wpAnyH_take (i := 8) (oi := ⟨some 121, .move (.tmp 25), 51, "ref.go:185", #[], none⟩) rfl (by kernel_rfl) (by kernel_rfl) (by kernel_rfl) (fun _ _ _ h => h) (Or.inl ⟨by rfl, _⟩) (by assumption) _
          rotate_left
          · (intro wS hSw; (try dsimp only at hSw); go_simp; try with_reducible rfl)
          try simp only [Act.put, nA, nB, nC]
          refine' wpAnyH_take (i := 9) (oi := ⟨some 122, .load 23 (.tmp 17), 23, "ref.go:185", #[], none⟩) rfl (by kernel_rfl) (by kernel_rfl) (by kernel_rfl) (fun _ _ _ h => h) (yieldsIf_loadD (by rfl) _ rfl ((N + 3)) rfl (LA) (hLAl.out) (fun W hW => hW.2.2)) (by assumption) _
          try simp only [Act.put, nA, nB, nC]
          refine' wpAnyH_take (i := 10) (oi := ⟨some 123, .load 23 (.tmp 24), 23, "ref.go:185", #[], none⟩) rfl (by kernel_rfl) (by kernel_rfl) (by kernel_rfl) (fun _ _ _ h => h) (yieldsIf_loadD (by rfl) _ rfl ((P + 1)) rfl (B) (HBl.out) (fun W hW => hW.2.1)) (by assumption) _
          try simp only [Act.put, nA, nB, nC]
          refine' wpAnyH_take (i := 11) (oi := ⟨some 124, .build 106 #[(0, .tmp 122), (1, .tmp 123)], 106, "ref.go:185", #[⟨9, .data⟩, ⟨10, .data⟩], none⟩) rfl (by kernel_rfl) (by kernel_rfl) (by kernel_rfl) (fun _ _ _ h => h) (Or.inl ⟨by rfl, _⟩) (by assumption) _
          rotate_left
          · intro wS hSw
            exact build_Q _ _ _ _ rfl LA B hLAl.out HBl.out rfl rfl wS
          (try simp only [Act.put, nA, nB, nC])
          refine' wpAnyH_take (i := 14) (oi := { dst := Option.some 127, op := Op.move (Operand.tmp 26), type := 4, pos := "ref.go:185", after := #[{ on := 17, ground := Ground.gcOnly Departure.lateStores }], guard := Option.none }) rfl (by kernel_rfl) (by kernel_rfl) (by kernel_rfl) (fun _ _ _ h => h) (Or.inl ⟨by rfl, _⟩) (by assumption) _
          rotate_left
          · (intro wS hSw; (try dsimp only at hSw); go_simp; try with_reducible rfl)
          try simp only [Act.put, nA, nB, nC]
          refine wpAnyH_ready (rs := [3, 12]) (by kernel_rfl) (by simp) ?_
          refine (AllReadyH.cons (o := ⟨some 116, .call ⟨.value (.func 60), #[.tmp 113, .tmp 114, .tmp 115], #[3, 23, 23]⟩, 23, "ref.go:185", #[⟨0, .data⟩, ⟨1, .data⟩, ⟨2, .data⟩], none⟩) rfl (fun K hK => ?_) (AllReadyH.cons (o := ⟨some 125, .buildSlice 51 1 #[(0, .tmp 124)], 51, "ref.go:185", #[⟨11, .data⟩], none⟩) rfl (fun K hK => ?_) AllReadyH.nil))
          · go_simp
            go_at_call 60
            refine (refKnot_any w0m LA A _ h1m hm hLAl HAl).mono ?_
            rintro e v1 ⟨rfl, hb⟩
            have hb2 : Below wd.heap.size wd v1 := Below.trans (Below.refl _ _).drew hb
            have GV1 := Lib.hid (Gd.out.below hb2)
            have hz0 := hb2.size
            clear hb hb2 Gd
            refine hK.out _ _ ?_ (fun hHeld => ?_)
            · exact ⟨GV1.out.a, GV1.out.b, GV1.out.la⟩
            clear hK K
            (try simp only [Act.put, nA, nB, nC])
            refine wpAnyH_ready (rs := [7, 12]) (by kernel_rfl) (by simp) ?_
            refine (AllReadyH.cons (o := ⟨some 120, .call ⟨.value (.func 60), #[.tmp 117, .tmp 118, .tmp 119], #[3, 23, 23]⟩, 23, "ref.go:185", #[⟨4, .data⟩, ⟨5, .data⟩, ⟨6, .data⟩, ⟨3, .chain⟩], none⟩) rfl (fun K hK => ?_) (AllReadyH.cons (o := ⟨some 125, .buildSlice 51 1 #[(0, .tmp 124)], 51, "ref.go:185", #[⟨11, .data⟩], none⟩) rfl (fun K hK => ?_) AllReadyH.nil))
            · go_simp
              go_at_call 60
              refine (refKnot_any w0m LA B _ h1m hm hLAl HBl).mono ?_
              rintro e v2 ⟨rfl, hb⟩
              have hb2 : Below v1.heap.size v1 v2 := hb
              have GV2 := Lib.hid (GV1.out.below hb2)
              have hz1 := hb2.size
              clear hb hb2 GV1
              refine hK.out _ _ ?_ (fun hHeld => ?_)
              · exact ⟨GV2.out.a, GV2.out.b, GV2.out.la⟩
              clear hK K
              (try simp only [Act.put, nA, nB, nC])
              refine wpAnyH_ready (rs := [12]) (by kernel_rfl) (by simp) ?_
              refine (AllReadyH.cons (o := ⟨some 125, .buildSlice 51 1 #[(0, .tmp 124)], 51, "ref.go:185", #[⟨11, .data⟩], none⟩) rfl (fun K hK => ?_) AllReadyH.nil)
              obtain ⟨q, hq⟩ : ∃ q, v2.heap.size = q := ⟨_, rfl⟩
              set_option maxRecDepth 20000 in
              refine step_of rfl (wp_sliceQ _ rfl (LA ++ B) (by rw [List.length_append, hLAl.out, HBl.out]) rfl q hq ?_)
              intro v3 e9 b9 z9
              have hb2 : Below v2.heap.size v2 v3 := (by rw [hq]; exact b9)
              have GV3 := Lib.hid (GV2.out.below hb2)
              have Lit := Lib.hid e9
              clear e9 b9 hb2 GV2 hq
              refine hK.out _ _ ?_ (fun hHeld => ?_)
              · exact ⟨GV3.out.a, GV3.out.b, GV3.out.la⟩
              clear hK K
              (try simp only [Act.put, nA, nB, nC])
              refine wpAnyH_ready (rs := [13]) (by kernel_rfl) (by simp) ?_
              refine (AllReadyH.cons (o := ⟨some 126, .call ⟨.builtin .append, #[.tmp 121, .tmp 125], #[51, 51]⟩, 51, "ref.go:185", #[⟨8, .data⟩, ⟨12, .data⟩, ⟨7, .chain⟩], none⟩) rfl (fun K hK => ?_) AllReadyH.nil)
              set_option maxRecDepth 20000 in
              refine step_of rfl (wp_appQ v3 (LA ++ B) (by rw [List.length_append, hLAl.out, HBl.out]) _ _ rfl (N + 4) (.slice (some ⟨g1, 0, none⟩) ys.length cap1) ys rfl GV3.out.own q 1 rfl Lit.out (by omega) (by have := GV3.out.hPA; have := heap_lt GV3.out.a; omega) ?_)
              intro g2 cap2 we ho9 hg9 hs9
              have Ge : Hid (RG w N we P (P + 1) A B LA (.slice (some ⟨g2, 0, none⟩) (ys.length + 1) cap2) (ys ++ [LA ++ B])) := GV3.out.app hg9 ho9 (fun g hg => by have e : g2 = g := Option.some.inj hg; subst e; exact hs9)
              refine hK.out _ _ ?_ (fun hHeld => ?_)
              · exact ⟨Ge.out.a, Ge.out.b, Ge.out.la⟩
              clear hK K ho9 hg9 hs9 GV3
              (try simp only [Act.put, nA, nB, nC])
              obtain ⟨R1, hR1⟩ : ∃ y, knotD w0m LA A = y := ⟨_, rfl⟩
              have HR11 : Hid (R1.length = 32) := by show _ = _; rw [← hR1]; exact knotD_length _ _ _
              rw [hR1] at HR3 ⊢
              clear hR1
              obtain ⟨R2, hR2⟩ : ∃ y, knotD w0m LA B = y := ⟨_, rfl⟩
              have HR22 : Hid (R2.length = 32) := by show _ = _; rw [← hR2]; exact knotD_length _ _ _
              rw [hR2] at HR3 ⊢
              clear hR2
              refine wpAnyH_ready (rs := [15]) (by kernel_rfl) (by simp) ?_
              refine (AllReadyH.cons (o := { dst := Option.none, op := Op.store 23 (Operand.tmp 12) (Operand.tmp 116), type := 0, pos := "ref.go:185", after := #[{ on := 3, ground := Ground.data }, { on := 13, ground := Ground.chain }, { on := 0, ground := Ground.phase }, { on := 1, ground := Ground.phase }, { on := 2, ground := Ground.phase }, { on := 3, ground := Ground.phase }, { on := 4, ground := Ground.textOnly Departure.lateStores }, { on := 5, ground := Ground.textOnly Departure.lateStores }, { on := 6, ground := Ground.textOnly Departure.lateStores }, { on := 7, ground := Ground.textOnly Departure.lateStoresUnsure }, { on := 8, ground := Ground.textOnly Departure.lateStores }, { on := 9, ground := Ground.textOnly Departure.lateStores }, { on := 10, ground := Ground.textOnly Departure.lateStores }, { on := 11, ground := Ground.textOnly Departure.lateStores }, { on := 12, ground := Ground.textOnly Departure.lateStores }, { on := 13, ground := Ground.textOnly Departure.lateStoresUnsure }, { on := 14, ground := Ground.textOnly Departure.lateStores }], guard := Option.none }) rfl (fun K hK => ?_) AllReadyH.nil)
              set_option maxRecDepth 20000 in
              refine step_of rfl (wp_storeD _ _ rfl (N + 1) rfl zeros32 R1 rfl HR11.out rfl Ge.out.z1 ?_)
              intro wa ea ba ka za
              have EA := Lib.hid ea
              have BA : Hid (Below N w wa) := Ge.out.hb.trans (ba.mono (by omega))
              have ZA := Lib.hid (ka.heap Ge.out.z2 (by omega))
              have OA := Lib.hid (Ge.out.own.heap (fun g hg => ka.block g (Ge.out.own.lt g hg).2 (fun e => by have := (Ge.out.own.lt g hg).1; omega)))
              refine hK.out _ _ ?_ (fun hHeld => ?_)
              · exact ⟨ka.heap Ge.out.a (by have := Ge.out.hPA; omega), ka.heap Ge.out.b (by have := Ge.out.hPB; omega), ka.heap Ge.out.la (by omega)⟩
              clear hK K ea ba ka za
              (try simp only [Act.put, nA, nB, nC])
              refine wpAnyH_ready (rs := [16]) (by kernel_rfl) (by simp) ?_
              refine (AllReadyH.cons (o := { dst := Option.none, op := Op.store 23 (Operand.tmp 13) (Operand.tmp 120), type := 0, pos := "ref.go:185", after := #[{ on := 7, ground := Ground.data }, { on := 15, ground := Ground.chain }, { on := 0, ground := Ground.phase }, { on := 1, ground := Ground.phase }, { on := 2, ground := Ground.phase }, { on := 3, ground := Ground.phase }, { on := 4, ground := Ground.phase }, { on := 5, ground := Ground.phase }, { on := 6, ground := Ground.phase }, { on := 7, ground := Ground.phase }, { on := 8, ground := Ground.textOnly Departure.lateStores }, { on := 9, ground := Ground.textOnly Departure.lateStores }, { on := 10, ground := Ground.textOnly Departure.lateStores }, { on := 11, ground := Ground.textOnly Departure.lateStores }, { on := 12, ground := Ground.textOnly Departure.lateStores }, { on := 13, ground := Ground.textOnly Departure.lateStoresUnsure }, { on := 14, ground := Ground.textOnly Departure.lateStores }, { on := 15, ground := Ground.phase }], guard := Option.none }) rfl (fun K hK => ?_) AllReadyH.nil)
              set_option maxRecDepth 20000 in
              refine step_of rfl (wp_storeD _ _ rfl (N + 2) rfl zeros32 R2 rfl HR22.out rfl ZA.out ?_)
              intro wb eb bb kb zb
              have EB := Lib.hid eb
              have EA2 := Lib.hid (kb.heap EA.out (by omega))
              have BB : Hid (Below N w wb) := BA.out.trans (bb.mono (by omega))
              have OB := Lib.hid (OA.out.heap (fun g hg => kb.block g (OA.out.lt g hg).2 (fun e => by have := (OA.out.lt g hg).1; omega)))
              refine hK.out _ _ ?_ (fun hHeld => ?_)
              · exact ⟨kb.heap hHeld.1 (by have := Ge.out.hPA; omega), kb.heap hHeld.2.1 (by have := Ge.out.hPB; omega), kb.heap hHeld.2.2 (by omega)⟩
              clear hK K eb bb kb zb ZA BA EA
              (try simp only [Act.put, nA, nB, nC])
              refine' wpAnyH_take (i := 17) (oi := { dst := Option.some 14, op := Op.assign (Operand.tmp 126), type := 51, pos := "ref.go:185", after := #[{ on := 13, ground := Ground.data }, { on := 16, ground := Ground.chain }, { on := 0, ground := Ground.phase }, { on := 1, ground := Ground.phase }, { on := 2, ground := Ground.phase }, { on := 3, ground := Ground.phase }, { on := 4, ground := Ground.phase }, { on := 5, ground := Ground.phase }, { on := 6, ground := Ground.phase }, { on := 7, ground := Ground.phase }, { on := 8, ground := Ground.phase }, { on := 9, ground := Ground.phase }, { on := 10, ground := Ground.phase }, { on := 11, ground := Ground.phase }, { on := 12, ground := Ground.phase }, { on := 13, ground := Ground.phase }, { on := 14, ground := Ground.textOnly Departure.lateStores }, { on := 15, ground := Ground.phase }, { on := 16, ground := Ground.phase }], guard := Option.none }) rfl (by kernel_rfl) (by kernel_rfl) (by kernel_rfl) (fun _ _ _ h => h) (Or.inl ⟨by rfl, _⟩) (by assumption) _
              rotate_left
              · (intro wS hSw; (try dsimp only at hSw); go_simp; try with_reducible rfl)
              try simp only [Act.put, nA, nB, nC]
              refine' wpAnyH_take (i := 18) (oi := ⟨some 15, .assign (.tmp 127), 4, "ref.go:185", #[⟨14, .data⟩, ⟨17, .chain⟩, ⟨0, .phase⟩, ⟨1, .phase⟩, ⟨2, .phase⟩, ⟨3, .phase⟩, ⟨4, .phase⟩, ⟨5, .phase⟩, ⟨6, .phase⟩, ⟨7, .phase⟩, ⟨8, .phase⟩, ⟨9, .phase⟩, ⟨10, .phase⟩, ⟨11, .phase⟩, ⟨12, .phase⟩, ⟨13, .phase⟩, ⟨14, .phase⟩, ⟨15, .phase⟩, ⟨16, .phase⟩, ⟨17, .phase⟩], none⟩) rfl (by kernel_rfl) (by kernel_rfl) (by kernel_rfl) (fun _ _ _ h => h) (Or.inl ⟨by rfl, _⟩) (by assumption) _
              rotate_left
              · (intro wS hSw; (try dsimp only at hSw); go_simp; try with_reducible rfl)
              try simp only [Act.put, nA, nB, nC]
              refine wpAnyH_done (by kernel_rfl) ?_ _
              clear hHeld
              go_wp2_with fail
              rw [HR3.out]
              refine bodyPost_ret (v := .tuple #[dv R1, dv R2, .slice (some ⟨g2, 0, none⟩) (ys.length + 1) cap2, .bool ok]) ?_ rfl ⟨_, rfl, by rw [HN.out]; exact OB.out.mono (by omega), by rw [HN.out]; exact BB.out⟩
              exact results_DDTT Try.results30 rfl rfl rfl rfl HR11.out HR22.out EA2.out EB.out
            · obtain ⟨q, hq⟩ : ∃ q, v1.heap.size = q := ⟨_, rfl⟩
              set_option maxRecDepth 20000 in
              refine step_of rfl (wp_sliceQ _ rfl (LA ++ B) (by rw [List.length_append, hLAl.out, HBl.out]) rfl q hq ?_)
              intro v2 e9 b9 z9
              have hb2 : Below v1.heap.size v1 v2 := (by rw [hq]; exact b9)
              have GV2 := Lib.hid (GV1.out.below hb2)
              have Lit := Lib.hid e9
              clear e9 b9 hb2 GV1 hq
              refine hK.out _ _ ?_ (fun hHeld => ?_)
              · exact ⟨GV2.out.a, GV2.out.b, GV2.out.la⟩
              clear hK K
              (try simp only [Act.put, nA, nB, nC])
              refine wpAnyH_ready (rs := [7]) (by kernel_rfl) (by simp) ?_
              refine (AllReadyH.cons (o := ⟨some 120, .call ⟨.value (.func 60), #[.tmp 117, .tmp 118, .tmp 119], #[3, 23, 23]⟩, 23, "ref.go:185", #[⟨4, .data⟩, ⟨5, .data⟩, ⟨6, .data⟩, ⟨3, .chain⟩], none⟩) rfl (fun K hK => ?_) AllReadyH.nil)
              go_simp
              go_at_call 60
              refine (refKnot_any w0m LA B _ h1m hm hLAl HBl).mono ?_
              rintro e v3 ⟨rfl, hb⟩
              have hb2 : Below v2.heap.size v2 v3 := hb
              have GV3 := Lib.hid (GV2.out.below hb2)
              have Lit := Lib.hid (heap_below Lit.out hb2 (by omega))
              have hz2 := hb2.size
              clear hb hb2 GV2
              refine hK.out _ _ ?_ (fun hHeld => ?_)
              · exact ⟨GV3.out.a, GV3.out.b, GV3.out.la⟩
              clear hK K
              (try simp only [Act.put, nA, nB, nC])
              refine wpAnyH_ready (rs := [13]) (by kernel_rfl) (by simp) ?_
              refine (AllReadyH.cons (o := ⟨some 126, .call ⟨.builtin .append, #[.tmp 121, .tmp 125], #[51, 51]⟩, 51, "ref.go:185", #[⟨8, .data⟩, ⟨12, .data⟩, ⟨7, .chain⟩], none⟩) rfl (fun K hK => ?_) AllReadyH.nil)
              set_option maxRecDepth 20000 in
              refine step_of rfl (wp_appQ v3 (LA ++ B) (by rw [List.length_append, hLAl.out, HBl.out]) _ _ rfl (N + 4) (.slice (some ⟨g1, 0, none⟩) ys.length cap1) ys rfl GV3.out.own q 1 rfl Lit.out (by omega) (by have := GV3.out.hPA; have := heap_lt GV3.out.a; omega) ?_)
              intro g2 cap2 we ho9 hg9 hs9
              have Ge : Hid (RG w N we P (P + 1) A B LA (.slice (some ⟨g2, 0, none⟩) (ys.length + 1) cap2) (ys ++ [LA ++ B])) := GV3.out.app hg9 ho9 (fun g hg => by have e : g2 = g := Option.some.inj hg; subst e; exact hs9)
              refine hK.out _ _ ?_ (fun hHeld => ?_)
              · exact ⟨Ge.out.a, Ge.out.b, Ge.out.la⟩
              clear hK K ho9 hg9 hs9 GV3
              (try simp only [Act.put, nA, nB, nC])
              obtain ⟨R1, hR1⟩ : ∃ y, knotD w0m LA A = y := ⟨_, rfl⟩
              have HR11 : Hid (R1.length = 32) := by show _ = _; rw [← hR1]; exact knotD_length _ _ _
              rw [hR1] at HR3 ⊢
              clear hR1
              obtain ⟨R2, hR2⟩ : ∃ y, knotD w0m LA B = y := ⟨_, rfl⟩
              have HR22 : Hid (R2.length = 32) := by show _ = _; rw [← hR2]; exact knotD_length _ _ _
              rw [hR2] at HR3 ⊢
              clear hR2
              refine wpAnyH_ready (rs := [15]) (by kernel_rfl) (by simp) ?_
              refine (AllReadyH.cons (o := { dst := Option.none, op := Op.store 23 (Operand.tmp 12) (Operand.tmp 116), type := 0, pos := "ref.go:185", after := #[{ on := 3, ground := Ground.data }, { on := 13, ground := Ground.chain }, { on := 0, ground := Ground.phase }, { on := 1, ground := Ground.phase }, { on := 2, ground := Ground.phase }, { on := 3, ground := Ground.phase }, { on := 4, ground := Ground.textOnly Departure.lateStores }, { on := 5, ground := Ground.textOnly Departure.lateStores }, { on := 6, ground := Ground.textOnly Departure.lateStores }, { on := 7, ground := Ground.textOnly Departure.lateStoresUnsure }, { on := 8, ground := Ground.textOnly Departure.lateStores }, { on := 9, ground := Ground.textOnly Departure.lateStores }, { on := 10, ground := Ground.textOnly Departure.lateStores }, { on := 11, ground := Ground.textOnly Departure.lateStores }, { on := 12, ground := Ground.textOnly Departure.lateStores }, { on := 13, ground := Ground.textOnly Departure.lateStoresUnsure }, { on := 14, ground := Ground.textOnly Departure.lateStores }], guard := Option.none }) rfl (fun K hK => ?_) AllReadyH.nil)
              set_option maxRecDepth 20000 in
              refine step_of rfl (wp_storeD _ _ rfl (N + 1) rfl zeros32 R1 rfl HR11.out rfl Ge.out.z1 ?_)
              intro wa ea ba ka za
              have EA := Lib.hid ea
              have BA : Hid (Below N w wa) := Ge.out.hb.trans (ba.mono (by omega))
              have ZA := Lib.hid (ka.heap Ge.out.z2 (by omega))
              have OA := Lib.hid (Ge.out.own.heap (fun g hg => ka.block g (Ge.out.own.lt g hg).2 (fun e => by have := (Ge.out.own.lt g hg).1; omega)))
              refine hK.out _ _ ?_ (fun hHeld => ?_)
              · exact ⟨ka.heap Ge.out.a (by have := Ge.out.hPA; omega), ka.heap Ge.out.b (by have := Ge.out.hPB; omega), ka.heap Ge.out.la (by omega)⟩
              clear hK K ea ba ka za
              (try simp only [Act.put, nA, nB, nC])
              refine wpAnyH_ready (rs := [16]) (by kernel_rfl) (by simp) ?_
              refine (AllReadyH.cons (o := { dst := Option.none, op := Op.store 23 (Operand.tmp 13) (Operand.tmp 120), type := 0, pos := "ref.go:185", after := #[{ on := 7, ground := Ground.data }, { on := 15, ground := Ground.chain }, { on := 0, ground := Ground.phase }, { on := 1, ground := Ground.phase }, { on := 2, ground := Ground.phase }, { on := 3, ground := Ground.phase }, { on := 4, ground := Ground.phase }, { on := 5, ground := Ground.phase }, { on := 6, ground := Ground.phase }, { on := 7, ground := Ground.phase }, { on := 8, ground := Ground.textOnly Departure.lateStores }, { on := 9, ground := Ground.textOnly Departure.lateStores }, { on := 10, ground := Ground.textOnly Departure.lateStores }, { on := 11, ground := Ground.textOnly Departure.lateStores }, { on := 12, ground := Ground.textOnly Departure.lateStores }, { on := 13, ground := Ground.textOnly Departure.lateStoresUnsure }, { on := 14, ground := Ground.textOnly Departure.lateStores }, { on := 15, ground := Ground.phase }], guard := Option.none }) rfl (fun K hK => ?_) AllReadyH.nil)
              set_option maxRecDepth 20000 in
              refine step_of rfl (wp_storeD _ _ rfl (N + 2) rfl zeros32 R2 rfl HR22.out rfl ZA.out ?_)
              intro wb eb bb kb zb
              have EB := Lib.hid eb
              have EA2 := Lib.hid (kb.heap EA.out (by omega))
              have BB : Hid (Below N w wb) := BA.out.trans (bb.mono (by omega))
              have OB := Lib.hid (OA.out.heap (fun g hg => kb.block g (OA.out.lt g hg).2 (fun e => by have := (OA.out.lt g hg).1; omega)))
              refine hK.out _ _ ?_ (fun hHeld => ?_)
              · exact ⟨kb.heap hHeld.1 (by have := Ge.out.hPA; omega), kb.heap hHeld.2.1 (by have := Ge.out.hPB; omega), kb.heap hHeld.2.2 (by omega)⟩
              clear hK K eb bb kb zb ZA BA EA
              (try simp only [Act.put, nA, nB, nC])
              refine' wpAnyH_take (i := 17) (oi := { dst := Option.some 14, op := Op.assign (Operand.tmp 126), type := 51, pos := "ref.go:185", after := #[{ on := 13, ground := Ground.data }, { on := 16, ground := Ground.chain }, { on := 0, ground := Ground.phase }, { on := 1, ground := Ground.phase }, { on := 2, ground := Ground.phase }, { on := 3, ground := Ground.phase }, { on := 4, ground := Ground.phase }, { on := 5, ground := Ground.phase }, { on := 6, ground := Ground.phase }, { on := 7, ground := Ground.phase }, { on := 8, ground := Ground.phase }, { on := 9, ground := Ground.phase }, { on := 10, ground := Ground.phase }, { on := 11, ground := Ground.phase }, { on := 12, ground := Ground.phase }, { on := 13, ground := Ground.phase }, { on := 14, ground := Ground.textOnly Departure.lateStores }, { on := 15, ground := Ground.phase }, { on := 16, ground := Ground.phase }], guard := Option.none }) rfl (by kernel_rfl) (by kernel_rfl) (by kernel_rfl) (fun _ _ _ h => h) (Or.inl ⟨by rfl, _⟩) (by assumption) _
              rotate_left
              · (intro wS hSw; (try dsimp only at hSw); go_simp; try with_reducible rfl)
              try simp only [Act.put, nA, nB, nC]
              refine' wpAnyH_take (i := 18) (oi := ⟨some 15, .assign (.tmp 127), 4, "ref.go:185", #[⟨14, .data⟩, ⟨17, .chain⟩, ⟨0, .phase⟩, ⟨1, .phase⟩, ⟨2, .phase⟩, ⟨3, .phase⟩, ⟨4, .phase⟩, ⟨5, .phase⟩, ⟨6, .phase⟩, ⟨7, .phase⟩, ⟨8, .phase⟩, ⟨9, .phase⟩, ⟨10, .phase⟩, ⟨11, .phase⟩, ⟨12, .phase⟩, ⟨13, .phase⟩, ⟨14, .phase⟩, ⟨15, .phase⟩, ⟨16, .phase⟩, ⟨17, .phase⟩], none⟩) rfl (by kernel_rfl) (by kernel_rfl) (by kernel_rfl) (fun _ _ _ h => h) (Or.inl ⟨by rfl, _⟩) (by assumption) _
              rotate_left
              · (intro wS hSw; (try dsimp only at hSw); go_simp; try with_reducible rfl)
              try simp only [Act.put, nA, nB, nC]
              refine wpAnyH_done (by kernel_rfl) ?_ _
              clear hHeld
              go_wp2_with fail
              rw [HR3.out]
              refine bodyPost_ret (v := .tuple #[dv R1, dv R2, .slice (some ⟨g2, 0, none⟩) (ys.length + 1) cap2, .bool ok]) ?_ rfl ⟨_, rfl, by rw [HN.out]; exact OB.out.mono (by omega), by rw [HN.out]; exact BB.out⟩
              exact results_DDTT Try.results30 rfl rfl rfl rfl HR11.out HR22.out EA2.out EB.out
          · obtain ⟨q, hq⟩ : ∃ q, wd.heap.size = q := ⟨_, rfl⟩
            set_option maxRecDepth 20000 in
            refine step_of rfl (wp_sliceQ _ rfl (LA ++ B) (by rw [List.length_append, hLAl.out, HBl.out]) rfl q hq ?_)
            intro v1 e9 b9 z9
            have hb2 : Below wd.heap.size wd v1 := Below.trans (Below.refl _ _).drew (by rw [hq]; exact b9)
            have GV1 := Lib.hid (Gd.out.below hb2)
            have Lit := Lib.hid e9
            clear e9 b9 hb2 Gd hq
            refine hK.out _ _ ?_ (fun hHeld => ?_)
            · exact ⟨GV1.out.a, GV1.out.b, GV1.out.la⟩
            clear hK K
            (try simp only [Act.put, nA, nB, nC])
            refine wpAnyH_ready (rs := [3]) (by kernel_rfl) (by simp) ?_
            refine (AllReadyH.cons (o := ⟨some 116, .call ⟨.value (.func 60), #[.tmp 113, .tmp 114, .tmp 115], #[3, 23, 23]⟩, 23, "ref.go:185", #[⟨0, .data⟩, ⟨1, .data⟩, ⟨2, .data⟩], none⟩) rfl (fun K hK => ?_) AllReadyH.nil)
            go_simp
            go_at_call 60
            refine (refKnot_any w0m LA A _ h1m hm hLAl HAl).mono ?_
            rintro e v2 ⟨rfl, hb⟩
            have hb2 : Below v1.heap.size v1 v2 := hb
            have GV2 := Lib.hid (GV1.out.below hb2)
            have Lit := Lib.hid (heap_below Lit.out hb2 (by omega))
            have hz1 := hb2.size
            clear hb hb2 GV1
            refine hK.out _ _ ?_ (fun hHeld => ?_)
            · exact ⟨GV2.out.a, GV2.out.b, GV2.out.la⟩
            clear hK K
            (try simp only [Act.put, nA, nB, nC])
            refine wpAnyH_ready (rs := [7]) (by kernel_rfl) (by simp) ?_
            refine (AllReadyH.cons (o := ⟨some 120, .call ⟨.value (.func 60), #[.tmp 117, .tmp 118, .tmp 119], #[3, 23, 23]⟩, 23, "ref.go:185", #[⟨4, .data⟩, ⟨5, .data⟩, ⟨6, .data⟩, ⟨3, .chain⟩], none⟩) rfl (fun K hK => ?_) AllReadyH.nil)
            go_simp
            go_at_call 60
            refine (refKnot_any w0m LA B _ h1m hm hLAl HBl).mono ?_
            rintro e v3 ⟨rfl, hb⟩
            have hb2 : Below v2.heap.size v2 v3 := hb
            have GV3 := Lib.hid (GV2.out.below hb2)
            have Lit := Lib.hid (heap_below Lit.out hb2 (by omega))
            have hz2 := hb2.size
            clear hb hb2 GV2
            refine hK.out _ _ ?_ (fun hHeld => ?_)
            · exact ⟨GV3.out.a, GV3.out.b, GV3.out.la⟩
            clear hK K
            (try simp only [Act.put, nA, nB, nC])
            refine wpAnyH_ready (rs := [13]) (by kernel_rfl) (by simp) ?_
            refine (AllReadyH.cons (o := ⟨some 126, .call ⟨.builtin .append, #[.tmp 121, .tmp 125], #[51, 51]⟩, 51, "ref.go:185", #[⟨8, .data⟩, ⟨12, .data⟩, ⟨7, .chain⟩], none⟩) rfl (fun K hK => ?_) AllReadyH.nil)
            set_option maxRecDepth 20000 in
            refine step_of rfl (wp_appQ v3 (LA ++ B) (by rw [List.length_append, hLAl.out, HBl.out]) _ _ rfl (N + 4) (.slice (some ⟨g1, 0, none⟩) ys.length cap1) ys rfl GV3.out.own q 1 rfl Lit.out (by omega) (by have := GV3.out.hPA; have := heap_lt GV3.out.a; omega) ?_)
            intro g2 cap2 we ho9 hg9 hs9
            have Ge : Hid (RG w N we P (P + 1) A B LA (.slice (some ⟨g2, 0, none⟩) (ys.length + 1) cap2) (ys ++ [LA ++ B])) := GV3.out.app hg9 ho9 (fun g hg => by have e : g2 = g := Option.some.inj hg; subst e; exact hs9)
            refine hK.out _ _ ?_ (fun hHeld => ?_)
            · exact ⟨Ge.out.a, Ge.out.b, Ge.out.la⟩
            clear hK K ho9 hg9 hs9 GV3
            (try simp only [Act.put, nA, nB, nC])
            obtain ⟨R1, hR1⟩ : ∃ y, knotD w0m LA A = y := ⟨_, rfl⟩
            have HR11 : Hid (R1.length = 32) := by show _ = _; rw [← hR1]; exact knotD_length _ _ _
            rw [hR1] at HR3 ⊢
            clear hR1
            obtain ⟨R2, hR2⟩ : ∃ y, knotD w0m LA B = y := ⟨_, rfl⟩
            have HR22 : Hid (R2.length = 32) := by show _ = _; rw [← hR2]; exact knotD_length _ _ _
            rw [hR2] at HR3 ⊢
            clear hR2
            refine wpAnyH_ready (rs := [15]) (by kernel_rfl) (by simp) ?_
            refine (AllReadyH.cons (o := { dst := Option.none, op := Op.store 23 (Operand.tmp 12) (Operand.tmp 116), type := 0, pos := "ref.go:185", after := #[{ on := 3, ground := Ground.data }, { on := 13, ground := Ground.chain }, { on := 0, ground := Ground.phase }, { on := 1, ground := Ground.phase }, { on := 2, ground := Ground.phase }, { on := 3, ground := Ground.phase }, { on := 4, ground := Ground.textOnly Departure.lateStores }, { on := 5, ground := Ground.textOnly Departure.lateStores }, { on := 6, ground := Ground.textOnly Departure.lateStores }, { on := 7, ground := Ground.textOnly Departure.lateStoresUnsure }, { on := 8, ground := Ground.textOnly Departure.lateStores }, { on := 9, ground := Ground.textOnly Departure.lateStores }, { on := 10, ground := Ground.textOnly Departure.lateStores }, { on := 11, ground := Ground.textOnly Departure.lateStores }, { on := 12, ground := Ground.textOnly Departure.lateStores }, { on := 13, ground := Ground.textOnly Departure.lateStoresUnsure }, { on := 14, ground := Ground.textOnly Departure.lateStores }], guard := Option.none }) rfl (fun K hK => ?_) AllReadyH.nil)
            set_option maxRecDepth 20000 in
            refine step_of rfl (wp_storeD _ _ rfl (N + 1) rfl zeros32 R1 rfl HR11.out rfl Ge.out.z1 ?_)
            intro wa ea ba ka za
            have EA := Lib.hid ea
            have BA : Hid (Below N w wa) := Ge.out.hb.trans (ba.mono (by omega))
            have ZA := Lib.hid (ka.heap Ge.out.z2 (by omega))
            have OA := Lib.hid (Ge.out.own.heap (fun g hg => ka.block g (Ge.out.own.lt g hg).2 (fun e => by have := (Ge.out.own.lt g hg).1; omega)))
            refine hK.out _ _ ?_ (fun hHeld => ?_)
            · exact ⟨ka.heap Ge.out.a (by have := Ge.out.hPA; omega), ka.heap Ge.out.b (by have := Ge.out.hPB; omega), ka.heap Ge.out.la (by omega)⟩
            clear hK K ea ba ka za
            (try simp only [Act.put, nA, nB, nC])
            refine wpAnyH_ready (rs := [16]) (by kernel_rfl) (by simp) ?_
            refine (AllReadyH.cons (o := { dst := Option.none, op := Op.store 23 (Operand.tmp 13) (Operand.tmp 120), type := 0, pos := "ref.go:185", after := #[{ on := 7, ground := Ground.data }, { on := 15, ground := Ground.chain }, { on := 0, ground := Ground.phase }, { on := 1, ground := Ground.phase }, { on := 2, ground := Ground.phase }, { on := 3, ground := Ground.phase }, { on := 4, ground := Ground.phase }, { on := 5, ground := Ground.phase }, { on := 6, ground := Ground.phase }, { on := 7, ground := Ground.phase }, { on := 8, ground := Ground.textOnly Departure.lateStores }, { on := 9, ground := Ground.textOnly Departure.lateStores }, { on := 10, ground := Ground.textOnly Departure.lateStores }, { on := 11, ground := Ground.textOnly Departure.lateStores }, { on := 12, ground := Ground.textOnly Departure.lateStores }, { on := 13, ground := Ground.textOnly Departure.lateStoresUnsure }, { on := 14, ground := Ground.textOnly Departure.lateStores }, { on := 15, ground := Ground.phase }], guard := Option.none }) rfl (fun K hK => ?_) AllReadyH.nil)
            set_option maxRecDepth 20000 in
            refine step_of rfl (wp_storeD _ _ rfl (N + 2) rfl zeros32 R2 rfl HR22.out rfl ZA.out ?_)
            intro wb eb bb kb zb
            have EB := Lib.hid eb
            have EA2 := Lib.hid (kb.heap EA.out (by omega))
            have BB : Hid (Below N w wb) := BA.out.trans (bb.mono (by omega))
            have OB := Lib.hid (OA.out.heap (fun g hg => kb.block g (OA.out.lt g hg).2 (fun e => by have := (OA.out.lt g hg).1; omega)))
            refine hK.out _ _ ?_ (fun hHeld => ?_)
            · exact ⟨kb.heap hHeld.1 (by have := Ge.out.hPA; omega), kb.heap hHeld.2.1 (by have := Ge.out.hPB; omega), kb.heap hHeld.2.2 (by omega)⟩
            clear hK K eb bb kb zb ZA BA EA
            (try simp only [Act.put, nA, nB, nC])
            refine' wpAnyH_take (i := 17) (oi := { dst := Option.some 14, op := Op.assign (Operand.tmp 126), type := 51, pos := "ref.go:185", after := #[{ on := 13, ground := Ground.data }, { on := 16, ground := Ground.chain }, { on := 0, ground := Ground.phase }, { on := 1, ground := Ground.phase }, { on := 2, ground := Ground.phase }, { on := 3, ground := Ground.phase }, { on := 4, ground := Ground.phase }, { on := 5, ground := Ground.phase }, { on := 6, ground := Ground.phase }, { on := 7, ground := Ground.phase }, { on := 8, ground := Ground.phase }, { on := 9, ground := Ground.phase }, { on := 10, ground := Ground.phase }, { on := 11, ground := Ground.phase }, { on := 12, ground := Ground.phase }, { on := 13, ground := Ground.phase }, { on := 14, ground := Ground.textOnly Departure.lateStores }, { on := 15, ground := Ground.phase }, { on := 16, ground := Ground.phase }], guard := Option.none }) rfl (by kernel_rfl) (by kernel_rfl) (by kernel_rfl) (fun _ _ _ h => h) (Or.inl ⟨by rfl, _⟩) (by assumption) _
            rotate_left
            · (intro wS hSw; (try dsimp only at hSw); go_simp; try with_reducible rfl)
            try simp only [Act.put, nA, nB, nC]
            refine' wpAnyH_take (i := 18) (oi := ⟨some 15, .assign (.tmp 127), 4, "ref.go:185", #[⟨14, .data⟩, ⟨17, .chain⟩, ⟨0, .phase⟩, ⟨1, .phase⟩, ⟨2, .phase⟩, ⟨3, .phase⟩, ⟨4, .phase⟩, ⟨5, .phase⟩, ⟨6, .phase⟩, ⟨7, .phase⟩, ⟨8, .phase⟩, ⟨9, .phase⟩, ⟨10, .phase⟩, ⟨11, .phase⟩, ⟨12, .phase⟩, ⟨13, .phase⟩, ⟨14, .phase⟩, ⟨15, .phase⟩, ⟨16, .phase⟩, ⟨17, .phase⟩], none⟩) rfl (by kernel_rfl) (by kernel_rfl) (by kernel_rfl) (fun _ _ _ h => h) (Or.inl ⟨by rfl, _⟩) (by assumption) _
            rotate_left
            · (intro wS hSw; (try dsimp only at hSw); go_simp; try with_reducible rfl)
            try simp only [Act.put, nA, nB, nC]
            refine wpAnyH_done (by kernel_rfl) ?_ _
            clear hHeld
            go_wp2_with fail
            rw [HR3.out]
            refine bodyPost_ret (v := .tuple #[dv R1, dv R2, .slice (some ⟨g2, 0, none⟩) (ys.length + 1) cap2, .bool ok]) ?_ rfl ⟨_, rfl, by rw [HN.out]; exact OB.out.mono (by omega), by rw [HN.out]; exact BB.out⟩
            exact results_DDTT Try.results30 rfl rfl rfl rfl HR11.out HR22.out EA2.out EB.out
end Go.Proofs.Ytihbhpggpnmifaa

