/-
 The walk of the document's Of.
-/
import Derived.Test.YtihbhpggpnmifaaGU
set_option linter.unusedSimpArgs false
set_option linter.unusedVariables false
namespace Go.Proofs.Ytihbhpggpnmifaa
open Go.RowKit Go.Lib Hw
theorem DRow.dropAt {w : World} {lim b o c n : Nat} {xs : List Dg} (h : DRow w lim (.slice (some ⟨b, o, none⟩) n c) xs) (k : Nat) (hk : k ≤ xs.length) : DRow w lim (.slice (some ⟨b, o + k * 32, none⟩) (n - k) (c - k)) (xs.drop k) := by
 obtain ⟨h0, ad', c', e, h1, h2, h3⟩ := h
 simp only [Value.slice.injEq] at e
 obtain ⟨rfl, rfl, rfl⟩ := e
 refine ⟨h0.drop k, _, c - k, by rw [List.length_drop], by rw [List.length_drop]; omega, by omega, fun hp => ?_⟩
 rw [List.length_drop] at hp
 obtain ⟨b', o', e, hb1, hb2, hr⟩ := h3 (by omega)
 simp only [Option.some.injEq, Addr.mk.injEq, and_true] at e
 obtain ⟨rfl, rfl⟩ := e
 refine ⟨b, o + k * 32, rfl, hb1, hb2, fun i hi => ?_⟩
 rw [List.length_drop] at hi
 rw [List.getElem_drop]
 have := hr (k + i) (by omega)
 rw [show o + (k + i) * 32 = o + k * 32 + i * 32 by omega] at this
 exact this
theorem ringD_length (m : Nat) (l : List Dg) (h : All32 l) : (ringD m l).length = 32 := by
 match l, h with
 | [], _ => rw [ringD_nil]; exact noneD_length m
 | [x], h => rw [ringD_one]; exact h x (by simp)
 | x :: y :: r, h => rw [ringD_more m _ (by simp)]; exact knotD_length _ _ _
theorem strRow_nil (w : World) : StrRow w (.slice none 0 0) [] := ⟨none, 0, rfl, fun _ => rfl, fun h => by simp at h⟩
set_option maxHeartbeats 8000000 in
theorem refRing_any (m : Nat) (h1m : 1 ≤ m) (hm : m ≤ 32) : ∀ (n : Nat) (v : Value) (l : List Dg) (w : World), l.length = n → Hid (DRow w w.heap.size v l) → n ≤ 1048576 →
  Calls Try.prog 54 #[.int .i64 (m : Int), v] w (fun e w' => e = .returned (dv (ringD m l)) ∧ Below w.heap.size w w') := by
 intro n
 induction n using Nat.strongRecOn with
 | _ n ih =>
  intro v l w hln hd hn
  have IH := Lib.hid ih
  clear ih
  obtain ⟨R, hR⟩ : ∃ R, ringD m l = R := ⟨_, rfl⟩
  have hRl : Hid (R.length = 32) := by show _ = _; rw [← hR]; exact ringD_length m l hd.out.1
  rw [hR]
  have HR := Lib.hid hR
  clear hR
  have HA : Hid (All32 l) := hd.out.1
  obtain ⟨_, ad, c, rfl, hc1, hc2, hrow⟩ := hd.out
  have HRow := Lib.hid hrow
  clear hrow
  rw [hln] at hd hc1 ⊢
  have HLn := Lib.hid hln
  obtain ⟨N, hN⟩ : ∃ N, w.heap.size = N := ⟨_, rfl⟩
  have HN := Lib.hid hN
  go_enter Try.func54, Try.ntmps54
  go_upto_region 0 with fail
  refine wp_region_list ?_
  refine wpList_allocD rfl rfl N hN ?_
  intro w0 e0 b0 z0
  try simp only [Act.put,nA,nB,nC]
  have Z0 := Lib.hid e0
  have B0 := Lib.hid b0
  clear e0 b0 hN
  by_cases hn0 : n = 0
  case pos =>
   have hl0 : l = [] := List.eq_nil_of_length_eq_zero (by omega)
   have HR2 : Hid (digL (m : Int) ringsTag [] = R) := by
    show _ = _
    rw [← HR.out, hl0]
    rfl
   have q1 : ((n : Int) == 0) = true := by simp; omega
   have q2 : (n == 0) = true := by simp; omega
   clear hln hl0
   go_upto_region 2 with fail
   refine wp_region_list ?_
   (refine wpList_plain rfl (fun K hK => ?_)); go_simp; refine hK _ _ ?_; clear hK K; try simp only [Act.put,nA,nB,nC]
   refine wpList_plain rfl (fun K hK => ?_)
   go_simp
   refine (refDigest_wide (m : Int) ringsTag (.slice none 0 0) [] w0 (Lib.hid (strRow_nil w0)) (by decide) (by decide)).mono ?_; rintro e w1 ⟨rfl, hb⟩; rw [HR2.out]
   refine hK _ _ ?_
   clear hK K
   try simp only [Act.put,nA,nB,nC]
   obtain ⟨E, hE⟩ : ∃ x, digE (m : Int) ringsTag = x := ⟨_, rfl⟩
   rw [hE]
   clear hE
   obtain ⟨P, hP⟩ : ∃ P, w1.heap.size = P := ⟨_, rfl⟩
   have hz := hb.size
   rw [hP] at hz
   have Z1 := Lib.hid (heap_below Z0.out hb (by omega))
   have B1 := Lib.hid (B0.out.trans (hb.mono (by omega)))
   clear hb q1 q2 Z0 B0
   iterate 3
    (refine wpList_plain rfl (fun K hK => ?_)); go_simp; refine hK _ _ ?_; clear hK K; try simp only [Act.put,nA,nB,nC]
   refine wpList_allocD rfl rfl P hP ?_
   intro w2 e2 b2 z2
   try simp only [Act.put,nA,nB,nC]
   refine wpList_storeD rfl _ _ rfl P rfl zeros32 R rfl hRl.out rfl e2 ?_
   intro w3 e3 b3 k3 z3
   try simp only [Act.put,nA,nB,nC]
   (refine wpList_plain rfl (fun K hK => ?_)); go_simp; refine hK _ _ ?_; clear hK K; try simp only [Act.put,nA,nB,nC]
   have b13 : Below P w1 w3 := b2.trans b3
   have Z3 := Lib.hid (heap_below Z1.out b13 (by omega))
   have B3 := Lib.hid (B1.out.trans (b13.mono (by omega)))
   have E3 := Lib.hid e3
   clear e2 b2 z2 e3 b3 k3 z3 b13 Z1 B1
   go_upto_region 3 with fail
   refine wp_region_list ?_
   refine wpList_loadD rfl _ rfl P rfl R hRl.out E3.out ?_
   try simp only [Act.put,nA,nB,nC]
   refine wpList_storeD rfl _ _ rfl N rfl zeros32 R rfl hRl.out rfl Z3.out ?_
   intro w4 e4 b4 k4 z4
   try simp only [Act.put,nA,nB,nC]
   have E4 := Lib.hid e4
   have B4 := Lib.hid (B3.out.trans (b4.mono (by omega)))
   clear e4 b4 k4 z4 Z3 B3 E3
   go_wp2_with fail
   refine bodyPost_ret (v := dv R) ?_ rfl ⟨rfl, by rw [HN.out]; exact B4.out⟩
   exact results_cell1 Try.results54 rfl (DB.load E4.out hRl.out)
  case neg =>
   have q1 : ((n : Int) == 0) = false := by simp; omega
   have q2 : (n == 0) = false := by simp; omega
   by_cases hn1 : n = 1
   case pos =>
    obtain ⟨x, hx⟩ : ∃ x, l = [x] := by
     match l, hln with
     | [x], _ => exact ⟨x, rfl⟩
     | [], h => simp at h; omega
     | x :: y :: r, h => simp at h; omega
    have hxR : x = R := by rw [← HR.out, hx, ringD_one]
    have q3 : ((n : Int) == 1) = true := by simp; omega
    have q4 : (n == 1) = true := by simp; omega
    obtain ⟨b, o, hb, _, hbw, hr⟩ := HRow.out (by omega)
    have hr0 := hr 0 (by omega)
    subst hx
    simp only [List.getElem_cons_zero] at hr0
    rw [hxR, Nat.zero_mul, Nat.add_zero] at hr0
    have hr1 := Lib.hid (range_block hr0 (B0.out.block b (by rw [← HN.out]; exact hbw)))
    subst hb
    clear hr hr0 HRow HA hd hln IH HR hxR
    have iq : (0 : Int) < (n : Int) := by omega
    go_upto_region 5 with fail
    refine wp_region_list ?_
    iterate 2
     (refine wpList_plain rfl (fun K hK => ?_)); go_simp; refine hK _ _ ?_; clear hK K; try simp only [Act.put,nA,nB,nC]
    refine wpList_loadRng rfl _ rfl b o (by first | rfl | simp) R hRl.out hr1.out ?_
    try simp only [Act.put,nA,nB,nC]
    refine wpList_storeD rfl _ _ rfl N rfl zeros32 R rfl hRl.out rfl Z0.out ?_
    intro w4 e4 b4 k4 z4
    try simp only [Act.put,nA,nB,nC]
    have E4 := Lib.hid e4
    have B4 := Lib.hid (B0.out.trans (b4.mono (by omega)))
    clear e4 b4 k4 z4 Z0 B0 q1 q2 q3 q4
    go_wp2_with fail
    refine bodyPost_ret (v := dv R) ?_ rfl ⟨rfl, by rw [HN.out]; exact B4.out⟩
    exact results_cell1 Try.results54 rfl (DB.load E4.out hRl.out)
   case neg =>
    have q3 : ((n : Int) == 1) = false := by simp; omega
    have q4 : (n == 1) = false := by simp; omega
    have hs := half_spec (n := n) (by omega)
    obtain ⟨k, hk⟩ : ∃ k, halfN n = k := ⟨_, rfl⟩
    rw [hk] at hs
    obtain ⟨hs1, hs2, hs3⟩ := hs
    obtain ⟨X, hX⟩ : ∃ X, ringD m (l.take k) = X := ⟨_, rfl⟩
    obtain ⟨Y, hY⟩ : ∃ Y, ringD m (l.drop k) = Y := ⟨_, rfl⟩
    have HXl : Hid (X.length = 32) := by show _ = _; rw [← hX]; exact ringD_length m _ (HA.out.take k)
    have HYl : Hid (Y.length = 32) := by show _ = _; rw [← hY]; exact ringD_length m _ (HA.out.drop k)
    have HK : Hid (knotD m X Y = R) := by
     show _ = _
     rw [← HR.out, ringD_more m l (by omega), hln, hk, hX, hY]
    obtain ⟨b, o, hb, _, hbw, _⟩ := HRow.out (by omega)
    subst hb
    have hlt : (l.take k).length = k := by rw [List.length_take]; omega
    have hld : (l.drop k).length = n - k := by rw [List.length_drop, hln]
    have HX := Lib.hid hX
    have HY := Lib.hid hY
    have HKn := Lib.hid hk
    have Hlt := Lib.hid hlt
    have Hld := Lib.hid hld
    have D0 := Lib.hid ((hd.out.low (by rw [HN.out]; exact B0.out) (Nat.le_refl _)).mono (lim' := w0.heap.size) B0.out.size)
    have hkl : k ≤ l.length := by omega
    have Hkl := Lib.hid hkl
    clear hX hY hk hlt hld HRow HR hd hln hkl HLn
    go_upto_region 6 with fail
    refine wp_region_list ?_
    iterate 2
     (refine wpList_plain rfl (fun K hK => ?_)); go_simp; refine hK _ _ ?_; clear hK K; try simp only [Act.put,nA,nB,nC]
    refine wpList_plain rfl (fun K hK => ?_)
    go_simp
    refine (refHalf_any n _ (by omega) (by omega)).mono ?_; rintro e w2 ⟨rfl, rfl⟩; rw [HKn.out]
    refine hK _ _ ?_
    clear hK K
    try simp only [Act.put,nA,nB,nC]
    (refine wpList_plain rfl (fun K hK => ?_)); go_simp; refine hK _ _ ?_; clear hK K; try simp only [Act.put,nA,nB,nC]
    clear q1 q2 q3 q4
    have ik : (k : Int) ≤ (n : Int) := by omega
    have kc : k ≤ c := by omega
    have kne : ¬ c = k := by omega
    go_upto_region 7 with fail
    refine wp_region_list ?_
    iterate 4
     (refine wpList_plain rfl (fun K hK => ?_)); go_simp; refine hK _ _ ?_; clear hK K; try simp only [Act.put,nA,nB,nC]
    refine wpList_plain rfl (fun K hK => ?_)
    go_simp
    refine (IH.out k hs2 _ (l.take k) w0 Hlt.out (Lib.hid (D0.out.take k Hkl.out)) (by omega)).mono ?_; rintro e w1 ⟨rfl, hb⟩; rw [HX.out]
    refine hK _ _ ?_
    clear hK K
    try simp only [Act.put,nA,nB,nC]
    obtain ⟨P, hP⟩ : ∃ P, w1.heap.size = P := ⟨_, rfl⟩
    have hz := hb.size
    rw [hP] at hz
    have Z1 := Lib.hid (heap_below Z0.out hb (by omega))
    have B1 := Lib.hid (B0.out.trans (hb.mono (by omega)))
    have D1 := Lib.hid ((D0.out.low hb (Nat.le_refl _)).mono (lim' := w1.heap.size) (by omega))
    clear hb Z0 B0 D0
    refine wpList_allocD rfl rfl P hP ?_
    intro w2 e2 b2 z2
    try simp only [Act.put,nA,nB,nC]
    refine wpList_storeD rfl _ _ rfl P rfl zeros32 X rfl HXl.out rfl e2 ?_
    intro w3 e3 b3 k3 z3
    try simp only [Act.put,nA,nB,nC]
    rw [z2] at z3
    have b13 : Below P w1 w3 := b2.trans b3
    have Z3 := Lib.hid (heap_below Z1.out b13 (by omega))
    have B3 := Lib.hid (B1.out.trans (b13.mono (by omega)))
    have D3 := Lib.hid ((D1.out.low (by rw [hP]; exact b13) (Nat.le_refl _)).mono (lim' := w3.heap.size) (by omega))
    have E3 := Lib.hid e3
    clear e2 b2 z2 e3 b3 k3 b13 Z1 B1 D1
    go_upto_region 8 with fail
    refine wp_region_list ?_
    iterate 4
     (refine wpList_plain rfl (fun K hK => ?_)); go_simp; refine hK _ _ ?_; clear hK K; try simp only [Act.put,nA,nB,nC]
    refine wpList_plain rfl (fun K hK => ?_)
    go_simp
    refine (IH.out (n - k) (by omega) _ (l.drop k) w3 Hld.out (Lib.hid (D3.out.dropAt k Hkl.out)) (by omega)).mono ?_; rintro e w4 ⟨rfl, hb⟩; rw [HY.out]
    refine hK _ _ ?_
    clear hK K
    try simp only [Act.put,nA,nB,nC]
    obtain ⟨P2, hP2⟩ : ∃ P, w4.heap.size = P := ⟨_, rfl⟩
    have hz4 := hb.size
    rw [hP2, z3] at hz4
    have Z4 := Lib.hid (heap_below Z3.out hb (by omega))
    have B4 := Lib.hid (B3.out.trans (hb.mono (by omega)))
    have E4 := Lib.hid (heap_below E3.out hb (by omega))
    clear hb Z3 B3 E3 D3 IH
    refine wpList_allocD rfl rfl P2 hP2 ?_
    intro w5 e5 b5 z5
    try simp only [Act.put,nA,nB,nC]
    refine wpList_storeD rfl _ _ rfl P2 rfl zeros32 Y rfl HYl.out rfl e5 ?_
    intro w6 e6 b6 k6 z6
    try simp only [Act.put,nA,nB,nC]
    rw [z5] at z6
    have b46 : Below P2 w4 w6 := b5.trans b6
    have Z6 := Lib.hid (heap_below Z4.out b46 (by omega))
    have X6 := Lib.hid (heap_below E4.out b46 (by omega))
    have B6 := Lib.hid (B4.out.trans (b46.mono (by omega)))
    have Y6 := Lib.hid e6
    clear e5 b5 z5 e6 b6 k6 b46 Z4 B4 E4
    go_upto_region 9 with fail
    refine wp_region_list ?_
    (refine wpList_plain rfl (fun K hK => ?_)); go_simp; refine hK _ _ ?_; clear hK K; try simp only [Act.put,nA,nB,nC]
    set_option maxRecDepth 20000 in
    refine wpList_loadD rfl _ rfl P rfl X HXl.out X6.out ?_
    try simp only [Act.put,nA,nB,nC]
    set_option maxRecDepth 20000 in
    refine wpList_loadD rfl _ rfl P2 rfl Y HYl.out Y6.out ?_
    try simp only [Act.put,nA,nB,nC]
    refine wpList_plain rfl (fun K hK => ?_)
    go_simp
    refine (refKnot_any m X Y w6 h1m hm HXl HYl).mono ?_; rintro e w7 ⟨rfl, hb⟩; rw [HK.out]
    refine hK _ _ ?_
    clear hK K
    try simp only [Act.put,nA,nB,nC]
    have Z7 := Lib.hid (heap_below Z6.out hb (by omega))
    have B7 := Lib.hid (B6.out.trans (hb.mono (by omega)))
    clear hb Z6 B6 X6 Y6
    set_option maxRecDepth 20000 in
    refine wpList_storeD rfl _ _ rfl N rfl zeros32 R rfl hRl.out rfl Z7.out ?_
    intro w8 e8 b8 k8 z8
    try simp only [Act.put,nA,nB,nC]
    have E8 := Lib.hid e8
    have B8 := Lib.hid (B7.out.trans (b8.mono (by omega)))
    clear e8 b8 k8 z8 Z7 B7
    go_wp2_with fail
    refine bodyPost_ret (v := dv R) ?_ rfl ⟨rfl, by rw [HN.out]; exact B8.out⟩
    exact results_cell1 Try.results54 rfl (DB.load E8.out hRl.out)
end Go.Proofs.Ytihbhpggpnmifaa
namespace Go.Proofs.Ytihbhpggpnmifaa
open Go.RowKit Go.Lib Hw
/-! ### plain -/
structure RG (w : World) (N : Nat) (W : World) (PA PB : Nat) (A B LA : Dg) (sv : Value) (xs : List Dg) : Prop where
 z1 : DB W (N + 1) zeros32
 z2 : DB W (N + 2) zeros32
 la : DB W (N + 3) LA
 a : DB W PA A
 b : DB W PB B
 own : OwnQ W (N + 4) sv xs
 hb : Below N w W
 hPA : N + 4 ≤ PA
 hPB : N + 4 ≤ PB
 ne : ∀ g, sv.ownBlock = some g → g ≠ PA ∧ g ≠ PB
end Go.Proofs.Ytihbhpggpnmifaa
