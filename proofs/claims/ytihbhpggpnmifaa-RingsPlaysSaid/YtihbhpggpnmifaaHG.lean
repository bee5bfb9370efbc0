/-
 The walk of the document's TrailOf.
-/
import Derived.Test.YtihbhpggpnmifaaGV
import Derived.Test.YtihbhpggpnmifaaGO
set_option linter.unusedSimpArgs false
set_option linter.unusedVariables false
namespace Go.Proofs.Ytihbhpggpnmifaa
open Go.RowKit Go.Lib Hw
theorem span_sub (w : Nat) (L : List Dg) (a N b n : Nat) (h : b + n ≤ N) : spanD w ((L.drop a).take N) b n = spanD w L (a + b) n := by
 unfold spanD
 rw [List.drop_take, List.drop_drop, List.take_take, Nat.min_eq_left (by omega)]
theorem trail_sub (w : Nat) (L : List Dg) (a N : Nat) : ∀ (n b i : Nat), b + n ≤ N → trailP w ((L.drop a).take N) b i n = trailP w L (a + b) i n := by
 intro n
 induction n using Nat.strongRecOn with
 | _ n ih =>
  intro b i h
  by_cases hn : n ≤ 1
  ·rw [trailP_one _ _ _ _ _ hn, trailP_one _ _ _ _ _ hn]
  ·have hs := half_spec (n := n) (by omega)
   by_cases hk : i < halfN n
   ·rw [trailP_left _ _ _ _ _ (by omega) hk, trailP_left _ _ _ _ _ (by omega) hk, ih (halfN n) (by omega) b i (by omega), span_sub w L a N (b + halfN n) (n - halfN n) (by omega), Nat.add_assoc]
   ·rw [trailP_right _ _ _ _ _ (by omega) hk, trailP_right _ _ _ _ _ (by omega) hk, ih (n - halfN n) (by omega) (b + halfN n) (i - halfN n) (by omega), span_sub w L a N b (halfN n) (by omega), Nat.add_assoc]
theorem trail_len (w : Nat) (L : List Dg) : ∀ (n a i : Nat), (trailP w L a i n).length ≤ n := by
 intro n
 induction n using Nat.strongRecOn with
 | _ n ih =>
  intro a i
  by_cases hn : n ≤ 1
  ·rw [trailP_one _ _ _ _ _ hn]; simp
  ·have hs := half_spec (n := n) (by omega)
   by_cases hk : i < halfN n
   ·rw [trailP_left _ _ _ _ _ (by omega) hk, List.length_append, List.length_singleton]
    have := ih (halfN n) (by omega) a i
    omega
   ·rw [trailP_right _ _ _ _ _ (by omega) hk, List.length_append, List.length_singleton]
    have := ih (n - halfN n) (by omega) (a + halfN n) (i - halfN n)
    omega
theorem trail_all32 (w : Nat) (L : List Dg) (hL : All32 L) : ∀ (n a i : Nat), a + n ≤ L.length → All32 (trailP w L a i n) := by
 intro n
 induction n using Nat.strongRecOn with
 | _ n ih =>
  intro a i h d hd
  by_cases hn : n ≤ 1
  ·rw [trailP_one w L a i n hn] at hd; simp at hd
  ·have hs := half_spec (n := n) (by omega)
   by_cases hk : i < halfN n
   ·rw [trailP_left w L a i n (by omega) hk] at hd
    rcases List.mem_append.1 hd with hd | hd
    ·exact ih (halfN n) (by omega) a i (by omega) d hd
    ·rw [List.mem_singleton.1 hd]; exact spanD_length w L _ _ hL (by omega)
   ·rw [trailP_right w L a i n (by omega) hk] at hd
    rcases List.mem_append.1 hd with hd | hd
    ·exact ih (n - halfN n) (by omega) _ _ (by omega) d hd
    ·rw [List.mem_singleton.1 hd]; exact spanD_length w L _ _ hL (by omega)
def RowPost (w : World) (T : List Dg) (e : Ending) (w' : World) : Prop := ∃ ov, e = .returned ov ∧ OwnR w' w.heap.size ov T ∧ Below w.heap.size w w'
set_option maxRecDepth 4000 in
set_option maxHeartbeats 8000000 in
theorem TrailOf_any (m : Nat) (h1m : 1 ≤ m) (hm : m ≤ 32) : ∀ (n i : Nat) (v : Value) (l : List Dg) (w : World), l.length = n → Hid (DRow w w.heap.size v l) → i < n → n ≤ 1048576 →
  Calls Try.prog 69 #[.int .i64 (m : Int), .int .i64 (i : Int), v] w (RowPost w (trailP m l 0 i n)) := by
 intro n
 induction n using Nat.strongRecOn with
 | _ n ih =>
  intro i v l w hln hd hi hn
  have IH := Lib.hid ih
  clear ih
  have HA : Hid (All32 l) := hd.out.1
  obtain ⟨_, ad, c, rfl, hc1, hc2, hrow⟩ := hd.out
  have HRow := Lib.hid hrow
  clear hrow
  rw [hln] at hd hc1 ⊢
  have HLn := Lib.hid hln
  by_cases hn1 : n ≤ 1
  case pos =>
   have q1 : decide ((n : Int) ≤ 1) = true := decide_eq_true (by omega)
   have q2 : decide (n ≤ 1) = true := decide_eq_true hn1
   rw [trailP_one m l 0 i n hn1]
   clear hln
   go_enter Try.func69, Try.ntmps69
   go_wp2_with fail
   go_ret
   exact ⟨_, rfl, OwnR.nil _ _, Below.refl _ _⟩
  case neg =>
   have q1 : decide ((n : Int) ≤ 1) = false := decide_eq_false (by omega)
   have q2 : decide (n ≤ 1) = false := decide_eq_false hn1
   have hs := half_spec (n := n) (by omega)
   have htl := trailP_left m l 0 i n (by omega)
   have htr := trailP_right m l 0 i n (by omega)
   obtain ⟨k, hk⟩ : ∃ k, halfN n = k := ⟨_, rfl⟩
   rw [hk] at hs htl htr
   obtain ⟨hs1, hs2, hs3⟩ := hs
   have hlt : (l.take k).length = k := by rw [List.length_take]; omega
   have hld : (l.drop k).length = n - k := by rw [List.length_drop, hln]
   obtain ⟨b, o, hb, _, hbw, _⟩ := HRow.out (by omega)
   subst hb
   have hkl : k ≤ l.length := by omega
   have hsa : ringD m (l.drop k) = spanD m l (0 + k) (n - k) := by
    unfold spanD
    rw [Nat.zero_add, List.take_of_length_le (by omega)]
   have hsb : ringD m (l.take k) = spanD m l 0 k := by unfold spanD; rw [List.drop_zero]
   have hta : ∀ i, trailP m (l.take k) 0 i k = trailP m l 0 i k := fun i => by
    have h := trail_sub m l 0 k k 0 i (by omega)
    rw [List.drop_zero] at h
    exact h
   have htb : ∀ i, trailP m (l.drop k) 0 i (n - k) = trailP m l (0 + k) i (n - k) := fun i => by
    have h := trail_sub m l k (n - k) (n - k) 0 i (by omega)
    rw [List.take_of_length_le (by omega), Nat.add_comm k 0] at h
    exact h
   have hXl := ringD_length m _ (HA.out.drop k)
   have hYl := ringD_length m _ (HA.out.take k)
   obtain ⟨X, hX⟩ : ∃ X, ringD m (l.drop k) = X := ⟨_, rfl⟩
   obtain ⟨Y, hY⟩ : ∃ Y, ringD m (l.take k) = Y := ⟨_, rfl⟩
   rw [hX] at hXl hsa
   rw [hY] at hYl hsb
   rw [← hsa] at htl
   rw [← hsb] at htr
   have HX := Lib.hid hX
   have HY := Lib.hid hY
   have HXl := Lib.hid hXl
   have HYl := Lib.hid hYl
   have HKn := Lib.hid hk
   have Hlt := Lib.hid hlt
   have Hld := Lib.hid hld
   have Hkl := Lib.hid hkl
   have Hta := Lib.hid hta
   have Htb := Lib.hid htb
   have Htl := Lib.hid htl
   have Htr := Lib.hid htr
   clear hX hY hXl hYl hk hlt hld hkl hta htb htl htr hsa hsb HRow hln HLn
   have ik : (k : Int) ≤ (n : Int) := by omega
   have kc : k ≤ c := by omega
   have kne : ¬ c = k := by omega
   by_cases hik : i < k
   case pos =>
    have d1 : decide (i < k) = true := decide_eq_true hik
    have d2 : decide ((i : Int) < (k : Int)) = true := decide_eq_true (by omega)
    have HT : Hid (trailP m l 0 i n = trailP m l 0 i k ++ [X]) := Htl.out hik
    obtain ⟨R, hR⟩ : ∃ R, trailP m l 0 i n = R := ⟨_, rfl⟩
    rw [hR] at HT ⊢
    clear hR
    have hZl := trail_len m l k 0 i
    have hll : l.length = n := by have h1 := Hlt.out; have h2 := Hld.out; rw [List.length_take] at h1; rw [List.length_drop] at h2; omega
    have hZa := trail_all32 m l HA.out k 0 i (by omega)
    have hZe := Hta.out i
    obtain ⟨Z, hZ⟩ : ∃ Z, trailP m l 0 i k = Z := ⟨_, rfl⟩
    rw [hZ] at HT hZl hZa hZe
    have HZa := Lib.hid hZa
    have HZe := Lib.hid hZe
    clear hZ hZa hZe hll Hta Htb Htl Htr
    obtain ⟨N, hN⟩ : ∃ N, w.heap.size = N := ⟨_, rfl⟩
    have HN := Lib.hid hN
    have D0 := hd
    clear hN hd
    go_enter Try.func69, Try.ntmps69
    go_upto_region 3 with fail
    with_reducible refine wp_region_list ?_
    iterate 2
     (with_reducible refine wpList_plain rfl ?_); intro K hK; go_simp; (with_reducible refine hK _ _ ?_); clear hK K; try simp only [Act.put,nA,nB,nC]
    with_reducible refine wpList_plain rfl ?_
    intro K hK
    go_simp
    refine (refHalf_any n _ (by omega) (by omega)).mono ?_; rintro e w2 ⟨rfl, rfl⟩; rw [HKn.out]
    first | with_reducible refine hK _ _ ?_ | refine hK _ _ ?_
    clear hK K
    try simp only [Act.put,nA,nB,nC]
    (with_reducible refine wpList_plain rfl ?_); intro K hK; go_simp; (with_reducible refine hK _ _ ?_); clear hK K; try simp only [Act.put,nA,nB,nC]
    clear q1 q2
    go_upto_region 5 with fail
    with_reducible refine wp_region_list ?_
    iterate 5
     (with_reducible refine wpList_plain rfl ?_); intro K hK; go_simp; (with_reducible refine hK _ _ ?_); clear hK K; try simp only [Act.put,nA,nB,nC]
    with_reducible refine wpList_plain rfl ?_
    intro K hK
    go_simp
    refine (IH.out k (by omega) i _ (l.take k) w Hlt.out (Lib.hid (D0.out.take k Hkl.out)) (by omega) (by omega)).mono ?_; rintro e w1 ⟨ov, rfl, o1, b1⟩; rw [HZe.out] at o1
    first | with_reducible refine hK _ _ ?_ | refine hK _ _ ?_
    clear hK K
    try simp only [Act.put,nA,nB,nC]
    have O1 := Lib.hid o1
    have B1 := Lib.hid b1
    have hz1 := b1.size
    have D1 := Lib.hid ((D0.out.low b1 (Nat.le_refl _)).mono (lim' := w1.heap.size) hz1)
    clear o1 b1 D0 IH
    (with_reducible refine wpList_plain rfl ?_); intro K hK; go_simp; (with_reducible refine hK _ _ ?_); clear hK K; try simp only [Act.put,nA,nB,nC]
    obtain ⟨ad1, cap1, hov, _⟩ := O1.out.shape
    subst hov
    go_upto_region 6 with fail
    with_reducible refine wp_region_list ?_
    iterate 5
     (with_reducible refine wpList_plain rfl ?_); intro K hK; go_simp; (with_reducible refine hK _ _ ?_); clear hK K; try simp only [Act.put,nA,nB,nC]
    with_reducible refine wpList_plain rfl ?_
    intro K hK
    go_simp
    refine (refRing_any m h1m hm (n - k) _ (l.drop k) w1 Hld.out (Lib.hid (D1.out.dropAt k Hkl.out)) (by omega)).mono ?_; rintro e w2 ⟨rfl, b2⟩; rw [HX.out]
    first | with_reducible refine hK _ _ ?_ | refine hK _ _ ?_
    clear hK K
    try simp only [Act.put,nA,nB,nC]
    have O2 := Lib.hid (O1.out.below b2 (fun g hg => (O1.out.lt g hg).2))
    have B2 := Lib.hid (B1.out.trans (b2.mono hz1))
    have hz2 := b2.size
    clear b2 D1 O1 B1
    obtain ⟨q, hq⟩ : ∃ q, w2.heap.size = q := ⟨_, rfl⟩
    refine wpList_plain rfl (fun K hK => ?_)
    refine wp_slice1 _ rfl X HXl.out rfl q hq ?_
    intro w3 e3 b3 z3
    refine hK _ _ ?_
    clear hK K
    try simp only [Act.put,nA,nB,nC]
    have hb3 : Below w2.heap.size w2 w3 := by rw [hq]; exact b3
    have O3 := Lib.hid (O2.out.below hb3 (fun g hg => (O2.out.lt g hg).2))
    have B3 := Lib.hid (B2.out.trans (hb3.mono (by omega)))
    clear b3 hb3 O2 B2
    refine wpList_plain rfl (fun K hK => ?_)
    refine wp_appR w3 X HXl.out _ _ rfl w.heap.size _ Z rfl O3.out HZa.out q 1 rfl e3 (by omega) (by omega) ?_
    intro g2 cap2 w4 ho hg2 hs2
    refine hK _ _ ?_
    clear hK K
    try simp only [Act.put,nA,nB,nC]
    have B4 := Lib.hid (B3.out.trans ((Mod.grown (S := fun k => (Value.slice ad1 Z.length cap1).ownBlock = some k) hg2 (fun k e => e)).below (n := w.heap.size) (fun k hk e => by have := (O3.out.lt k e).1; omega) (by omega)))
    have O4 : Hid (OwnR w4 w.heap.size (.slice (some ⟨g2, 0, none⟩) (Z.length + 1) cap2) R) := by show OwnR _ _ _ _; rw [HT.out]; exact ho
    clear ho hg2 hs2 O3 B3
    (with_reducible refine wpList_plain rfl ?_); intro K hK; go_simp; (with_reducible refine hK _ _ ?_); clear hK K; try simp only [Act.put,nA,nB,nC]
    go_wp2_with fail
    go_ret
    exact ⟨_, rfl, O4.out, B4.out⟩
   case neg =>
    have d1 : decide (i < k) = false := decide_eq_false hik
    have d2 : decide ((i : Int) < (k : Int)) = false := decide_eq_false (by omega)
    have HT : Hid (trailP m l 0 i n = trailP m l (0 + k) (i - k) (n - k) ++ [Y]) := Htr.out hik
    obtain ⟨R, hR⟩ : ∃ R, trailP m l 0 i n = R := ⟨_, rfl⟩
    rw [hR] at HT ⊢
    clear hR
    have hZl := trail_len m l (n - k) (0 + k) (i - k)
    have hll : l.length = n := by have h1 := Hlt.out; have h2 := Hld.out; rw [List.length_take] at h1; rw [List.length_drop] at h2; omega
    have hZa := trail_all32 m l HA.out (n - k) (0 + k) (i - k) (by omega)
    have hZe := Htb.out (i - k)
    obtain ⟨Z, hZ⟩ : ∃ Z, trailP m l (0 + k) (i - k) (n - k) = Z := ⟨_, rfl⟩
    rw [hZ] at HT hZl hZa hZe
    have HZa := Lib.hid hZa
    have HZe := Lib.hid hZe
    clear hZ hZa hZe hll Hta Htb Htl Htr
    obtain ⟨i2, hi2⟩ : ∃ i2, i - k = i2 := ⟨_, rfl⟩
    have hi3 : (i : Int) - (k : Int) = (i2 : Int) := by omega
    have hi4 := IntWalk.i64_in (i2 : Int) (by omega)
    have hi5 : i2 < n - k := by omega
    rw [hi2] at HZe
    clear hi2
    obtain ⟨N, hN⟩ : ∃ N, w.heap.size = N := ⟨_, rfl⟩
    have HN := Lib.hid hN
    have D0 := hd
    clear hN hd
    go_enter Try.func69, Try.ntmps69
    go_upto_region 3 with fail
    with_reducible refine wp_region_list ?_
    iterate 2
     (with_reducible refine wpList_plain rfl ?_); intro K hK; go_simp; (with_reducible refine hK _ _ ?_); clear hK K; try simp only [Act.put,nA,nB,nC]
    with_reducible refine wpList_plain rfl ?_
    intro K hK
    go_simp
    refine (refHalf_any n _ (by omega) (by omega)).mono ?_; rintro e w2 ⟨rfl, rfl⟩; rw [HKn.out]
    first | with_reducible refine hK _ _ ?_ | refine hK _ _ ?_
    clear hK K
    try simp only [Act.put,nA,nB,nC]
    (with_reducible refine wpList_plain rfl ?_); intro K hK; go_simp; (with_reducible refine hK _ _ ?_); clear hK K; try simp only [Act.put,nA,nB,nC]
    clear q1 q2
    go_upto_region 7 with fail
    with_reducible refine wp_region_list ?_
    iterate 7
     (with_reducible refine wpList_plain rfl ?_); intro K hK; go_simp; (with_reducible refine hK _ _ ?_); clear hK K; try simp only [Act.put,nA,nB,nC]
    with_reducible refine wpList_plain rfl ?_
    intro K hK
    go_simp
    refine (IH.out (n - k) (by omega) i2 _ (l.drop k) w Hld.out (Lib.hid (D0.out.dropAt k Hkl.out)) (by omega) (by omega)).mono ?_; rintro e w1 ⟨ov, rfl, o1, b1⟩; rw [HZe.out] at o1
    first | with_reducible refine hK _ _ ?_ | refine hK _ _ ?_
    clear hK K
    try simp only [Act.put,nA,nB,nC]
    have O1 := Lib.hid o1
    have B1 := Lib.hid b1
    have hz1 := b1.size
    have D1 := Lib.hid ((D0.out.low b1 (Nat.le_refl _)).mono (lim' := w1.heap.size) hz1)
    clear o1 b1 D0 IH
    (with_reducible refine wpList_plain rfl ?_); intro K hK; go_simp; (with_reducible refine hK _ _ ?_); clear hK K; try simp only [Act.put,nA,nB,nC]
    obtain ⟨ad1, cap1, hov, _⟩ := O1.out.shape
    subst hov
    go_upto_region 8 with fail
    with_reducible refine wp_region_list ?_
    iterate 5
     (with_reducible refine wpList_plain rfl ?_); intro K hK; go_simp; (with_reducible refine hK _ _ ?_); clear hK K; try simp only [Act.put,nA,nB,nC]
    with_reducible refine wpList_plain rfl ?_
    intro K hK
    go_simp
    refine (refRing_any m h1m hm k _ (l.take k) w1 Hlt.out (Lib.hid (D1.out.take k Hkl.out)) (by omega)).mono ?_; rintro e w2 ⟨rfl, b2⟩; rw [HY.out]
    first | with_reducible refine hK _ _ ?_ | refine hK _ _ ?_
    clear hK K
    try simp only [Act.put,nA,nB,nC]
    have O2 := Lib.hid (O1.out.below b2 (fun g hg => (O1.out.lt g hg).2))
    have B2 := Lib.hid (B1.out.trans (b2.mono hz1))
    have hz2 := b2.size
    clear b2 D1 O1 B1
    obtain ⟨q, hq⟩ : ∃ q, w2.heap.size = q := ⟨_, rfl⟩
    refine wpList_plain rfl (fun K hK => ?_)
    refine wp_slice1 _ rfl Y HYl.out rfl q hq ?_
    intro w3 e3 b3 z3
    refine hK _ _ ?_
    clear hK K
    try simp only [Act.put,nA,nB,nC]
    have hb3 : Below w2.heap.size w2 w3 := by rw [hq]; exact b3
    have O3 := Lib.hid (O2.out.below hb3 (fun g hg => (O2.out.lt g hg).2))
    have B3 := Lib.hid (B2.out.trans (hb3.mono (by omega)))
    clear b3 hb3 O2 B2
    refine wpList_plain rfl (fun K hK => ?_)
    refine wp_appR w3 Y HYl.out _ _ rfl w.heap.size _ Z rfl O3.out HZa.out q 1 rfl e3 (by omega) (by omega) ?_
    intro g2 cap2 w4 ho hg2 hs2
    refine hK _ _ ?_
    clear hK K
    try simp only [Act.put,nA,nB,nC]
    have B4 := Lib.hid (B3.out.trans ((Mod.grown (S := fun k => (Value.slice ad1 Z.length cap1).ownBlock = some k) hg2 (fun k e => e)).below (n := w.heap.size) (fun k hk e => by have := (O3.out.lt k e).1; omega) (by omega)))
    have O4 : Hid (OwnR w4 w.heap.size (.slice (some ⟨g2, 0, none⟩) (Z.length + 1) cap2) R) := by show OwnR _ _ _ _; rw [HT.out]; exact ho
    clear ho hg2 hs2 O3 B3
    (with_reducible refine wpList_plain rfl ?_); intro K hK; go_simp; (with_reducible refine hK _ _ ?_); clear hK K; try simp only [Act.put,nA,nB,nC]
    go_wp2_with fail
    go_ret
    exact ⟨_, rfl, O4.out, B4.out⟩
end Go.Proofs.Ytihbhpggpnmifaa
namespace Go.Proofs.Ytihbhpggpnmifaa
open Go.RowKit Go.Lib Hw
theorem since_sub (w : Nat) (L : List Dg) (a N : Nat) : ∀ (n b m : Nat) (whole : Bool), 1 ≤ m → m ≤ n → b + n ≤ N → sinceP w ((L.drop a).take N) b m n whole = sinceP w L (a + b) m n whole := by
 intro n
 induction n using Nat.strongRecOn with
 | _ n ih =>
  intro b m whole h0 hmn h
  by_cases hn : m = n
  ·subst hn
   cases whole
   ·rw [sinceP_part _ _ _ _ h0, sinceP_part _ _ _ _ h0, span_sub w L a N b m h]
   ·rw [sinceP_whole _ _ _ _ h0, sinceP_whole _ _ _ _ h0]
  ·have hs := half_spec (n := n) (by omega)
   by_cases hk : m ≤ halfN n
   ·rw [sinceP_left _ _ _ _ _ _ h0 (by omega) hk, sinceP_left _ _ _ _ _ _ h0 (by omega) hk, ih (halfN n) (by omega) b m whole h0 hk (by omega), span_sub w L a N (b + halfN n) (n - halfN n) (by omega), Nat.add_assoc]
   ·rw [sinceP_right _ _ _ _ _ _ h0 (by omega) hk, sinceP_right _ _ _ _ _ _ h0 (by omega) hk, ih (n - halfN n) (by omega) (b + halfN n) (m - halfN n) false (by omega) (by omega) (by omega), span_sub w L a N b (halfN n) (by omega), Nat.add_assoc]
theorem since_ln (w : Nat) (L : List Dg) : ∀ (n a m : Nat) (whole : Bool), 1 ≤ m → m ≤ n → (sinceP w L a m n whole).length ≤ n := by
 intro n
 induction n using Nat.strongRecOn with
 | _ n ih =>
  intro a m whole h0 hmn
  by_cases hn : m = n
  ·subst hn
   cases whole
   ·rw [sinceP_part _ _ _ _ h0]; simp; omega
   ·rw [sinceP_whole _ _ _ _ h0]; simp
  ·have hs := half_spec (n := n) (by omega)
   by_cases hk : m ≤ halfN n
   ·rw [sinceP_left _ _ _ _ _ _ h0 (by omega) hk, List.length_append, List.length_singleton]
    have := ih (halfN n) (by omega) a m whole h0 hk
    omega
   ·rw [sinceP_right _ _ _ _ _ _ h0 (by omega) hk, List.length_append, List.length_singleton]
    have := ih (n - halfN n) (by omega) (a + halfN n) (m - halfN n) false (by omega) (by omega)
    omega
theorem since_all32 (w : Nat) (L : List Dg) (hL : All32 L) : ∀ (n a m : Nat) (whole : Bool), 1 ≤ m → m ≤ n → a + n ≤ L.length → All32 (sinceP w L a m n whole) := by
 intro n
 induction n using Nat.strongRecOn with
 | _ n ih =>
  intro a m whole h0 hmn h d hd
  by_cases hn : m = n
  ·subst hn
   cases whole
   ·rw [sinceP_part _ _ _ _ h0] at hd; rw [List.mem_singleton.1 hd]; exact spanD_length w L _ _ hL h
   ·rw [sinceP_whole _ _ _ _ h0] at hd; simp at hd
  ·have hs := half_spec (n := n) (by omega)
   by_cases hk : m ≤ halfN n
   ·rw [sinceP_left _ _ _ _ _ _ h0 (by omega) hk] at hd
    rcases List.mem_append.1 hd with hd | hd
    ·exact ih (halfN n) (by omega) a m whole h0 hk (by omega) d hd
    ·rw [List.mem_singleton.1 hd]; exact spanD_length w L _ _ hL (by omega)
   ·rw [sinceP_right _ _ _ _ _ _ h0 (by omega) hk] at hd
    rcases List.mem_append.1 hd with hd | hd
    ·exact ih (n - halfN n) (by omega) _ _ false (by omega) (by omega) (by omega) d hd
    ·rw [List.mem_singleton.1 hd]; exact spanD_length w L _ _ hL (by omega)
set_option maxRecDepth 4000 in
set_option maxHeartbeats 8000000 in
theorem part_any (m : Nat) (h1m : 1 ≤ m) (hm : m ≤ 32) : ∀ (n i : Nat) (v : Value) (l : List Dg) (whole : Bool) (w : World), l.length = n → Hid (DRow w w.heap.size v l) → 1 ≤ i → i ≤ n → n ≤ 1048576 →
  Calls Try.prog 81 #[.int .i64 (m : Int), .int .i64 (i : Int), v, .bool whole] w (RowPost w (sinceP m l 0 i n whole)) := by
 intro n
 induction n using Nat.strongRecOn with
 | _ n ih =>
  intro i v l whole w hln hd hi1 hi hn
  have IH := Lib.hid ih
  clear ih
  have HA : Hid (All32 l) := hd.out.1
  obtain ⟨_, ad, c, rfl, hc1, hc2, hrow⟩ := hd.out
  have HRow := Lib.hid hrow
  clear hrow
  rw [hln] at hd hc1 ⊢
  have HLn := Lib.hid hln
  by_cases hn1 : i = n
  case pos =>
   subst hn1
   have q1 : ((i : Int) == (i : Int)) = true := beq_self_eq_true _
   cases whole
   case true =>
    rw [sinceP_whole m l 0 i hi1]
    clear hln
    go_enter Try.func81, Try.ntmps81
    go_wp2_with fail
    go_ret
    exact ⟨_, rfl, OwnR.nil _ _, Below.refl _ _⟩
   case false =>
    have hs : sinceP m l 0 i i false = [ringD m l] := by
     rw [sinceP_part m l 0 i hi1]
     unfold spanD
     rw [List.drop_zero, List.take_of_length_le (by omega)]
    obtain ⟨X, hX⟩ : ∃ X, ringD m l = X := ⟨_, rfl⟩
    have hXl : X.length = 32 := by rw [← hX]; exact ringD_length m _ HA.out
    rw [hX] at hs
    obtain ⟨R, hR⟩ : ∃ R, sinceP m l 0 i i false = R := ⟨_, rfl⟩
    rw [hR] at hs ⊢
    have HX := Lib.hid hX
    have HXl := Lib.hid hXl
    have HT : Hid (R = [] ++ [X]) := hs
    clear hX hXl hs hR hln
    go_enter Try.func81, Try.ntmps81
    go_upto_region 5 with fail
    with_reducible refine wp_region_list ?_
    iterate 3
     (with_reducible refine wpList_plain rfl ?_); intro K hK; go_simp; (with_reducible refine hK _ _ ?_); clear hK K; try simp only [Act.put,nA,nB,nC]
    with_reducible refine wpList_plain rfl ?_
    intro K hK
    go_simp
    refine (refRing_any m h1m hm i _ l w HLn.out hd (by omega)).mono ?_; rintro e w2 ⟨rfl, b2⟩; rw [HX.out]
    first | with_reducible refine hK _ _ ?_ | refine hK _ _ ?_
    clear hK K
    try simp only [Act.put,nA,nB,nC]
    have O2 : Hid (OwnR w2 w.heap.size (.slice none 0 0) []) := OwnR.nil _ _
    have B2 := Lib.hid b2
    have hz2 := b2.size
    clear b2
    obtain ⟨q, hq⟩ : ∃ q, w2.heap.size = q := ⟨_, rfl⟩
    refine wpList_plain rfl (fun K hK => ?_)
    refine wp_slice1 _ rfl X HXl.out rfl q hq ?_
    intro w3 e3 b3 z3
    refine hK _ _ ?_
    clear hK K
    try simp only [Act.put,nA,nB,nC]
    have hb3 : Below w2.heap.size w2 w3 := by rw [hq]; exact b3
    have O3 := Lib.hid (O2.out.below hb3 (fun g hg => (O2.out.lt g hg).2))
    have B3 := Lib.hid (B2.out.trans (hb3.mono (by omega)))
    clear b3 hb3 O2 B2
    refine wpList_plain rfl (fun K hK => ?_)
    refine wp_appR w3 X HXl.out _ _ rfl w.heap.size _ ([] : List Dg) rfl O3.out All32.nil q 1 rfl e3 (by simp) (by omega) ?_
    intro g2 cap2 w4 ho hg2 hs2
    refine hK _ _ ?_
    clear hK K
    try simp only [Act.put,nA,nB,nC]
    have B4 := Lib.hid (B3.out.trans ((Mod.grown (S := fun k => (Value.slice none 0 0).ownBlock = some k) hg2 (fun k e => e)).below (n := w.heap.size) (fun k hk e => by have := (O3.out.lt k e).1; omega) (by omega)))
    have O4 : Hid (OwnR w4 w.heap.size (.slice (some ⟨g2, 0, none⟩) (([] : List Dg).length + 1) cap2) R) := by show OwnR _ _ _ _; rw [HT.out]; exact ho
    clear ho hg2 hs2 O3 B3
    (with_reducible refine wpList_plain rfl ?_); intro K hK; go_simp; (with_reducible refine hK _ _ ?_); clear hK K; try simp only [Act.put,nA,nB,nC]
    go_wp2_with fail
    go_ret
    exact ⟨_, rfl, O4.out, B4.out⟩
  case neg =>
   have q1 : ((i : Int) == (n : Int)) = false := by simp; omega
   have q2 : (i == n) = false := by simp; omega
   have hs := half_spec (n := n) (by omega)
   have htl := sinceP_left m l 0 i n whole hi1 (by omega)
   have htr := sinceP_right m l 0 i n whole hi1 (by omega)
   obtain ⟨k, hk⟩ : ∃ k, halfN n = k := ⟨_, rfl⟩
   rw [hk] at hs htl htr
   obtain ⟨hs1, hs2, hs3⟩ := hs
   have hlt : (l.take k).length = k := by rw [List.length_take]; omega
   have hld : (l.drop k).length = n - k := by rw [List.length_drop, hln]
   obtain ⟨b, o, hb, _, hbw, _⟩ := HRow.out (by omega)
   subst hb
   have hkl : k ≤ l.length := by omega
   have hsa : ringD m (l.drop k) = spanD m l (0 + k) (n - k) := by
    unfold spanD
    rw [Nat.zero_add, List.take_of_length_le (by omega)]
   have hsb : ringD m (l.take k) = spanD m l 0 k := by unfold spanD; rw [List.drop_zero]
   have hta : ∀ (j : Nat) (x : Bool), 1 ≤ j → j ≤ k → sinceP m (l.take k) 0 j k x = sinceP m l 0 j k x := fun j x h1 h2 => by
    have h := since_sub m l 0 k k 0 j x h1 h2 (by omega)
    rw [List.drop_zero] at h
    exact h
   have htb : ∀ (j : Nat) (x : Bool), 1 ≤ j → j ≤ n - k → sinceP m (l.drop k) 0 j (n - k) x = sinceP m l (0 + k) j (n - k) x := fun j x h1 h2 => by
    have h := since_sub m l k (n - k) (n - k) 0 j x h1 h2 (by omega)
    rw [List.take_of_length_le (by omega), Nat.add_comm k 0] at h
    exact h
   have hXl := ringD_length m _ (HA.out.drop k)
   have hYl := ringD_length m _ (HA.out.take k)
   obtain ⟨X, hX⟩ : ∃ X, ringD m (l.drop k) = X := ⟨_, rfl⟩
   obtain ⟨Y, hY⟩ : ∃ Y, ringD m (l.take k) = Y := ⟨_, rfl⟩
   rw [hX] at hXl hsa
   rw [hY] at hYl hsb
   rw [← hsa] at htl
   rw [← hsb] at htr
   have HX := Lib.hid hX
   have HY := Lib.hid hY
   have HXl := Lib.hid hXl
   have HYl := Lib.hid hYl
   have HKn := Lib.hid hk
   have Hlt := Lib.hid hlt
   have Hld := Lib.hid hld
   have Hkl := Lib.hid hkl
   have Hta := Lib.hid hta
   have Htb := Lib.hid htb
   have Htl := Lib.hid htl
   have Htr := Lib.hid htr
   clear hX hY hXl hYl hk hlt hld hkl hta htb htl htr hsa hsb HRow hln HLn
   have ik : (k : Int) ≤ (n : Int) := by omega
   have kc : k ≤ c := by omega
   have kne : ¬ c = k := by omega
   by_cases hik : i ≤ k
   case pos =>
    have d1 : decide (i ≤ k) = true := decide_eq_true hik
    have d2 : decide ((i : Int) ≤ (k : Int)) = true := decide_eq_true (by omega)
    have HT : Hid (sinceP m l 0 i n whole = sinceP m l 0 i k whole ++ [X]) := Htl.out hik
    obtain ⟨R, hR⟩ : ∃ R, sinceP m l 0 i n whole = R := ⟨_, rfl⟩
    rw [hR] at HT ⊢
    clear hR
    have hll : l.length = n := by have h1 := Hlt.out; have h2 := Hld.out; rw [List.length_take] at h1; rw [List.length_drop] at h2; omega
    have hZl := since_ln m l k 0 i whole (by omega) (by omega)
    have hZa := since_all32 m l HA.out k 0 i whole (by omega) (by omega) (by omega)
    have hZe := Hta.out i whole (by omega) (by omega)
    obtain ⟨Z, hZ⟩ : ∃ Z, sinceP m l 0 i k whole = Z := ⟨_, rfl⟩
    rw [hZ] at HT hZl hZa hZe
    have HZa := Lib.hid hZa
    have HZe := Lib.hid hZe
    clear hZ hZa hZe hll Hta Htb Htl Htr
    have D0 := hd
    clear hd
    go_enter Try.func81, Try.ntmps81
    go_upto_region 6 with fail
    with_reducible refine wp_region_list ?_
    iterate 2
     (with_reducible refine wpList_plain rfl ?_); intro K hK; go_simp; (with_reducible refine hK _ _ ?_); clear hK K; try simp only [Act.put,nA,nB,nC]
    with_reducible refine wpList_plain rfl ?_
    intro K hK
    go_simp
    refine (refHalf_any n _ (by omega) (by omega)).mono ?_; rintro e w2 ⟨rfl, rfl⟩; rw [HKn.out]
    first | with_reducible refine hK _ _ ?_ | refine hK _ _ ?_
    clear hK K
    try simp only [Act.put,nA,nB,nC]
    (with_reducible refine wpList_plain rfl ?_); intro K hK; go_simp; (with_reducible refine hK _ _ ?_); clear hK K; try simp only [Act.put,nA,nB,nC]
    clear q1 q2
    go_upto_region 8 with fail
    with_reducible refine wp_region_list ?_
    iterate 6
     (with_reducible refine wpList_plain rfl ?_); intro K hK; go_simp; (with_reducible refine hK _ _ ?_); clear hK K; try simp only [Act.put,nA,nB,nC]
    with_reducible refine wpList_plain rfl ?_
    intro K hK
    go_simp
    refine (IH.out k (by omega) i _ (l.take k) whole w Hlt.out (Lib.hid (D0.out.take k Hkl.out)) hi1 hik (by omega)).mono ?_; rintro e w1 ⟨ov, rfl, o1, b1⟩; rw [HZe.out] at o1
    first | with_reducible refine hK _ _ ?_ | refine hK _ _ ?_
    clear hK K
    try simp only [Act.put,nA,nB,nC]
    have O1 := Lib.hid o1
    have B1 := Lib.hid b1
    have hz1 := b1.size
    have D1 := Lib.hid ((D0.out.low b1 (Nat.le_refl _)).mono (lim' := w1.heap.size) hz1)
    clear o1 b1 D0 IH
    (with_reducible refine wpList_plain rfl ?_); intro K hK; go_simp; (with_reducible refine hK _ _ ?_); clear hK K; try simp only [Act.put,nA,nB,nC]
    obtain ⟨ad1, cap1, hov, _⟩ := O1.out.shape
    subst hov
    go_upto_region 9 with fail
    with_reducible refine wp_region_list ?_
    iterate 5
     (with_reducible refine wpList_plain rfl ?_); intro K hK; go_simp; (with_reducible refine hK _ _ ?_); clear hK K; try simp only [Act.put,nA,nB,nC]
    with_reducible refine wpList_plain rfl ?_
    intro K hK
    go_simp
    refine (refRing_any m h1m hm (n - k) _ (l.drop k) w1 Hld.out (Lib.hid (D1.out.dropAt k Hkl.out)) (by omega)).mono ?_; rintro e w2 ⟨rfl, b2⟩; rw [HX.out]
    first | with_reducible refine hK _ _ ?_ | refine hK _ _ ?_
    clear hK K
    try simp only [Act.put,nA,nB,nC]
    have O2 := Lib.hid (O1.out.below b2 (fun g hg => (O1.out.lt g hg).2))
    have B2 := Lib.hid (B1.out.trans (b2.mono hz1))
    have hz2 := b2.size
    clear b2 D1 O1 B1
    obtain ⟨q, hq⟩ : ∃ q, w2.heap.size = q := ⟨_, rfl⟩
    refine wpList_plain rfl (fun K hK => ?_)
    refine wp_slice1 _ rfl X HXl.out rfl q hq ?_
    intro w3 e3 b3 z3
    refine hK _ _ ?_
    clear hK K
    try simp only [Act.put,nA,nB,nC]
    have hb3 : Below w2.heap.size w2 w3 := by rw [hq]; exact b3
    have O3 := Lib.hid (O2.out.below hb3 (fun g hg => (O2.out.lt g hg).2))
    have B3 := Lib.hid (B2.out.trans (hb3.mono (by omega)))
    clear b3 hb3 O2 B2
    refine wpList_plain rfl (fun K hK => ?_)
    refine wp_appR w3 X HXl.out _ _ rfl w.heap.size _ Z rfl O3.out HZa.out q 1 rfl e3 (by omega) (by omega) ?_
    intro g2 cap2 w4 ho hg2 hs2
    refine hK _ _ ?_
    clear hK K
    try simp only [Act.put,nA,nB,nC]
    have B4 := Lib.hid (B3.out.trans ((Mod.grown (S := fun k => (Value.slice ad1 Z.length cap1).ownBlock = some k) hg2 (fun k e => e)).below (n := w.heap.size) (fun k hk e => by have := (O3.out.lt k e).1; omega) (by omega)))
    have O4 : Hid (OwnR w4 w.heap.size (.slice (some ⟨g2, 0, none⟩) (Z.length + 1) cap2) R) := by show OwnR _ _ _ _; rw [HT.out]; exact ho
    clear ho hg2 hs2 O3 B3
    (with_reducible refine wpList_plain rfl ?_); intro K hK; go_simp; (with_reducible refine hK _ _ ?_); clear hK K; try simp only [Act.put,nA,nB,nC]
    go_wp2_with fail
    go_ret
    exact ⟨_, rfl, O4.out, B4.out⟩
   case neg =>
    have d1 : decide (i ≤ k) = false := decide_eq_false hik
    have d2 : decide ((i : Int) ≤ (k : Int)) = false := decide_eq_false (by omega)
    have HT : Hid (sinceP m l 0 i n whole = sinceP m l (0 + k) (i - k) (n - k) false ++ [Y]) := Htr.out hik
    obtain ⟨R, hR⟩ : ∃ R, sinceP m l 0 i n whole = R := ⟨_, rfl⟩
    rw [hR] at HT ⊢
    clear hR
    have hll : l.length = n := by have h1 := Hlt.out; have h2 := Hld.out; rw [List.length_take] at h1; rw [List.length_drop] at h2; omega
    have hZl := since_ln m l (n - k) (0 + k) (i - k) false (by omega) (by omega)
    have hZa := since_all32 m l HA.out (n - k) (0 + k) (i - k) false (by omega) (by omega) (by omega)
    have hZe := Htb.out (i - k) false (by omega) (by omega)
    obtain ⟨Z, hZ⟩ : ∃ Z, sinceP m l (0 + k) (i - k) (n - k) false = Z := ⟨_, rfl⟩
    rw [hZ] at HT hZl hZa hZe
    have HZa := Lib.hid hZa
    have HZe := Lib.hid hZe
    clear hZ hZa hZe hll Hta Htb Htl Htr
    obtain ⟨i2, hi2⟩ : ∃ i2, i - k = i2 := ⟨_, rfl⟩
    have hi3 : (i : Int) - (k : Int) = (i2 : Int) := by omega
    have hi4 := IntWalk.i64_in (i2 : Int) (by omega)
    have hi5 : 1 ≤ i2 ∧ i2 ≤ n - k := by omega
    rw [hi2] at HZe
    clear hi2
    have D0 := hd
    clear hd
    go_enter Try.func81, Try.ntmps81
    go_upto_region 6 with fail
    with_reducible refine wp_region_list ?_
    iterate 2
     (with_reducible refine wpList_plain rfl ?_); intro K hK; go_simp; (with_reducible refine hK _ _ ?_); clear hK K; try simp only [Act.put,nA,nB,nC]
    with_reducible refine wpList_plain rfl ?_
    intro K hK
    go_simp
    refine (refHalf_any n _ (by omega) (by omega)).mono ?_; rintro e w2 ⟨rfl, rfl⟩; rw [HKn.out]
    first | with_reducible refine hK _ _ ?_ | refine hK _ _ ?_
    clear hK K
    try simp only [Act.put,nA,nB,nC]
    (with_reducible refine wpList_plain rfl ?_); intro K hK; go_simp; (with_reducible refine hK _ _ ?_); clear hK K; try simp only [Act.put,nA,nB,nC]
    clear q1 q2
    go_upto_region 10 with fail
    with_reducible refine wp_region_list ?_
    iterate 7
     (with_reducible refine wpList_plain rfl ?_); intro K hK; go_simp; (with_reducible refine hK _ _ ?_); clear hK K; try simp only [Act.put,nA,nB,nC]
    with_reducible refine wpList_plain rfl ?_
    intro K hK
    go_simp
    refine (IH.out (n - k) (by omega) i2 _ (l.drop k) false w Hld.out (Lib.hid (D0.out.dropAt k Hkl.out)) hi5.1 hi5.2 (by omega)).mono ?_; rintro e w1 ⟨ov, rfl, o1, b1⟩; rw [HZe.out] at o1
    first | with_reducible refine hK _ _ ?_ | refine hK _ _ ?_
    clear hK K
    try simp only [Act.put,nA,nB,nC]
    have O1 := Lib.hid o1
    have B1 := Lib.hid b1
    have hz1 := b1.size
    have D1 := Lib.hid ((D0.out.low b1 (Nat.le_refl _)).mono (lim' := w1.heap.size) hz1)
    clear o1 b1 D0 IH
    (with_reducible refine wpList_plain rfl ?_); intro K hK; go_simp; (with_reducible refine hK _ _ ?_); clear hK K; try simp only [Act.put,nA,nB,nC]
    obtain ⟨ad1, cap1, hov, _⟩ := O1.out.shape
    subst hov
    go_upto_region 11 with fail
    with_reducible refine wp_region_list ?_
    iterate 5
     (with_reducible refine wpList_plain rfl ?_); intro K hK; go_simp; (with_reducible refine hK _ _ ?_); clear hK K; try simp only [Act.put,nA,nB,nC]
    with_reducible refine wpList_plain rfl ?_
    intro K hK
    go_simp
    refine (refRing_any m h1m hm k _ (l.take k) w1 Hlt.out (Lib.hid (D1.out.take k Hkl.out)) (by omega)).mono ?_; rintro e w2 ⟨rfl, b2⟩; rw [HY.out]
    first | with_reducible refine hK _ _ ?_ | refine hK _ _ ?_
    clear hK K
    try simp only [Act.put,nA,nB,nC]
    have O2 := Lib.hid (O1.out.below b2 (fun g hg => (O1.out.lt g hg).2))
    have B2 := Lib.hid (B1.out.trans (b2.mono hz1))
    have hz2 := b2.size
    clear b2 D1 O1 B1
    obtain ⟨q, hq⟩ : ∃ q, w2.heap.size = q := ⟨_, rfl⟩
    refine wpList_plain rfl (fun K hK => ?_)
    refine wp_slice1 _ rfl Y HYl.out rfl q hq ?_
    intro w3 e3 b3 z3
    refine hK _ _ ?_
    clear hK K
    try simp only [Act.put,nA,nB,nC]
    have hb3 : Below w2.heap.size w2 w3 := by rw [hq]; exact b3
    have O3 := Lib.hid (O2.out.below hb3 (fun g hg => (O2.out.lt g hg).2))
    have B3 := Lib.hid (B2.out.trans (hb3.mono (by omega)))
    clear b3 hb3 O2 B2
    refine wpList_plain rfl (fun K hK => ?_)
    refine wp_appR w3 Y HYl.out _ _ rfl w.heap.size _ Z rfl O3.out HZa.out q 1 rfl e3 (by omega) (by omega) ?_
    intro g2 cap2 w4 ho hg2 hs2
    refine hK _ _ ?_
    clear hK K
    try simp only [Act.put,nA,nB,nC]
    have B4 := Lib.hid (B3.out.trans ((Mod.grown (S := fun k => (Value.slice ad1 Z.length cap1).ownBlock = some k) hg2 (fun k e => e)).below (n := w.heap.size) (fun k hk e => by have := (O3.out.lt k e).1; omega) (by omega)))
    have O4 : Hid (OwnR w4 w.heap.size (.slice (some ⟨g2, 0, none⟩) (Z.length + 1) cap2) R) := by show OwnR _ _ _ _; rw [HT.out]; exact ho
    clear ho hg2 hs2 O3 B3
    (with_reducible refine wpList_plain rfl ?_); intro K hK; go_simp; (with_reducible refine hK _ _ ?_); clear hK K; try simp only [Act.put,nA,nB,nC]
    go_wp2_with fail
    go_ret
    exact ⟨_, rfl, O4.out, B4.out⟩
theorem SinceOf_any (m : Nat) (h1m : 1 ≤ m) (hm : m ≤ 32) (n i : Nat) (v : Value) (l : List Dg) (w : World) (hln : l.length = n) (hd : Hid (DRow w w.heap.size v l)) (hi : i ≤ n) (hn : n ≤ 1048576) :
  Calls Try.prog 70 #[.int .i64 (m : Int), .int .i64 (i : Int), v] w (RowPost w (sinceD m l i n)) := by
 obtain ⟨_, ad, c, rfl, hc1, hc2, hrow⟩ := hd.out
 clear hrow
 rw [hln] at hd hc1 ⊢
 by_cases h0 : i = 0
 ·have hs : sinceD m l i n = [] := by unfold sinceD; rw [if_pos (.inl h0)]
  rw [hs]
  subst h0
  clear hln
  go_enter Try.func70, Try.ntmps70
  go_wp2_with fail
  go_ret
  exact ⟨_, rfl, OwnR.nil _ _, Below.refl _ _⟩
 by_cases hin : i = n
 ·have hs : sinceD m l i n = [] := by unfold sinceD; rw [if_pos (.inr hin)]
  rw [hs]
  have q1 : ((i : Int) == 0) = false := by simp; omega
  have q2 : (i == 0) = false := by simp; omega
  have q3 : ((i : Int) == (n : Int)) = true := by simp; omega
  have q4 : (i == n) = true := by simp; omega
  clear hln
  go_enter Try.func70, Try.ntmps70
  go_wp2_with fail
  go_ret
  exact ⟨_, rfl, OwnR.nil _ _, Below.refl _ _⟩
 ·have hs : sinceD m l i n = sinceP m l 0 i n true := by unfold sinceD; rw [if_neg (by omega)]
  rw [hs]
  have q1 : ((i : Int) == 0) = false := by simp; omega
  have q2 : (i == 0) = false := by simp; omega
  have q3 : ((i : Int) == (n : Int)) = false := by simp; omega
  have q4 : (i == n) = false := by simp; omega
  have HP := Lib.hid (part_any m h1m hm n i (.slice ad n c) l true w hln hd (by omega) hi hn)
  clear hln
  go_enter Try.func70, Try.ntmps70
  go_wp2_with (go_at_call 81; refine HP.out.mono ?_; rintro e w2 ⟨ov, rfl, o2, b2⟩)
  go_ret
  exact ⟨_, rfl, o2, b2⟩
end Go.Proofs.Ytihbhpggpnmifaa
namespace Go.Proofs.Ytihbhpggpnmifaa
open Go.RowKit Go.Lib Hw
theorem DRow.at {w : World} {lim : Nat} {v : Value} {xs : List Dg} (h : DRow w lim v xs) : ∃ ad c, v = .slice ad xs.length c ∧ xs.length ≤ 9223372036854775807 ∧ (0 < xs.length → ∃ b o, ad = some ⟨b, o, none⟩ ∧ ∀ (i : Nat) (hi : i < xs.length), w.rangeAt b (o + i * 32) (xs[i].map bv)) := by
 obtain ⟨_, ad, c, e, h1, h2, hr⟩ := h
 exact ⟨ad, c, e, by omega, fun hp => by obtain ⟨b, o, e2, _, _, hr2⟩ := hr hp; exact ⟨b, o, e2, hr2⟩⟩
set_option maxHeartbeats 2000000 in
theorem Same_any (va vb : Value) (xs : List Dg) (w : World) (la lb : Nat) (ha : Hid (DRow w la va xs)) (hb : Hid (DRow w lb vb xs)) :
  Calls Try.prog 71 #[va, vb] w fun e w' => e = .returned (.bool true) ∧ Below w.heap.size w w' := by
 have HA : Hid (All32 xs) := ha.out.1
 obtain ⟨ad, c, rfl, hTb, hra⟩ := ha.out.at
 obtain ⟨bd, d, rfl, _, hrb⟩ := hb.out.at
 obtain ⟨T, hT⟩ : ∃ T, xs.length = T := ⟨_, rfl⟩
 have Hra := Lib.hid hra
 have Hrb := Lib.hid hrb
 have HT := Lib.hid hT
 clear hra hrb ha hb
 rw [hT] at hTb ⊢
 clear hT
 go_enter Try.func71, Try.ntmps71
 have q1 : ((T : Int) != (T : Int)) = false := by simp
 have q2 : (T != T) = false := by simp
 go_upto_region 4 with fail
 clear q1 q2
 go_loopw [5] (fun i wr => ∃ (k : Nat), k ≤ T ∧ Hid (Below w.heap.size w wr) ∧ i = .int .i64 (k : Int)) (fun i _ => T - (intOf i).toNat)
 case atStart => exact ⟨0, Nat.zero_le _, Below.refl _ _, rfl⟩
 case round =>
  obtain ⟨k, hk, B, rfl⟩ := hrel
  by_cases hlt : k < T
  case pos =>
   have dk : decide (k < T) = true := decide_eq_true hlt
   have dk2 : decide ((k : Int) < (T : Int)) = true := decide_eq_true (by omega)
   have ik : (k : Int) < (T : Int) := by omega
   obtain ⟨b, o, rfl, hr1⟩ := Hra.out (by rw [HT.out]; omega)
   obtain ⟨b2, o2, rfl, hr2⟩ := Hrb.out (by rw [HT.out]; omega)
   have hkl : k < xs.length := by rw [HT.out]; exact hlt
   have h1 := hr1 k hkl
   have h2 := hr2 k hkl
   have hDl := HA.out _ (List.getElem_mem hkl)
   obtain ⟨D, hD⟩ : ∃ D, xs[k] = D := ⟨_, rfl⟩
   rw [hD] at h1 h2 hDl
   have HDl := Lib.hid hDl
   have hx1 : b < w.heap.size := World.block_lt_of_cell? _ _ (h1 0 _ (List.getElem?_eq_getElem (by rw [List.length_map]; omega)))
   have hx2 : b2 < w.heap.size := World.block_lt_of_cell? _ _ (h2 0 _ (List.getElem?_eq_getElem (by rw [List.length_map]; omega)))
   have H := Lib.hid (And.intro (range_block h1 (B.out.block b hx1)) (range_block h2 (B.out.block b2 hx2)))
   have hq := neD D D hDl hDl
   rw [beq_self_eq_true] at hq
   have hqg := neGuardD D D
   clear hr1 hr2 h1 h2 hDl hD hx1 hx2 hkl
   go_upto_region 6 with fail
   refine wp_region_held_drew (S := fun W => W.rangeAt b (o + k * 32) (D.map bv) ∧ W.rangeAt b2 (o2 + k * 32) (D.map bv)) (by kernel_rfl) H.out (fun hHeld => ?_)
   refine' tQ 0 ⟨some 17, .move (.tmp 0), 32, "ref.go:263", #[], none⟩ rfl (by kernel_rfl) (Or.inl ⟨by rfl, _⟩) _; rotate_left; · (intro s h; (try dsimp only at h); go_simp; try with_reducible rfl)
   try simp only [Act.put,nA,nB,nC]
   refine' tQ 1 ⟨some 18, .move (.tmp 5), 3, "ref.go:263", #[], none⟩ rfl (by kernel_rfl) (Or.inl ⟨by rfl, _⟩) _; rotate_left; · (intro s h; (try dsimp only at h); go_simp; try with_reducible rfl)
   try simp only [Act.put,nA,nB,nC]
   refine' tQ 2 ⟨some 19, .indexAddr 32 (.tmp 17) (.tmp 18), 0, "ref.go:263", #[⟨0, .data⟩, ⟨1, .data⟩], none⟩ rfl (by kernel_rfl) (Or.inl ⟨by rfl, _⟩) _; rotate_left; · (intro s h; (try dsimp only at h); go_simp; try with_reducible rfl)
   try simp only [Act.put,nA,nB,nC]
   refine' tQ 3 ⟨some 20, .load 23 (.tmp 19), 23, "ref.go:263", #[⟨2, .data⟩], none⟩ rfl (by kernel_rfl) (yieldsIf_loadRng (by rfl) _ rfl b (o + k * 32) rfl D HDl.out (fun W hW => hW.1)) _
   try simp only [Act.put,nA,nB,nC]
   refine' tQ 4 ⟨some 21, .move (.tmp 1), 32, "ref.go:263", #[], none⟩ rfl (by kernel_rfl) (Or.inl ⟨by rfl, _⟩) _; rotate_left; · (intro s h; (try dsimp only at h); go_simp; try with_reducible rfl)
   try simp only [Act.put,nA,nB,nC]
   refine' tQ 5 ⟨some 22, .move (.tmp 5), 3, "ref.go:263", #[], none⟩ rfl (by kernel_rfl) (Or.inl ⟨by rfl, _⟩) _; rotate_left; · (intro s h; (try dsimp only at h); go_simp; try with_reducible rfl)
   try simp only [Act.put,nA,nB,nC]
   refine' tQ 6 ⟨some 23, .indexAddr 32 (.tmp 21) (.tmp 22), 0, "ref.go:263", #[⟨4, .data⟩, ⟨5, .data⟩], none⟩ rfl (by kernel_rfl) (Or.inl ⟨by rfl, _⟩) _; rotate_left; · (intro s h; (try dsimp only at h); go_simp; try with_reducible rfl)
   try simp only [Act.put,nA,nB,nC]
   refine' tQ 7 ⟨some 24, .load 23 (.tmp 23), 23, "ref.go:263", #[⟨6, .data⟩], none⟩ rfl (by kernel_rfl) (yieldsIf_loadRng (by rfl) _ rfl b2 (o2 + k * 32) rfl D HDl.out (fun W hW => hW.2)) _
   try simp only [Act.put,nA,nB,nC]
   refine' tQ 8 ⟨some 25, .binOp .neq 23 (.tmp 20) (.tmp 24) 23, 4, "ref.go:263", #[⟨3, .data⟩, ⟨7, .data⟩], none⟩ rfl (by kernel_rfl) (Or.inl ⟨by rfl, _⟩) _; rotate_left; · (intro s h; (try dsimp only at h); go_simp; try with_reducible rfl)
   try simp only [Act.put,nA,nB,nC]
   refine wpAnyH_done (by kernel_rfl) ?_ _
   clear hq hqg hHeld H
   have B2 : Hid (Below w.heap.size w wr.drew) := B.out.drew
   clear B
   go_wp2_with fail
   exact ⟨⟨k + 1, by omega, B2, by go_num⟩, by simp [intOf]; omega⟩
  case neg =>
   have dk : decide (k < T) = false := decide_eq_false hlt
   have dk2 : decide ((k : Int) < (T : Int)) = false := decide_eq_false (by omega)
   go_wp2_with fail
   go_ret
   exact ⟨rfl, B.out⟩
end Go.Proofs.Ytihbhpggpnmifaa
