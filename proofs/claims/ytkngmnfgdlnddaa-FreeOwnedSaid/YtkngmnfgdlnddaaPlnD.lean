/-
  The walk of FreeOwned.
-/
import Derived.Test.YtkngmnfgdlnddaaSetW
import Derived.Test.YtkngmnfgdlnddaaOwnP
import Derived.Test.YtkngmnfgdlnddaaPlnC
namespace Go.Proofs.Ytkngmnfgdlnddaa
open Go.RowKit Go.Lib Hw Go.Maps
set_option linter.unusedSimpArgs false
set_option linter.unusedVariables false

/-- the free numbers of a chain -/
def numsL (cs : List (Nat × List Nat)) : List Nat := cs.flatMap (·.2)
theorem numsL_mem {cs : List (Nat × List Nat)} {x : Nat} : leftS cs x = true ↔ x ∈ numsL cs := by
  unfold leftS numsL
  rw [List.any_eq_true, List.mem_flatMap]
  simp only [List.contains_iff_mem]
theorem numsL_sub : ∀ (cs : List (Nat × List Nat)), (numsL cs).Sublist (flat cs)
  | [] => List.Sublist.slnil
  | c :: r => by
    have h := numsL_sub r
    show (c.2 ++ numsL r).Sublist (c.1 :: c.2 ++ flat r)
    exact ((List.Sublist.refl _).append h).trans (List.sublist_cons_self _ _)
theorem numsL_split (cs : List (Nat × List Nat)) {j : Nat} (h : j < cs.length) : numsL cs = numsL (cs.take j) ++ (cs[j].2 ++ numsL (cs.drop (j + 1))) := by
  unfold numsL
  conv => lhs; rw [← List.take_append_drop j cs]
  rw [List.flatMap_append, List.drop_eq_getElem_cons h, List.flatMap_cons]
theorem numsL_succ (cs : List (Nat × List Nat)) {j : Nat} (h : j < cs.length) : numsL (cs.take (j + 1)) = numsL (cs.take j) ++ cs[j].2 := by
  unfold numsL
  rw [List.take_succ_eq_append_getElem h, List.flatMap_append]
  simp
theorem CRow.nilC (w : World) : CRow w (.slice none 0 0) [] := ⟨fun c hc => by simp at hc, none, 0, rfl, Nat.le_refl _, by decide, fun h => by simp at h⟩
theorem mid3 (A B ys t d : List Nat) (y : Nat) (h : ys = t ++ y :: d) : A ++ (ys ++ B) = (A ++ t) ++ y :: (d ++ B) := by subst h; simp
set_option maxRecDepth 5000 in
set_option maxHeartbeats 16000000 in
theorem FreeOwned_walk (v nv : Value) (w : World) (hv : IsFrame v) (hn : IsNeed w nv) : Calls Try.prog 7 #[v, nv] w fun e w' => e = .returned (.bool true) ∧ Below w.heap.size w w' := by
  obtain ⟨a, b, rfl, ha, hb⟩ := hv
  obtain ⟨chv, hdv, rv, cs, held, rel, pages, most, trees, rfl, hch, hhe, hre, hp, hm, ht1, ht2⟩ := hn
  obtain ⟨cad, ccap, hcv, hx1⟩ := hch.1.form
  obtain ⟨had, hcap, hhv, hx2⟩ := hhe.1.form
  obtain ⟨rad, rcap, hrv, hx3⟩ := hre.1.form
  clear hx1 hx2 hx3
  subst hcv hhv hrv
  have HC := Lib.hid hch.1
  have HR := Lib.hid hre.1
  have HH := Lib.hid hhe.1
  clear hch hhe ha hb ht1 hre
  obtain ⟨R, hR⟩ : ∃ R, planF a b cs pages held trees rel most = R := ⟨_, rfl⟩
  have HRR := Lib.hid hR
  clear hR
  obtain ⟨N, hN⟩ : ∃ N, w.heap.size = N := ⟨_, rfl⟩
  have HN := Lib.hid hN
  rw [hN]
  clear hN
  obtain ⟨nc, hnc⟩ : ∃ k, cs.length = k := ⟨_, rfl⟩
  obtain ⟨nr, hnr⟩ : ∃ k, rel.length = k := ⟨_, rfl⟩
  obtain ⟨nh, hnh⟩ : ∃ k, held.length = k := ⟨_, rfl⟩
  have HNC := Lib.hid hnc
  rw [hnc] at HC ⊢
  rw [hnh] at HH ⊢
  rw [hnr] at HR ⊢
  clear hnc hnr hnh
  go_enter Try.func7, Try.ntmps7
  go_upto_region 0 with fail
  with_reducible refine wp_region_list ?_
  refine wpList_boxB rfl _ _ rfl N HN.out #[.int .i64 a, .int .i64 b] rfl ?_
  intro w1 e1 b1 z1
  (try simp only [Act.put, List.setIfInBounds_toArray, List.set_cons_zero, List.set_cons_succ])
  obtain ⟨M, hM⟩ : ∃ M, w1.heap.size = M := ⟨_, rfl⟩
  have HM : Hid (M = N + 1) := by show _ = _; rw [← hM]; omega
  refine wpList_boxB rfl _ _ rfl M hM #[.slice cad nc ccap, .int .u32 (pages : Int), .slice had nh hcap, .int .i64 trees, .slice rad nr rcap, .int .u32 (most : Int)] rfl ?_
  intro w2 e2 b2 z2
  (try simp only [Act.put, List.setIfInBounds_toArray, List.set_cons_zero, List.set_cons_succ])
  with_reducible refine wpList_plain rfl ?_
  intro K hK
  go_simp
  first | with_reducible refine hK _ _ ?_ | refine hK _ _ ?_
  clear hK K
  (try simp only [Act.put, List.setIfInBounds_toArray, List.set_cons_zero, List.set_cons_succ])
  have B2 : Hid (Below N w w2) := b1.trans (b2.mono (by have := HM.out; omega))
  have e3 := heap_below e1 b2 (by have := HM.out; omega)
  have Z2 : Hid (M < w2.heap.size) := heap_lt e2
  clear e1 b1 b2 z1 z2 hM
  go_upto_region 1 with fail
  with_reducible refine wp_region_list ?_
  with_reducible refine wpList_plain rfl ?_
  intro K hK
  go_simp
  refine (awake_any w2).mono ?_; rintro e w3 ⟨rfl, b3⟩
  first | with_reducible refine hK _ _ ?_ | refine hK _ _ ?_
  clear hK K
  (try simp only [Act.put, List.setIfInBounds_toArray, List.set_cons_zero, List.set_cons_succ])
  with_reducible refine wpList_plain rfl ?_
  intro K hK
  go_simp
  first | with_reducible refine hK _ _ ?_ | refine hK _ _ ?_
  clear hK K
  (try simp only [Act.put, List.setIfInBounds_toArray, List.set_cons_zero, List.set_cons_succ])
  have B3 : Hid (Below N w w3) := B2.out.trans (b3.mono (by have := HM.out; have := Z2.out; omega))
  have hz3 : M < w3.heap.size := by have := b3.size; have := Z2.out; omega
  have E2 := heap_below e2 b3 Z2.out
  have E3 := heap_below e3 b3 (by have := HM.out; have := Z2.out; omega)
  clear b3 e2 e3 B2 Z2
  have c0 := heap_cell E3 (o := 0)
  have c1 := heap_cell E3 (o := 1)
  have d0 := heap_cell E2 (o := 0)
  have d1 := heap_cell E2 (o := 1)
  have d2 := heap_cell E2 (o := 2)
  have d3 := heap_cell E2 (o := 3)
  have d4 := heap_cell E2 (o := 4)
  have d5 := heap_cell E2 (o := 5)
  have HP : Hid (Calls Try.prog 31 #[.agg #[.int .i64 a, .int .i64 b], .agg #[.slice cad nc ccap, .int .u32 (pages : Int), .slice had nh hcap, .int .i64 trees, .slice rad nr rcap, .int .u32 (most : Int)]] w3 fun e w' => ∃ ad n1 c1 ad2 n2 c2 op pg k, e = .returned (.tuple #[.agg #[.slice ad n1 c1, .slice ad2 n2 c2, .int .i64 ((op : Nat) : Int), .int .u32 ((pg : Nat) : Int)], .int .i64 k]) ∧ ToldP w' R ad n1 c1 ad2 n2 c2 op pg k ∧ Below w3.heap.size w3 w') := by
    have h := Plan_told a b pages most trees _ _ _ cs held rel w3 (HC.out.below (by rw [HN.out]; exact B3.out)) (HH.out.below (by rw [HN.out]; exact B3.out)) (HR.out.below (by rw [HN.out]; exact B3.out)) hp hm ht2
    rw [HRR.out] at h
    exact h
  have F2H := Lib.hid E2
  have F3H := Lib.hid E3
  clear E2 E3
  go_upto_region 3 with fail
  with_reducible refine wp_region_list ?_
  with_reducible refine wpList_plain rfl ?_
  intro K hK
  go_simp
  first | with_reducible refine hK _ _ ?_ | refine hK _ _ ?_
  clear hK K
  (try simp only [Act.put, List.setIfInBounds_toArray, List.set_cons_zero, List.set_cons_succ])
  with_reducible refine wpList_plain rfl ?_
  intro K hK
  go_simp
  first | with_reducible refine hK _ _ ?_ | refine hK _ _ ?_
  clear hK K
  (try simp only [Act.put, List.setIfInBounds_toArray, List.set_cons_zero, List.set_cons_succ])
  with_reducible refine wpList_plain rfl ?_
  intro K hK
  go_simp
  refine HP.out.mono ?_; rintro e w5 ⟨ad, n1, k1, ad2, n2, k2, op, pg, k, rfl, told, b5⟩
  first | with_reducible refine hK _ _ ?_ | refine hK _ _ ?_
  clear hK K
  (try simp only [Act.put, List.setIfInBounds_toArray, List.set_cons_zero, List.set_cons_succ])
  have TD := Lib.hid told
  have B5 : Hid (Below N w w5) := B3.out.trans (b5.mono (by have := HM.out; omega))
  have F2 := heap_below F2H.out b5 hz3
  have F3 := heap_below F3H.out b5 (by have := HM.out; omega)
  have G2 := Lib.hid F2
  have G3 := Lib.hid F3
  have hz5 : M < w5.heap.size := heap_lt F2
  clear told b5 F2 F3 F2H F3H HP c0 c1 d0 d1 d2 d3 d4 d5 B3 hz3
  with_reducible refine wpList_plain rfl ?_
  intro K hK
  go_simp
  first | with_reducible refine hK _ _ ?_ | refine hK _ _ ?_
  clear hK K
  (try simp only [Act.put, List.setIfInBounds_toArray, List.set_cons_zero, List.set_cons_succ])
  with_reducible refine wpList_plain rfl ?_
  intro K hK
  go_simp
  first | with_reducible refine hK _ _ ?_ | refine hK _ _ ?_
  clear hK K
  (try simp only [Act.put, List.setIfInBounds_toArray, List.set_cons_zero, List.set_cons_succ])
  with_reducible refine wpList_plain rfl ?_
  intro K hK
  go_simp
  first | with_reducible refine hK _ _ ?_ | refine hK _ _ ?_
  clear hK K
  (try simp only [Act.put, List.setIfInBounds_toArray, List.set_cons_zero, List.set_cons_succ])
  obtain ⟨T, hT⟩ : ∃ k, w5.heap.size = k := ⟨_, rfl⟩
  refine wpList_allocB rfl 48 rfl T hT (.agg #[.slice none 0 0, .slice none 0 0, .int .i64 0, .int .u32 0]) (fun _ => by kernel_rfl) ?_
  intro w6 e6 b6 z6
  (try simp only [Act.put, List.setIfInBounds_toArray, List.set_cons_zero, List.set_cons_succ])
  refine wpList_storeB rfl 48 _ _ rfl T #[.slice ad n1 k1, .slice ad2 n2 k2, .int .i64 (op : Int), .int .u32 (pg : Int)] rfl rfl 48 _ e6 (by kernel_rfl) rfl (by simp [Value.oneCell']) ?_
  intro w7 e7 m7
  (try simp only [Act.put, List.setIfInBounds_toArray, List.set_cons_zero, List.set_cons_succ])
  with_reducible refine wpList_plain rfl ?_
  intro K hK
  go_simp
  first | with_reducible refine hK _ _ ?_ | refine hK _ _ ?_
  clear hK K
  (try simp only [Act.put, List.setIfInBounds_toArray, List.set_cons_zero, List.set_cons_succ])
  have b7 : Below w5.heap.size w5 w7 := by rw [hT]; exact b6.trans (m7.below (n := T) (fun k hk e => by omega) (by omega))
  have B7 : Hid (Below N w w7) := B5.out.trans (b7.mono (by have := HM.out; omega))
  have F2 := heap_below G2.out b7 hz5
  have F3 := heap_below G3.out b7 (by have := HM.out; omega)
  have G2 := Lib.hid F2
  have G3 := Lib.hid F3
  have hz7 : M < w7.heap.size := heap_lt F2
  have TD := Lib.hid (TD.out.below b7)
  have E7 := Lib.hid e7
  have hzT : T < w7.heap.size := heap_lt e7
  clear F2 F3 e6 e7 b6 z6 m7 b7 B5 hT
  have t0 := heap_cell E7.out (o := 0)
  have t1 := heap_cell E7.out (o := 1)
  have t2 := heap_cell E7.out (o := 2)
  have t3 := heap_cell E7.out (o := 3)
  have d0 := heap_cell G2.out (o := 0)
  have d1 := heap_cell G2.out (o := 1)
  have d3 := heap_cell G2.out (o := 3)
  have d5 := heap_cell G2.out (o := 5)
  by_cases hk : k = 0
  case neg =>
    have hk2 : (k != 0) = true := by simpa using hk
    have hz : n1 = 0 ∧ n2 = 0 ∧ op = 0 ∧ pg = 0 := by
      have ht := TD.out
      cases R with
      | inl j => exact ht.2.2
      | inr p => exact absurd ht.1 hk
    obtain ⟨hz1, hz2, hz3, hz4⟩ := hz
    subst hz1 hz2 hz3 hz4
    clear hk
    go_wp2_with fail
    go_ret
    exact ⟨rfl, B7.out⟩
  case pos =>
    subst hk
    have HF : Hid (∃ p, R = .inr p ∧ n1 = p.trees.length ∧ n2 = p.lists.length ∧ URow w7 (.slice ad n1 k1) p.trees ∧ CRow w7 (.slice ad2 n2 k2) p.lists ∧ ((n1 : Int) = trees ∧ pages ≤ pg ∧ pg ≤ most ∧ op ≤ nc) ∧ ((p.trees ++ p.lists.map (·.1)).Nodup ∧ (∀ x ∈ p.trees ++ p.lists.map (·.1), x < pg ∧ (x < pages → leftS cs x = true ∧ held.contains x = false ∧ rel.contains x = false))) ∧ p.trees.length ≤ 200000 ∧ p.lists.length ≤ 200000 ∧ All4 (p.trees ++ p.lists.map (·.1)) ∧ (numsL cs).Nodup ∧ (numsL cs).length < 9223372036854775807) := by
      have ht := TD.out
      have hr := HRR.out
      have hnc := HNC.out
      cases R with
      | inl j => obtain ⟨h1, h2, _⟩ := ht; exact absurd h1.symm h2
      | inr p =>
        obtain ⟨_, g1, g2, g3, g4, g5, g6⟩ := ht
        obtain ⟨q1, q2, q3, q4, q5, q6, q7, q8⟩ := owned_plain hr
        obtain ⟨q9, q10, q11⟩ := took_small hr
        have hn1 := (numsL_sub cs).nodup (List.nodup_append.1 q7.1).1
        have hn2 := nodup_le (numsL cs) (List.range pages) hn1 (fun x hx => List.mem_range.2 (q7.2 x (List.mem_append_left _ ((numsL_sub cs).subset hx))))
        rw [List.length_range] at hn2
        exact ⟨p, rfl, g1, g2, g5, g6, ⟨by rw [g1]; exact q1, by rw [g4]; exact q2, by rw [g4]; exact q3, by rw [g3, ← hnc]; exact q4⟩, ⟨q5, by rw [g4]; exact q6⟩, q9, q10, q11, hn1, by omega⟩
    obtain ⟨p, hpR, hn1, hn2, hrT, hrC, ⟨hA1, hA2, hA3, hA4⟩, ⟨hB1, hB2⟩, hW3, hW4, hW5, hC1, hC2⟩ := HF.out
    have RT := Lib.hid hrT
    have RC := Lib.hid hrC
    have HN2 := Lib.hid hn2
    have W1 := Lib.hid hB1
    have W2 := Lib.hid hB2
    have W5 := Lib.hid hW5
    have C1 := Lib.hid hC1
    have C2 := Lib.hid hC2
    have HL9 : Hid ((p.trees ++ p.lists.map (·.1)).length ≤ 400000) := by show _ ≤ _; rw [List.length_append, List.length_map]; omega
    have HK := Lib.hid (took_any ad n1 k1 ad2 n2 k2 op pg p.trees p.lists w7 RT RC hW3 hW4 HN2)
    clear TD HRR HF hpR hn1 hn2 hrT hrC hB1 hB2 hW3 hW4 hW5 hC1 hC2
    subst hA1
    have g2 : decide (pg < pages) = false := decide_eq_false (by omega)
    have g3 : decide (most < pg) = false := decide_eq_false (by omega)
    have g4 : decide ((op : Int) < 0) = false := decide_eq_false (by omega)
    have g5 : decide (nc < op) = false := decide_eq_false (by omega)
    have g6 : decide ((nc : Int) < (op : Int)) = false := decide_eq_false (by omega)
    clear hA2 hA3 hA4
    go_upto_region 8 with fail
    clear g2 g3 g4 g5 g6 d0 d1 d3 d5
    with_reducible refine wp_region_list ?_
    with_reducible refine wpList_plain rfl ?_
    intro K hK
    go_simp
    first | with_reducible refine hK _ _ ?_ | refine hK _ _ ?_
    clear hK K
    (try simp only [Act.put, List.setIfInBounds_toArray, List.set_cons_zero, List.set_cons_succ])
    with_reducible refine wpList_plain rfl ?_
    intro K hK
    go_simp
    refine HK.out.mono ?_; rintro e w8 ⟨v8, rfl, o8, b8⟩
    first | with_reducible refine hK _ _ ?_ | refine hK _ _ ?_
    clear hK K
    (try simp only [Act.put, List.setIfInBounds_toArray, List.set_cons_zero, List.set_cons_succ])
    have hr8 := o8.row W5.out
    obtain ⟨vad, vc, hv8, hx9, hx8⟩ := hr8.form
    obtain ⟨vn, hvn⟩ : ∃ k, (p.trees ++ p.lists.map (·.1)).length = k := ⟨_, rfl⟩
    rw [hvn] at hv8
    subst hv8
    have HV := Lib.hid hr8
    have HVN := Lib.hid hvn
    clear hvn hr8 hx8 hx9 o8
    with_reducible refine wpList_plain rfl ?_
    intro K hK
    go_simp
    first | with_reducible refine hK _ _ ?_ | refine hK _ _ ?_
    clear hK K
    (try simp only [Act.put, List.setIfInBounds_toArray, List.set_cons_zero, List.set_cons_succ])
    have B8 : Hid (Below N w w8) := B7.out.trans (b8.mono (by have := HM.out; omega))
    have E8 := Lib.hid (heap_below E7.out b8 hzT)
    have J2 := Lib.hid (heap_below G2.out b8 hz7)
    clear t0 t1 t2 t3 B7 E7 G2 G3 RC RT hz7 hzT b8 HK
    go_upto_region 9 with fail
    with_reducible refine wp_region_list ?_
    with_reducible refine wpList_plain rfl ?_
    intro K hK
    go_simp
    first | with_reducible refine hK _ _ ?_ | refine hK _ _ ?_
    clear hK K
    (try simp only [Act.put, List.setIfInBounds_toArray, List.set_cons_zero, List.set_cons_succ])
    with_reducible refine wpList_plain rfl ?_
    intro K hK
    go_simp
    first | with_reducible refine hK _ _ ?_ | refine hK _ _ ?_
    clear hK K
    (try simp only [Act.put, List.setIfInBounds_toArray, List.set_cons_zero, List.set_cons_succ])
    obtain ⟨q8, hq8⟩ : ∃ q, w8.heap.size = q := ⟨_, rfl⟩
    obtain ⟨w9, hw9⟩ : ∃ W, w8.alloc (.cells #[.slice vad vn vc] 28) = W := ⟨_, rfl⟩
    have b9 : Below w8.heap.size w8 w9 := by rw [← hw9]; exact (Below.refl _ _).alloc (Nat.le_refl _) _
    have c9 : w9.cell? ⟨q8, 0, none⟩ = some (.slice vad vn vc) := by rw [← hw9, ← hq8, heap_cell (heap_alloc_new w8 _)]; rfl
    have HS := Lib.hid (set_any (.slice none 0 0) (.slice vad vn vc) 0 q8 1 [] (p.trees ++ p.lists.map (·.1)) w9 (CRow.nilC w9) (HV.out.below b9) c9 W1.out (by show _ < _; have := HL9.out; simp only [flat, List.flatMap_nil, List.nil_append]; omega))
    have B9 : Hid (Below N w w9) := B8.out.trans (b9.mono (by have h1 := B8.out.size; rw [HN.out] at h1; exact h1))
    have HV9 := Lib.hid (HV.out.below b9)
    have E9 := Lib.hid (heap_below E8.out b9 (heap_lt E8.out))
    have J9 := Lib.hid (heap_below J2.out b9 (heap_lt J2.out))
    rw [hw9, hq8]
    clear hw9 hq8 b9 c9 B8 E8 J2 HV
    with_reducible refine wpList_plain rfl ?_
    intro K hK
    go_simp
    refine HS.out.mono ?_; rintro e w10 ⟨sg, rfl, _, _, b10⟩
    first | with_reducible refine hK _ _ ?_ | refine hK _ _ ?_
    clear hK K
    (try simp only [Act.put, List.setIfInBounds_toArray, List.set_cons_zero, List.set_cons_succ])
    with_reducible refine wpList_plain rfl ?_
    intro K hK
    go_simp
    first | with_reducible refine hK _ _ ?_ | refine hK _ _ ?_
    clear hK K
    (try simp only [Act.put, List.setIfInBounds_toArray, List.set_cons_zero, List.set_cons_succ])
    with_reducible refine wpList_plain rfl ?_
    intro K hK
    go_simp
    first | with_reducible refine hK _ _ ?_ | refine hK _ _ ?_
    clear hK K
    (try simp only [Act.put, List.setIfInBounds_toArray, List.set_cons_zero, List.set_cons_succ])
    with_reducible refine wpList_plain rfl ?_
    intro K hK
    go_simp
    first | with_reducible refine hK _ _ ?_ | refine hK _ _ ?_
    clear hK K
    (try simp only [Act.put, List.setIfInBounds_toArray, List.set_cons_zero, List.set_cons_succ])
    with_reducible refine wpList_plain rfl ?_
    intro K hK
    go_simp
    first | with_reducible refine hK _ _ ?_ | refine hK _ _ ?_
    clear hK K
    (try simp only [Act.put, List.setIfInBounds_toArray, List.set_cons_zero, List.set_cons_succ])
    with_reducible refine wpList_plain rfl ?_
    intro K hK
    go_simp
    first | with_reducible refine hK _ _ ?_ | refine hK _ _ ?_
    clear hK K
    (try simp only [Act.put, List.setIfInBounds_toArray, List.set_cons_zero, List.set_cons_succ])
    have B10 : Hid (Below N w w10) := B9.out.trans (b10.mono (by have h1 := B9.out.size; rw [HN.out] at h1; exact h1))
    have HVA := Lib.hid (HV9.out.below b10)
    have EA := Lib.hid (heap_below E9.out b10 (heap_lt E9.out))
    have JA := Lib.hid (heap_below J9.out b10 (heap_lt J9.out))
    clear b10 HS B9 HV9 E9 J9
    have hmm := @run_makeMap Try.prog
    go_upto_region 12 with fail
    with_reducible refine wp_region_list ?_
    with_reducible refine wpList_plain rfl ?_
    intro K hK
    go_simp
    first | with_reducible refine hK _ _ ?_ | refine hK _ _ ?_
    clear hK K
    (try simp only [Act.put, List.setIfInBounds_toArray, List.set_cons_zero, List.set_cons_succ])
    with_reducible refine wpList_plain rfl ?_
    intro K hK
    go_simp
    first | with_reducible refine hK _ _ ?_ | refine hK _ _ ?_
    clear hK K
    (try simp only [Act.put, List.setIfInBounds_toArray, List.set_cons_zero, List.set_cons_succ])
    obtain ⟨L, hL⟩ : ∃ L, w10.heap.size = L := ⟨_, rfl⟩
    obtain ⟨wM, hwM⟩ : ∃ W, w10.alloc (.map #[] 0) = W := ⟨_, rfl⟩
    have bM : Below w10.heap.size w10 wM := by rw [← hwM]; exact (Below.refl _ _).alloc (Nat.le_refl _) _
    have CM : Hid (CntM wM L (numsL (cs.take 0)).length (oneF (numsL (cs.take 0)))) := by
      have h := CntM.made w10
      rw [hwM, hL] at h
      exact h.congr (fun x _ => by simp [numsL, oneF])
    have BM := Lib.hid bM
    have HLs := Lib.hid hL
    rw [hwM, hL]
    clear bM hwM hL hmm
    have hT10 : T < w10.heap.size := heap_lt EA.out
    have hM10 : M < w10.heap.size := heap_lt JA.out
    have hN10 : N ≤ w10.heap.size := by have h1 := B10.out.size; rw [HN.out] at h1; exact h1
    go_upto_region 14 with fail
    go_loopw [11] (fun iv wr => ∃ (k : Nat), k ≤ nc ∧ Hid (CntM wr L (numsL (cs.take k)).length (oneF (numsL (cs.take k)))) ∧ Hid (Below w10.heap.size w10 wr) ∧ iv = .int .i64 (k : Int)) (fun iv _ => nc - (intOf iv).toNat)
    case atStart => exact ⟨0, Nat.zero_le _, CM, BM, rfl⟩
    case round =>
      obtain ⟨k, hk, HS, HB, rfl⟩ := hrel
      have Jr := heap_below JA.out HB.out hM10
      have d0 := heap_cell Jr (o := 0)
      by_cases hlt : k < nc
      case pos =>
        have ik : (k : Int) < (nc : Int) := by omega
        have hkx : k < cs.length := by have := HNC.out; omega
        have hCA : CRow w10 (.slice cad nc ccap) cs := HC.out.below (by rw [HN.out]; exact B10.out)
        obtain ⟨b1, o1, nad, nc2, e1, r1, u1, pp1⟩ := hCA.at hkx
        subst e1
        have hfl := numsL_split cs hkx
        have hfs := numsL_succ cs hkx
        obtain ⟨⟨pg1, ys⟩, hx0⟩ : ∃ x, cs[k] = x := ⟨_, rfl⟩
        rw [hx0] at r1 u1 hfl hfs
        simp only at r1 u1 hfl hfs
        have HFL := Lib.hid hfl
        have HFS := Lib.hid hfs
        have hb1 : b1 < w10.heap.size := World.block_lt_of_cell? w10 ⟨b1, o1 + k * 2 + 0, none⟩ (r1 0 _ rfl)
        obtain ⟨ny, hny⟩ : ∃ n, ys.length = n := ⟨_, rfl⟩
        have HNY := Lib.hid hny
        have R1 := Lib.hid r1
        have HU := Lib.hid u1
        rw [hny] at HU R1
        clear hfl hfs hx0 r1 u1 hny hkx hlt pp1 hCA
        obtain ⟨k9, hk9⟩ : ∃ k9 : Nat, k9 = k + 1 := ⟨_, rfl⟩
        have ew1 : (k : Int) + 1 = (k9 : Int) := by omega
        have ew2 : IntKind.i64.wrap (k9 : Int) = (k9 : Int) := IntWalk.i64_in _ (by obtain ⟨_, _, h2, h3⟩ := HC.out.form; have := HNC.out; omega)
        have hk3 : k9 ≤ nc := by omega
        have hk4 : nc - k9 < nc - k := by omega
        have HK9 := Lib.hid hk9
        clear hk9
        have S4 : Hid (CntM wr L (numsL (cs.take k) ++ ys.take 0).length (oneF (numsL (cs.take k) ++ ys.take 0))) := by rw [List.take_zero, List.append_nil]; exact HS
        go_upto_region 17 with fail
        have HB0 := Lib.hid HB.out
        clear d0 Jr HB HS
        go_loopw [12] (fun iv wr3 => ∃ (i : Nat), i ≤ ny ∧ Hid (CntM wr3 L (numsL (cs.take k) ++ ys.take i).length (oneF (numsL (cs.take k) ++ ys.take i))) ∧ Hid (Below w10.heap.size w10 wr3) ∧ iv = .int .i64 (i : Int)) (fun iv _ => ny - (intOf iv).toNat)
        case atStart => exact ⟨0, Nat.zero_le _, S4, HB0, rfl⟩
        case round =>
          obtain ⟨i, hi, HT, HB, rfl⟩ := hrel
          have Jr := heap_below JA.out HB.out hM10
          have d0 := heap_cell Jr (o := 0)
          have f2 := range_block R1.out (HB.out.block b1 hb1) 1 _ rfl
          by_cases hlt : i < ny
          case neg =>
            have ii : ¬ (i : Int) < (ny : Int) := by omega
            have ST : Hid (CntM wr L (numsL (cs.take k9)).length (oneF (numsL (cs.take k9)))) := by
              have h := HT.out
              have ht : ys.take i = ys := List.take_of_length_le (by rw [HNY.out]; omega)
              rw [ht, ← HFS.out, ← HK9.out] at h
              exact h
            clear hlt
            go_wp2_with fail
            exact ⟨⟨k9, hk3, ST, HB, rfl⟩, by simp only [intOf, Int.toNat_natCast]; exact hk4⟩
          case pos =>
            have ii : (i : Int) < (ny : Int) := by omega
            have hix : i < ys.length := by have := HNY.out; omega
            obtain ⟨a1, c1, e1, _, g1⟩ := (HU.out.below HB.out).form
            obtain ⟨b3, o3, e3, hc3⟩ := g1 (by omega)
            have e4 := (Value.slice.inj e1).1
            rw [e3] at e4
            subst e4
            have h1 := hc3 i hix
            have hx4 : ys[i] < 4294967296 := HU.out.1 _ (List.getElem_mem hix)
            have hyd : ys = ys.take i ++ ys[i] :: ys.drop (i + 1) := by rw [← List.drop_eq_getElem_cons hix, List.take_append_drop]
            have hyt : ys.take (i + 1) = ys.take i ++ [ys[i]] := List.take_succ_eq_append_getElem hix
            obtain ⟨y, hy⟩ : ∃ y, ys[i] = y := ⟨_, rfl⟩
            rw [hy] at h1 hx4 hyd hyt
            unfold uN at h1
            have hmid := nd_mid (acc := numsL (cs.take k) ++ ys.take i) (y := y) (rest := ys.drop (i + 1) ++ numsL (cs.drop (k + 1))) C1.out C2.out (by rw [HFL.out]; exact mid3 _ _ _ _ _ _ hyd)
            have HYT := Lib.hid hyt
            obtain ⟨i9, hi9⟩ : ∃ i9 : Nat, i9 = i + 1 := ⟨_, rfl⟩
            have iw1 : (i : Int) + 1 = (i9 : Int) := by omega
            have iw2 : IntKind.i64.wrap (i9 : Int) = (i9 : Int) := IntWalk.i64_in _ (by obtain ⟨_, _, _, h2, _⟩ := HU.out.form; omega)
            have hi3 : i9 ≤ ny := by omega
            have hi4 : ny - i9 < ny - i := by omega
            have HI9 := Lib.hid hi9
            have HMD := Lib.hid hmid
            clear hmid hyd hyt hy hi9 hc3 e1 e3 g1 hix hlt
            go_upto_region 19 with fail
            with_reducible refine wp_region_list ?_
            with_reducible refine wpList_plain rfl ?_
            intro K hK
            go_simp
            first | with_reducible refine hK _ _ ?_ | refine hK _ _ ?_
            clear hK K
            (try simp only [Act.put, List.setIfInBounds_toArray, List.set_cons_zero, List.set_cons_succ])
            with_reducible refine wpList_plain rfl ?_
            intro K hK
            go_simp
            first | with_reducible refine hK _ _ ?_ | refine hK _ _ ?_
            clear hK K
            (try simp only [Act.put, List.setIfInBounds_toArray, List.set_cons_zero, List.set_cons_succ])
            with_reducible refine wpList_plain rfl ?_
            intro K hK
            go_simp
            first | with_reducible refine hK _ _ ?_ | refine hK _ _ ?_
            clear hK K
            (try simp only [Act.put, List.setIfInBounds_toArray, List.set_cons_zero, List.set_cons_succ])
            with_reducible refine wpList_plain rfl ?_
            intro K hK
            go_simp
            first | with_reducible refine hK _ _ ?_ | refine hK _ _ ?_
            clear hK K
            (try simp only [Act.put, List.setIfInBounds_toArray, List.set_cons_zero, List.set_cons_succ])
            with_reducible refine wpList_plain rfl ?_
            intro K hK
            go_simp
            first | with_reducible refine hK _ _ ?_ | refine hK _ _ ?_
            clear hK K
            (try simp only [Act.put, List.setIfInBounds_toArray, List.set_cons_zero, List.set_cons_succ])
            with_reducible refine wpList_plain rfl ?_
            intro K hK
            go_simp
            first | with_reducible refine hK _ _ ?_ | refine hK _ _ ?_
            clear hK K
            (try simp only [Act.put, List.setIfInBounds_toArray, List.set_cons_zero, List.set_cons_succ])
            with_reducible refine wpList_plain rfl ?_
            intro K hK
            go_simp
            first | with_reducible refine hK _ _ ?_ | refine hK _ _ ?_
            clear hK K
            (try simp only [Act.put, List.setIfInBounds_toArray, List.set_cons_zero, List.set_cons_succ])
            with_reducible refine wpList_plain rfl ?_
            intro K hK
            go_simp
            first | with_reducible refine hK _ _ ?_ | refine hK _ _ ?_
            clear hK K
            (try simp only [Act.put, List.setIfInBounds_toArray, List.set_cons_zero, List.set_cons_succ])
            with_reducible refine wpList_plain rfl ?_
            intro K hK
            go_simp
            first | with_reducible refine hK _ _ ?_ | refine hK _ _ ?_
            clear hK K
            (try simp only [Act.put, List.setIfInBounds_toArray, List.set_cons_zero, List.set_cons_succ])
            with_reducible refine wpList_plain rfl ?_
            intro K hK
            go_simp
            first | with_reducible refine hK _ _ ?_ | refine hK _ _ ?_
            clear hK K
            (try simp only [Act.put, List.setIfInBounds_toArray, List.set_cons_zero, List.set_cons_succ])
            refine wpList_putN rfl _ _ _ rfl HT.out HMD.out.2 rfl y hx4 rfl rfl HMD.out.1 (fun w5 q1 q2 => ?_)
            (try simp only [Act.put, List.setIfInBounds_toArray, List.set_cons_zero, List.set_cons_succ])
            have S5 : Hid (CntM w5 L (numsL (cs.take k) ++ ys.take i9).length (oneF (numsL (cs.take k) ++ ys.take i9))) := by
              have h := q1.cons
              rw [HI9.out, HYT.out]
              show CntM _ _ _ _
              simpa [Nat.add_assoc] using h
            have B5 : Hid (Below w10.heap.size w10 w5) := HB.out.trans (q2.below (n := w10.heap.size) (fun j hj e => by have := HLs.out; omega) HB.out.size)
            clear q1 q2 d0 Jr f2 h1 HT HB
            go_wp2_with fail
            exact ⟨⟨i9, hi3, S5, B5, rfl⟩, by simp only [intOf, Int.toNat_natCast]; exact hi4⟩
      case neg =>
        have ik : ¬ (k : Int) < (nc : Int) := by omega
        have SF : Hid (CntM wr L (numsL cs).length (oneF (numsL cs))) := by
          have h := HS.out
          have ht : cs.take k = cs := List.take_of_length_le (by rw [HNC.out]; omega)
          rw [ht] at h
          exact h
        have HBF := Lib.hid HB.out
        clear hlt HS CM BM
        go_upto_region 21 with fail
        clear ik hk d0 Jr HB
        go_loopw [13] (fun iv wr2 => ∃ (j : Nat), j ≤ vn ∧ Hid (CntM wr2 L (numsL cs).length (oneF (numsL cs))) ∧ Hid (Below w10.heap.size w10 wr2) ∧ iv = .int .i64 (j : Int)) (fun iv _ => vn - (intOf iv).toNat)
        case atStart => exact ⟨0, Nat.zero_le _, SF, HBF, rfl⟩
        case round =>
          obtain ⟨j, hj, HS, HB, rfl⟩ := hrel
          by_cases hlt : j < vn
          case neg =>
            have ij : ¬ (j : Int) < (vn : Int) := by omega
            have HBN : Hid (Below N w _) := B10.out.trans (HB.out.mono hN10)
            clear hlt
            go_wp2_with fail
            go_ret
            exact ⟨rfl, HBN.out⟩
          case pos =>
            have ij : (j : Int) < (vn : Int) := by omega
            have hjx : j < (p.trees ++ p.lists.map (·.1)).length := by have := HVN.out; omega
            obtain ⟨a1, c1, e1, _, g1⟩ := (HVA.out.below HB.out).form
            obtain ⟨b3, o3, e3, hc3⟩ := g1 (by omega)
            have e4 := (Value.slice.inj e1).1
            rw [e3] at e4
            subst e4
            have h1 := hc3 j hjx
            have hx4 := W5.out _ (List.getElem_mem hjx)
            have hw2 := W2.out _ (List.getElem_mem hjx)
            obtain ⟨x, hx⟩ : ∃ x, (p.trees ++ p.lists.map (·.1))[j] = x := ⟨_, rfl⟩
            rw [hx] at h1 hx4 hw2
            unfold uN at h1
            obtain ⟨j9, hj9⟩ : ∃ j9 : Nat, j9 = j + 1 := ⟨_, rfl⟩
            have jw1 : (j : Int) + 1 = (j9 : Int) := by omega
            have jw2 : IntKind.i64.wrap (j9 : Int) = (j9 : Int) := IntWalk.i64_in _ (by have := HL9.out; have := HVN.out; omega)
            have hj3 : j9 ≤ vn := by omega
            have hj4 : vn - j9 < vn - j := by omega
            have Jr := heap_below JA.out HB.out hM10
            have Er := heap_below EA.out HB.out hT10
            have d1 := heap_cell Jr (o := 1)
            have d2 := heap_cell Jr (o := 2)
            have d4 := heap_cell Jr (o := 4)
            have t3 := heap_cell Er (o := 3)
            have y1 : decide (pg ≤ x) = false := decide_eq_false (by have := hw2.1; omega)
            have HW2 := Lib.hid hw2.2
            clear hj9 hx hc3 e1 e3 g1 hjx hlt hw2 Jr Er
            by_cases hxp : x < pages
            case neg =>
              have y2 : decide (x < pages) = false := decide_eq_false hxp
              clear hxp d2 d4
              go_upto_region 23 with fail
              go_quiet (fail)
              have HS2 : Hid (CntM (wr.drewN nq) L (numsL cs).length (oneF (numsL cs))) := HS.out.below (below_dN wr nq)
              have HB2 : Hid (Below w10.heap.size w10 (wr.drewN nq)) := HB.out.trans ((below_dN wr nq).mono HB.out.size)
              clear d1 t3 h1 y1 y2
              go_wp2_with fail
              exact ⟨⟨j9, hj3, HS2, HB2, rfl⟩, by simp only [intOf, Int.toNat_natCast]; exact hj4⟩
            case pos =>
              have y2 : decide (x < pages) = true := decide_eq_true hxp
              obtain ⟨z1, z2, z3⟩ := HW2.out hxp
              have HL1 : ∀ n, (Instr.lookup 60 (.map (some L)) (.int .u32 (x : Int)) false).run Try.prog (wr.drewN n) = .ok (.int .i64 1) (wr.drewN n) := fun n => by
                have h := (HS.out.below (below_dN wr n)).look x hx4
                have h2 : oneF (numsL cs) x = 1 := by
                  unfold oneF
                  rw [if_pos (List.contains_iff_mem.2 (numsL_mem.1 z1))]
                rw [h2] at h
                exact h
              have hBN : ∀ n, Below N w (wr.drewN n) := fun n => B10.out.trans ((HB.out.trans ((below_dN wr n).mono HB.out.size)).mono hN10)
              have HQ1 : Hid (∀ n, Calls Try.prog 37 #[.slice had nh hcap, .int .u32 (x : Int)] (wr.drewN n) (fun e w' => e = .returned (.bool false) ∧ w' = wr.drewN n)) := fun n => by
                have h := has_same (.slice had nh hcap) held x (wr.drewN n) (HH.out.below (by rw [HN.out]; exact hBN n))
                rw [z2] at h
                exact h
              have HQ2 : Hid (∀ n, Calls Try.prog 37 #[.slice rad nr rcap, .int .u32 (x : Int)] (wr.drewN n) (fun e w' => e = .returned (.bool false) ∧ w' = wr.drewN n)) := fun n => by
                have h := has_same (.slice rad nr rcap) rel x (wr.drewN n) (HR.out.below (by rw [HN.out]; exact hBN n))
                rw [z3] at h
                exact h
              clear hxp z1 z2 z3 hBN HW2
              go_upto_region 23 with fail
              go_quiet ((go_at_call 37; first | with_reducible exact Calls.quiet_of_same (HQ1.out _) | with_reducible exact Calls.quiet_of_same (HQ2.out _)))
              have HS2 : Hid (CntM (wr.drewN nq) L (numsL cs).length (oneF (numsL cs))) := HS.out.below (below_dN wr nq)
              have HB2 : Hid (Below w10.heap.size w10 (wr.drewN nq)) := HB.out.trans ((below_dN wr nq).mono HB.out.size)
              clear d1 d2 d4 t3 h1 y1 y2 HL1 HQ1 HQ2
              go_wp2_with fail
              exact ⟨⟨j9, hj3, HS2, HB2, rfl⟩, by simp only [intOf, Int.toNat_natCast]; exact hj4⟩
end Go.Proofs.Ytkngmnfgdlnddaa
