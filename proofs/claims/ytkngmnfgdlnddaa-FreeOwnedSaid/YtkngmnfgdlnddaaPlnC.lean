/-
  The walk of FreeWanted.
-/
import Derived.Test.YtkngmnfgdlnddaaPlnB
namespace Go.Proofs.Ytkngmnfgdlnddaa
open Go.RowKit Go.Lib Hw Go.Maps
set_option linter.unusedSimpArgs false
set_option linter.unusedVariables false

theorem ToldP.below {w w' : World} {r : Int ⊕ PlanV} {ad : Option Addr} {n1 c1 : Nat} {ad2 : Option Addr} {n2 c2 op pg : Nat} {k : Int} (h : ToldP w r ad n1 c1 ad2 n2 c2 op pg k) (hb : Below w.heap.size w w') : ToldP w' r ad n1 c1 ad2 n2 c2 op pg k := by
  cases r with
  | inl j => exact h
  | inr p =>
    obtain ⟨h1, h2, h3, h4, h5, h6, h7⟩ := h
    exact ⟨h1, h2, h3, h4, h5, h6.below hb, h7.below hb⟩
theorem wanted_plain {a b : Int} {chain : List (Nat × List Nat)} {pages most : Nat} {held rel : List Nat} {trees : Int} {p : PlanV} (h : planF a b chain pages held trees rel most = .inr p) (hne : p.pages ≠ pages) :
    (∀ c ∈ p.lists, pages ≤ c.1 → p.opened = chain.length) ∧ ∀ c ∈ chain, ∀ z ∈ c.2, held.contains z = true ∨ (p.trees ++ p.lists.map (·.1)).contains z = true := by
  obtain ⟨s, t, hm⟩ := planF_inr h
  have f := hm.facts
  have e1 : p.lists.map (·.1) = t.lists := by rw [hm.eq]; exact dealL_fst _ _ _
  have e2 : p.trees = s.trees := by rw [hm.eq]
  have e3 : p.opened = t.opened := by rw [hm.eq]
  have e4 : p.pages = t.pages := by rw [hm.eq]
  rw [e1, e2, e3]
  rw [e4] at hne
  refine ⟨fun c hc hp => (f.lw.ls c.1 (by rw [← e1]; exact List.mem_map_of_mem hc)).2 hp, fun c hc z hz => ?_⟩
  have hno : mayF s.left (heldS held) z = false → held.contains z = true ∨ z ∈ s.trees := fun h1 => by
    unfold mayF at h1
    cases hh : held.contains z with
    | true => exact .inl rfl
    | false =>
      right
      have h2 : s.left z = false := by
        unfold heldS at h1
        rw [hh] at h1
        simpa using h1
      refine Classical.byContradiction fun h3 => ?_
      have := (f.tw.lf z).2 ⟨mem_leftS hc hz, h3⟩
      rw [h2] at this
      cases this
  by_cases hs : s.pages = pages
  · obtain ⟨h1, h2⟩ := f.lw.gr (by rw [hs]; exact hne)
    cases hm2 : mayF s.left (heldS held) z with
    | false =>
      rcases hno hm2 with h3 | h3
      · exact .inl h3
      · exact .inr (List.contains_iff_mem.2 (List.mem_append_left _ h3))
    | true =>
      rcases f.lw.cn c (by rw [h1, List.take_length]; exact hc) z hz hm2 with h3 | h3
      · have h4 := setL_mem.2 (show z < pages ∧ t.s.C z = true from ⟨f.good.2 z (List.mem_append_left _ (left_mem (mem_leftS hc hz))), h3⟩)
        rw [h2] at h4
        simp at h4
      · exact .inr (List.contains_iff_mem.2 (List.mem_append_right _ h3))
  · have h1 := f.tw.gr hs
    rcases hno (f.tw.no c (by rw [h1, List.take_length]; exact hc) z hz) with h3 | h3
    · exact .inl h3
    · exact .inr (List.contains_iff_mem.2 (List.mem_append_left _ h3))
theorem took_small {a b : Int} {chain : List (Nat × List Nat)} {pages most : Nat} {held rel : List Nat} {trees : Int} {p : PlanV} (h : planF a b chain pages held trees rel most = .inr p) : p.trees.length ≤ 200000 ∧ p.lists.length ≤ 200000 ∧ All4 (p.trees ++ p.lists.map (·.1)) := by
  obtain ⟨g1, g2, g3, g4, g5⟩ := plan_small h
  obtain ⟨s, t, hm⟩ := planF_inr h
  have f := hm.facts
  have e2 : p.trees = s.trees := by rw [hm.eq]
  have e4 : p.pages = t.pages := by rw [hm.eq]
  have h1 := f.tok.inv.1.le
  have h2 := f.tok.hi
  have h3 := f.m6
  refine ⟨by rw [e2]; omega, ?_, fun x hx => ?_⟩
  · have e5 : p.lists.length = t.lists.length := by rw [hm.eq]; simp [dealL_len]
    rw [e5]
    have := listG_ind (fun u => u.lists.length ≤ pages + 1) (fun u u2 hu hmo hs => ?_) _ _ _ (by simp) hm.lt
    · have := f.pm
      omega
    · have h6 := more_lt hmo (ent_rng f.may).1
      unfold stepL at hs
      split at hs
      · cases hs; simp; omega
      · split at hs
        · cases hs; exact hu
        · split at hs
          · cases hs; simp; omega
          · cases hs
  · rcases List.mem_append.1 hx with hx | hx
    · have := g2 x hx; omega
    · obtain ⟨c, hc, rfl⟩ := List.mem_map.1 hx
      have := (g1 c hc).1
      omega
set_option maxRecDepth 5000 in
set_option maxHeartbeats 16000000 in
theorem FreeWanted_walk (v nv : Value) (w : World) (hv : IsFrame v) (hn : IsNeed w nv) : Calls Try.prog 9 #[v, nv] w fun e w' => e = .returned (.bool true) ∧ Below w.heap.size w w' := by
  obtain ⟨a, b, rfl, ha, hb⟩ := hv
  obtain ⟨chv, hdv, rv, cs, held, rel, pages, most, trees, rfl, hch, hhe, hre, hp, hm, ht1, ht2⟩ := hn
  obtain ⟨cad, ccap, hcv, hx1⟩ := hch.1.form
  obtain ⟨had, hcap, hhv, hx2⟩ := hhe.1.form
  obtain ⟨rad, rcap, hrv, hx3⟩ := hre.1.form
  clear hx1 hx2 hx3
  subst hcv hhv hrv
  have HC := Lib.hid hch.1
  have HR := Lib.hid hre.1
  have HH := Lib.hid hhe.1
  clear hch hhe ha hb ht1 hre
  obtain ⟨R, hR⟩ : ∃ R, planF a b cs pages held trees rel most = R := ⟨_, rfl⟩
  have HRR := Lib.hid hR
  clear hR
  obtain ⟨N, hN⟩ : ∃ N, w.heap.size = N := ⟨_, rfl⟩
  have HN := Lib.hid hN
  rw [hN]
  clear hN
  obtain ⟨nc, hnc⟩ : ∃ k, cs.length = k := ⟨_, rfl⟩
  obtain ⟨nr, hnr⟩ : ∃ k, rel.length = k := ⟨_, rfl⟩
  obtain ⟨nh, hnh⟩ : ∃ k, held.length = k := ⟨_, rfl⟩
  have HNC := Lib.hid hnc
  rw [hnc] at HC ⊢
  rw [hnh] at HH ⊢
  rw [hnr] at HR ⊢
  clear hnc hnr hnh
  go_enter Try.func9, Try.ntmps9
  go_upto_region 0 with fail
  with_reducible refine wp_region_list ?_
  refine wpList_boxB rfl _ _ rfl N HN.out #[.int .i64 a, .int .i64 b] rfl ?_
  intro w1 e1 b1 z1
  (try simp only [Act.put, List.setIfInBounds_toArray, List.set_cons_zero, List.set_cons_succ])
  obtain ⟨M, hM⟩ : ∃ M, w1.heap.size = M := ⟨_, rfl⟩
  have HM : Hid (M = N + 1) := by show _ = _; rw [← hM]; omega
  refine wpList_boxB rfl _ _ rfl M hM #[.slice cad nc ccap, .int .u32 (pages : Int), .slice had nh hcap, .int .i64 trees, .slice rad nr rcap, .int .u32 (most : Int)] rfl ?_
  intro w2 e2 b2 z2
  (try simp only [Act.put, List.setIfInBounds_toArray, List.set_cons_zero, List.set_cons_succ])
  with_reducible refine wpList_plain rfl ?_
  intro K hK
  go_simp
  first | with_reducible refine hK _ _ ?_ | refine hK _ _ ?_
  clear hK K
  (try simp only [Act.put, List.setIfInBounds_toArray, List.set_cons_zero, List.set_cons_succ])
  have B2 : Hid (Below N w w2) := b1.trans (b2.mono (by have := HM.out; omega))
  have e3 := heap_below e1 b2 (by have := HM.out; omega)
  have Z2 : Hid (M < w2.heap.size) := heap_lt e2
  clear e1 b1 b2 z1 z2 hM
  go_upto_region 1 with fail
  with_reducible refine wp_region_list ?_
  with_reducible refine wpList_plain rfl ?_
  intro K hK
  go_simp
  refine (awake_any w2).mono ?_; rintro e w3 ⟨rfl, b3⟩
  first | with_reducible refine hK _ _ ?_ | refine hK _ _ ?_
  clear hK K
  (try simp only [Act.put, List.setIfInBounds_toArray, List.set_cons_zero, List.set_cons_succ])
  with_reducible refine wpList_plain rfl ?_
  intro K hK
  go_simp
  first | with_reducible refine hK _ _ ?_ | refine hK _ _ ?_
  clear hK K
  (try simp only [Act.put, List.setIfInBounds_toArray, List.set_cons_zero, List.set_cons_succ])
  have B3 : Hid (Below N w w3) := B2.out.trans (b3.mono (by have := HM.out; have := Z2.out; omega))
  have hz3 : M < w3.heap.size := by have := b3.size; have := Z2.out; omega
  have E2 := heap_below e2 b3 Z2.out
  have E3 := heap_below e3 b3 (by have := HM.out; have := Z2.out; omega)
  clear b3 e2 e3 B2 Z2
  have c0 := heap_cell E3 (o := 0)
  have c1 := heap_cell E3 (o := 1)
  have d0 := heap_cell E2 (o := 0)
  have d1 := heap_cell E2 (o := 1)
  have d2 := heap_cell E2 (o := 2)
  have d3 := heap_cell E2 (o := 3)
  have d4 := heap_cell E2 (o := 4)
  have d5 := heap_cell E2 (o := 5)
  have HP : Hid (Calls Try.prog 31 #[.agg #[.int .i64 a, .int .i64 b], .agg #[.slice cad nc ccap, .int .u32 (pages : Int), .slice had nh hcap, .int .i64 trees, .slice rad nr rcap, .int .u32 (most : Int)]] w3 fun e w' => ∃ ad n1 c1 ad2 n2 c2 op pg k, e = .returned (.tuple #[.agg #[.slice ad n1 c1, .slice ad2 n2 c2, .int .i64 ((op : Nat) : Int), .int .u32 ((pg : Nat) : Int)], .int .i64 k]) ∧ ToldP w' R ad n1 c1 ad2 n2 c2 op pg k ∧ Below w3.heap.size w3 w') := by
    have h := Plan_told a b pages most trees _ _ _ cs held rel w3 (HC.out.below (by rw [HN.out]; exact B3.out)) (HH.out.below (by rw [HN.out]; exact B3.out)) (HR.out.below (by rw [HN.out]; exact B3.out)) hp hm ht2
    rw [HRR.out] at h
    exact h
  have F2H := Lib.hid E2
  have F3H := Lib.hid E3
  clear E2 E3
  go_upto_region 3 with fail
  with_reducible refine wp_region_list ?_
  with_reducible refine wpList_plain rfl ?_
  intro K hK
  go_simp
  first | with_reducible refine hK _ _ ?_ | refine hK _ _ ?_
  clear hK K
  (try simp only [Act.put, List.setIfInBounds_toArray, List.set_cons_zero, List.set_cons_succ])
  with_reducible refine wpList_plain rfl ?_
  intro K hK
  go_simp
  first | with_reducible refine hK _ _ ?_ | refine hK _ _ ?_
  clear hK K
  (try simp only [Act.put, List.setIfInBounds_toArray, List.set_cons_zero, List.set_cons_succ])
  with_reducible refine wpList_plain rfl ?_
  intro K hK
  go_simp
  refine HP.out.mono ?_; rintro e w5 ⟨ad, n1, k1, ad2, n2, k2, op, pg, k, rfl, told, b5⟩
  first | with_reducible refine hK _ _ ?_ | refine hK _ _ ?_
  clear hK K
  (try simp only [Act.put, List.setIfInBounds_toArray, List.set_cons_zero, List.set_cons_succ])
  have TD := Lib.hid told
  have B5 : Hid (Below N w w5) := B3.out.trans (b5.mono (by have := HM.out; omega))
  have F2 := heap_below F2H.out b5 hz3
  have F3 := heap_below F3H.out b5 (by have := HM.out; omega)
  have G2 := Lib.hid F2
  have G3 := Lib.hid F3
  have hz5 : M < w5.heap.size := heap_lt F2
  clear told b5 F2 F3 F2H F3H HP c0 c1 d0 d1 d2 d3 d4 d5 B3 hz3
  with_reducible refine wpList_plain rfl ?_
  intro K hK
  go_simp
  first | with_reducible refine hK _ _ ?_ | refine hK _ _ ?_
  clear hK K
  (try simp only [Act.put, List.setIfInBounds_toArray, List.set_cons_zero, List.set_cons_succ])
  with_reducible refine wpList_plain rfl ?_
  intro K hK
  go_simp
  first | with_reducible refine hK _ _ ?_ | refine hK _ _ ?_
  clear hK K
  (try simp only [Act.put, List.setIfInBounds_toArray, List.set_cons_zero, List.set_cons_succ])
  with_reducible refine wpList_plain rfl ?_
  intro K hK
  go_simp
  first | with_reducible refine hK _ _ ?_ | refine hK _ _ ?_
  clear hK K
  (try simp only [Act.put, List.setIfInBounds_toArray, List.set_cons_zero, List.set_cons_succ])
  obtain ⟨T, hT⟩ : ∃ k, w5.heap.size = k := ⟨_, rfl⟩
  refine wpList_allocB rfl 48 rfl T hT (.agg #[.slice none 0 0, .slice none 0 0, .int .i64 0, .int .u32 0]) (fun _ => by kernel_rfl) ?_
  intro w6 e6 b6 z6
  (try simp only [Act.put, List.setIfInBounds_toArray, List.set_cons_zero, List.set_cons_succ])
  refine wpList_storeB rfl 48 _ _ rfl T #[.slice ad n1 k1, .slice ad2 n2 k2, .int .i64 (op : Int), .int .u32 (pg : Int)] rfl rfl 48 _ e6 (by kernel_rfl) rfl (by simp [Value.oneCell']) ?_
  intro w7 e7 m7
  (try simp only [Act.put, List.setIfInBounds_toArray, List.set_cons_zero, List.set_cons_succ])
  with_reducible refine wpList_plain rfl ?_
  intro K hK
  go_simp
  first | with_reducible refine hK _ _ ?_ | refine hK _ _ ?_
  clear hK K
  (try simp only [Act.put, List.setIfInBounds_toArray, List.set_cons_zero, List.set_cons_succ])
  have b7 : Below w5.heap.size w5 w7 := by rw [hT]; exact b6.trans (m7.below (n := T) (fun k hk e => by omega) (by omega))
  have B7 : Hid (Below N w w7) := B5.out.trans (b7.mono (by have := HM.out; omega))
  have F2 := heap_below G2.out b7 hz5
  have F3 := heap_below G3.out b7 (by have := HM.out; omega)
  have G2 := Lib.hid F2
  have G3 := Lib.hid F3
  have hz7 : M < w7.heap.size := heap_lt F2
  have TD := Lib.hid (TD.out.below b7)
  have E7 := Lib.hid e7
  have hzT : T < w7.heap.size := heap_lt e7
  clear F2 F3 e6 e7 b6 z6 m7 b7 B5 hT
  have d1 := heap_cell G2.out (o := 1)
  have t3 := heap_cell E7.out (o := 3)
  by_cases hk : k = 0
  case neg =>
    have hk2 : (k != 0) = true := by simpa using hk
    clear hk
    go_wp2_with fail
    go_ret
    exact ⟨rfl, B7.out⟩
  case pos =>
    subst hk
    by_cases hpg : pg = pages
    case pos =>
      have h3 : ((pg : Int) == (pages : Int)) = true := by simp; omega
      have h4 : decide (pg = pages) = true := decide_eq_true hpg
      clear hpg
      go_wp2_with fail
      go_ret
      exact ⟨rfl, B7.out⟩
    case neg =>
      have h3 : ((pg : Int) == (pages : Int)) = false := by simp; omega
      have h4 : decide (pg = pages) = false := decide_eq_false hpg
      have HF : Hid (∃ p, R = .inr p ∧ n1 = p.trees.length ∧ n2 = p.lists.length ∧ op = p.opened ∧ URow w7 (.slice ad n1 k1) p.trees ∧ CRow w7 (.slice ad2 n2 k2) p.lists ∧ (∀ c ∈ p.lists, pages ≤ c.1 → op = nc) ∧ (∀ c ∈ cs, ∀ z ∈ c.2, held.contains z = true ∨ (p.trees ++ p.lists.map (·.1)).contains z = true) ∧ p.trees.length ≤ 200000 ∧ p.lists.length ≤ 200000 ∧ All4 (p.trees ++ p.lists.map (·.1))) := by
        have ht := TD.out
        have hr := HRR.out
        have hnc := HNC.out
        cases R with
        | inl j => obtain ⟨h1, h2, _⟩ := ht; exact absurd h1.symm h2
        | inr p =>
          obtain ⟨_, g1, g2, g3, g4, g5, g6⟩ := ht
          obtain ⟨q1, q2⟩ := wanted_plain hr (by rw [← g4]; exact hpg)
          obtain ⟨q3, q4, q5⟩ := took_small hr
          exact ⟨p, rfl, g1, g2, g3, g5, g6, fun c hc hp => by rw [g3, q1 c hc hp, hnc], q2, q3, q4, q5⟩
      obtain ⟨p, hpR, hn1, hn2, hop, hrT, hrC, hW1, hW2, hW3, hW4, hW5⟩ := HF.out
      have RT := Lib.hid hrT
      have RC := Lib.hid hrC
      have HN2 := Lib.hid hn2
      have W1 := Lib.hid hW1
      have W2 := Lib.hid hW2
      have W5 := Lib.hid hW5
      have HZ2 := Lib.hid hW4
      have HK := Lib.hid (took_any ad n1 k1 ad2 n2 k2 op pg p.trees p.lists w7 RT RC hW3 hW4 HN2)
      clear TD HRR HF hpR hn1 hn2 hop hrT hrC hW1 hW2 hW3 hW4 hW5 hpg
      go_upto_region 6 with fail
      clear h3 h4 t3 d1
      have t0 := heap_cell E7.out (o := 0)
      have t1 := heap_cell E7.out (o := 1)
      have t2 := heap_cell E7.out (o := 2)
      have t3 := heap_cell E7.out (o := 3)
      with_reducible refine wp_region_list ?_
      with_reducible refine wpList_plain rfl ?_
      intro K hK
      go_simp
      first | with_reducible refine hK _ _ ?_ | refine hK _ _ ?_
      clear hK K
      (try simp only [Act.put, List.setIfInBounds_toArray, List.set_cons_zero, List.set_cons_succ])
      with_reducible refine wpList_plain rfl ?_
      intro K hK
      go_simp
      refine HK.out.mono ?_; rintro e w8 ⟨v8, rfl, o8, b8⟩
      first | with_reducible refine hK _ _ ?_ | refine hK _ _ ?_
      clear hK K
      (try simp only [Act.put, List.setIfInBounds_toArray, List.set_cons_zero, List.set_cons_succ])
      have hr8 := o8.row W5.out
      obtain ⟨vad, vc, hv8, hx9, hx8⟩ := hr8.form
      obtain ⟨vn, hvn⟩ : ∃ k, (p.trees ++ p.lists.map (·.1)).length = k := ⟨_, rfl⟩
      rw [hvn] at hv8
      subst hv8
      have HV := Lib.hid hr8
      clear hvn hr8 hx8 hx9 o8
      with_reducible refine wpList_plain rfl ?_
      intro K hK
      go_simp
      first | with_reducible refine hK _ _ ?_ | refine hK _ _ ?_
      clear hK K
      (try simp only [Act.put, List.setIfInBounds_toArray, List.set_cons_zero, List.set_cons_succ])
      have B8 : Hid (Below N w w8) := B7.out.trans (b8.mono (by have := HM.out; omega))
      have E8 := Lib.hid (heap_below E7.out b8 hzT)
      have J2 := Lib.hid (heap_below G2.out b8 hz7)
      have RC8 := Lib.hid (RC.out.below b8)
      have hzT8 : T < w8.heap.size := heap_lt E8.out
      have hzM8 : M < w8.heap.size := heap_lt J2.out
      clear t0 t1 t2 t3 B7 E7 G2 G3 RC RT hz7 hzT b8 HK
      go_upto_region 8 with fail
      go_loopw [8] (fun iv wr => ∃ (k : Nat), k ≤ n2 ∧ Hid (Below w8.heap.size w8 wr) ∧ iv = .int .i64 (k : Int)) (fun iv _ => n2 - (intOf iv).toNat)
      case atStart => exact ⟨0, Nat.zero_le _, Below.refl _ _, rfl⟩
      case round =>
        obtain ⟨k, hk, HB, rfl⟩ := hrel
        have Er := heap_below E8.out HB.out hzT8
        have Jr := heap_below J2.out HB.out hzM8
        have t1 := heap_cell Er (o := 1)
        by_cases hlt : k < n2
        case pos =>
          have ik : (k : Int) < (n2 : Int) := by omega
          have hkx : k < p.lists.length := by have := HN2.out; omega
          obtain ⟨b1, o1, nad, nc2, e1, r1, u1, pp1⟩ := (RC8.out.below HB.out).at hkx
          subst e1
          have hw1 := W1.out _ (List.getElem_mem hkx)
          obtain ⟨⟨x, xl⟩, hx⟩ : ∃ x, p.lists[k] = x := ⟨_, rfl⟩
          rw [hx] at r1 pp1 hw1
          simp only at r1 pp1 hw1
          have f1 := r1 0 _ rfl
          unfold uN at f1
          rw [Nat.add_zero] at f1
          obtain ⟨k9, hk9⟩ : ∃ k9 : Nat, k9 = k + 1 := ⟨_, rfl⟩
          have ew1 : (k : Int) + 1 = (k9 : Int) := by omega
          have ew2 : IntKind.i64.wrap (k9 : Int) = (k9 : Int) := IntWalk.i64_in _ (by have := HZ2.out; omega)
          have hk3 : k9 ≤ n2 := by omega
          have hk4 : n2 - k9 < n2 - k := by omega
          clear hk9 hx r1 u1 pp1 hkx hlt
          have d1 := heap_cell Jr (o := 1)
          have d0 := heap_cell Jr (o := 0)
          have t2 := heap_cell Er (o := 2)
          by_cases hge : pages ≤ x
          case pos =>
            have hon := hw1 hge
            subst hon
            have g1 : decide (pages ≤ x) = true := decide_eq_true hge
            have g2 : ((op : Int) != (op : Int)) = false := by simp
            clear hw1 hge Er Jr
            go_upto_region 10 with fail
            go_quiet (fail)
            have HB2 : Hid (Below w8.heap.size w8 (wr.drewN nq)) := HB.out.trans ((below_dN wr nq).mono HB.out.size)
            clear t1 t2 d0 d1 f1 g1 g2
            go_wp2_with fail
            exact ⟨⟨k9, hk3, HB2, rfl⟩, by simp only [intOf, Int.toNat_natCast]; exact hk4⟩
          case neg =>
            have g1 : decide (pages ≤ x) = false := decide_eq_false hge
            clear hw1 hge Er Jr
            go_upto_region 10 with fail
            go_quiet (fail)
            have HB2 : Hid (Below w8.heap.size w8 (wr.drewN nq)) := HB.out.trans ((below_dN wr nq).mono HB.out.size)
            clear t1 t2 d0 d1 f1 g1
            go_wp2_with fail
            exact ⟨⟨k9, hk3, HB2, rfl⟩, by simp only [intOf, Int.toNat_natCast]; exact hk4⟩
        case neg =>
          have ik : ¬ (k : Int) < (n2 : Int) := by omega
          clear hlt
          go_upto_region 12 with fail
          go_upto_region 13 with fail
          have HL9 := Lib.hid HB.out
          clear t1 Er Jr ik hk HB
          go_loopw [9] (fun iv wr2 => ∃ (j : Nat), j ≤ nc ∧ Hid (Below w8.heap.size w8 wr2) ∧ iv = .int .i64 (j : Int)) (fun iv _ => nc - (intOf iv).toNat)
          case atStart => exact ⟨0, Nat.zero_le _, HL9, rfl⟩
          case round =>
            obtain ⟨j, hj, HB, rfl⟩ := hrel
            have Jr := heap_below J2.out HB.out hzM8
            have d0 := heap_cell Jr (o := 0)
            by_cases hlt : j < nc
            case neg =>
              have ij : ¬ (j : Int) < (nc : Int) := by omega
              have HBN : Hid (Below N w _) := B8.out.trans (HB.out.mono (by have h1 := B8.out.size; rw [HN.out] at h1; exact h1))
              clear hlt
              go_wp2_with fail
              go_ret
              exact ⟨rfl, HBN.out⟩
            case pos =>
              have ij : (j : Int) < (nc : Int) := by omega
              have hjx : j < cs.length := by have := HNC.out; omega
              have hC8 : CRow w8 (.slice cad nc ccap) cs := HC.out.below (by rw [HN.out]; exact B8.out)
              obtain ⟨b2, o2, nad, nc2, e2, r2, u2, pp2⟩ := hC8.at hjx
              subst e2
              have hw2 := W2.out _ (List.getElem_mem hjx)
              obtain ⟨⟨pg2, xs⟩, hx⟩ : ∃ x, cs[j] = x := ⟨_, rfl⟩
              rw [hx] at r2 u2 hw2
              simp only at r2 u2 hw2
              have HU := Lib.hid u2
              have hu3 := u2.form
              obtain ⟨uad, uc, huv, hul, hux⟩ := hu3
              have huv2 := Value.slice.inj huv
              have HX := Lib.hid hux
              have W3 := Lib.hid hw2
              have R2 := Lib.hid r2
              obtain ⟨xn, hxn⟩ : ∃ n, xs.length = n := ⟨_, rfl⟩
              have HXN := Lib.hid hxn
              rw [hxn] at R2 HU hul
              have hb2 : b2 < w8.heap.size := by
                have := (Below.refl w8.heap.size w8)
                exact World.block_lt_of_cell? w8 ⟨b2, o2 + j * 2 + 1, none⟩ (R2.out 1 _ rfl)
              clear hx r2 u2 pp2 hC8 huv huv2 hux hw2 hxn hjx hlt
              obtain ⟨j9, hj9⟩ : ∃ j9 : Nat, j9 = j + 1 := ⟨_, rfl⟩
              have ew1 : (j : Int) + 1 = (j9 : Int) := by omega
              have ew2 : IntKind.i64.wrap (j9 : Int) = (j9 : Int) := IntWalk.i64_in _ (by have h1 := HC.out.form; obtain ⟨_, _, h2, h3⟩ := h1; have := HNC.out; omega)
              have hj3 : j9 ≤ nc := by omega
              have hj4 : nc - j9 < nc - j := by omega
              clear hj9
              go_upto_region 16 with fail
              have HL10 := Lib.hid HB.out
              clear d0 Jr HB
              go_loopw [10] (fun iv wr3 => ∃ (i : Nat), i ≤ xn ∧ Hid (Below w8.heap.size w8 wr3) ∧ iv = .int .i64 (i : Int)) (fun iv _ => xn - (intOf iv).toNat)
              case atStart => exact ⟨0, Nat.zero_le _, HL10, rfl⟩
              case round =>
                obtain ⟨i, hi, HB, rfl⟩ := hrel
                have Jr := heap_below J2.out HB.out hzM8
                have d0 := heap_cell Jr (o := 0)
                have r3 := range_block R2.out (HB.out.block b2 hb2)
                have f1 := r3 1 _ rfl
                clear r3
                by_cases hlt : i < xn
                case neg =>
                  have ii : ¬ (i : Int) < (xn : Int) := by omega
                  clear hlt
                  go_wp2_with fail
                  exact ⟨⟨j9, hj3, HB, rfl⟩, by simp only [intOf, Int.toNat_natCast]; exact hj4⟩
                case pos =>
                  have ii : (i : Int) < (xn : Int) := by omega
                  have hix : i < xs.length := by have := HXN.out; omega
                  obtain ⟨a1, c1, e1, _, g1⟩ := (HU.out.below HB.out).form
                  obtain ⟨b3, o3, e3, hc3⟩ := g1 (by omega)
                  have e4 := (Value.slice.inj e1).1
                  rw [e3] at e4
                  subst e4
                  have h1 := hc3 i hix
                  have hor := W3.out _ (List.getElem_mem hix)
                  have hx4 : xs[i] < 4294967296 := HU.out.1 _ (List.getElem_mem hix)
                  obtain ⟨x, hx⟩ : ∃ x, xs[i] = x := ⟨_, rfl⟩
                  rw [hx] at h1 hor hx4
                  unfold uN at h1
                  obtain ⟨i9, hi9⟩ : ∃ i9 : Nat, i9 = i + 1 := ⟨_, rfl⟩
                  have iw1 : (i : Int) + 1 = (i9 : Int) := by omega
                  have iw2 : IntKind.i64.wrap (i9 : Int) = (i9 : Int) := IntWalk.i64_in _ (by omega)
                  have hi3 : i9 ≤ xn := by omega
                  have hi4 : xn - i9 < xn - i := by omega
                  have HOR := Lib.hid hor
                  clear hi9 hx hc3 e1 e3 g1 hix hlt hor
                  have d2 := heap_cell Jr (o := 2)
                  have HC1 := has_any (.slice had nh hcap) held x wr (HH.out.below (by rw [HN.out]; exact B8.out.trans (HB.out.mono (by have h1 := B8.out.size; rw [HN.out] at h1; exact h1))))
                  by_cases hh : held.contains x = true
                  case pos =>
                    rw [hh] at HC1
                    have HC2 := Lib.hid HC1
                    clear HC1 hh Jr
                    go_upto_region 19 with fail
                    with_reducible refine wp_region_list ?_
                    with_reducible refine wpList_plain rfl ?_
                    intro K hK
                    go_simp
                    first | with_reducible refine hK _ _ ?_ | refine hK _ _ ?_
                    clear hK K
                    (try simp only [Act.put, List.setIfInBounds_toArray, List.set_cons_zero, List.set_cons_succ])
                    with_reducible refine wpList_plain rfl ?_
                    intro K hK
                    go_simp
                    first | with_reducible refine hK _ _ ?_ | refine hK _ _ ?_
                    clear hK K
                    (try simp only [Act.put, List.setIfInBounds_toArray, List.set_cons_zero, List.set_cons_succ])
                    with_reducible refine wpList_plain rfl ?_
                    intro K hK
                    go_simp
                    first | with_reducible refine hK _ _ ?_ | refine hK _ _ ?_
                    clear hK K
                    (try simp only [Act.put, List.setIfInBounds_toArray, List.set_cons_zero, List.set_cons_succ])
                    with_reducible refine wpList_plain rfl ?_
                    intro K hK
                    go_simp
                    refine HC2.out.mono ?_; rintro e w9 ⟨rfl, b9⟩
                    first | with_reducible refine hK _ _ ?_ | refine hK _ _ ?_
                    clear hK K
                    (try simp only [Act.put, List.setIfInBounds_toArray, List.set_cons_zero, List.set_cons_succ])
                    with_reducible refine wpList_plain rfl ?_
                    intro K hK
                    go_simp
                    first | with_reducible refine hK _ _ ?_ | refine hK _ _ ?_
                    clear hK K
                    (try simp only [Act.put, List.setIfInBounds_toArray, List.set_cons_zero, List.set_cons_succ])
                    with_reducible refine wpList_plain rfl ?_
                    intro K hK
                    go_simp
                    first | with_reducible refine hK _ _ ?_ | refine hK _ _ ?_
                    clear hK K
                    (try simp only [Act.put, List.setIfInBounds_toArray, List.set_cons_zero, List.set_cons_succ])
                    with_reducible refine wpList_step ?_
                    intro K hK
                    rw [if_neg (Bool.eq_false_iff.1 (by rfl))]
                    first | with_reducible refine hK _ _ ?_ | refine hK _ _ ?_
                    clear hK K
                    (try simp only [Act.put, List.setIfInBounds_toArray, List.set_cons_zero, List.set_cons_succ])
                    with_reducible refine wpList_step ?_
                    intro K hK
                    rw [if_neg (Bool.eq_false_iff.1 (by rfl))]
                    first | with_reducible refine hK _ _ ?_ | refine hK _ _ ?_
                    clear hK K
                    (try simp only [Act.put, List.setIfInBounds_toArray, List.set_cons_zero, List.set_cons_succ])
                    with_reducible refine wpList_step ?_
                    intro K hK
                    rw [if_neg (Bool.eq_false_iff.1 (by rfl))]
                    first | with_reducible refine hK _ _ ?_ | refine hK _ _ ?_
                    clear hK K
                    (try simp only [Act.put, List.setIfInBounds_toArray, List.set_cons_zero, List.set_cons_succ])
                    with_reducible refine wpList_step ?_
                    intro K hK
                    rw [if_neg (Bool.eq_false_iff.1 (by rfl))]
                    first | with_reducible refine hK _ _ ?_ | refine hK _ _ ?_
                    clear hK K
                    (try simp only [Act.put, List.setIfInBounds_toArray, List.set_cons_zero, List.set_cons_succ])
                    with_reducible refine wpList_plain rfl ?_
                    intro K hK
                    go_simp
                    first | with_reducible refine hK _ _ ?_ | refine hK _ _ ?_
                    clear hK K
                    (try simp only [Act.put, List.setIfInBounds_toArray, List.set_cons_zero, List.set_cons_succ])
                    have HB2 : Hid (Below w8.heap.size w8 w9) := HB.out.trans (b9.mono HB.out.size)
                    clear b9 d0 d2 f1 h1 HC2
                    go_wp2_with fail
                    exact ⟨⟨i9, hi3, HB2, rfl⟩, by simp only [intOf, Int.toNat_natCast]; exact hi4⟩
                  case neg =>
                    have hh2 : held.contains x = false := by simpa using hh
                    have hl2 : (p.trees ++ p.lists.map (·.1)).contains x = true := HOR.out.resolve_left hh
                    rw [hh2] at HC1
                    have HC2 := Lib.hid HC1
                    have HQ : Hid (∀ W, Below w8.heap.size w8 W → Calls Try.prog 37 #[.slice vad vn vc, .int .u32 (x : Int)] W (SamePost true W)) := fun W hW => by
                      have h := has_any (.slice vad vn vc) (p.trees ++ p.lists.map (·.1)) x W (HV.out.below hW)
                      rw [hl2] at h
                      exact h
                    clear HC1 hh hh2 hl2 Jr
                    go_upto_region 19 with fail
                    with_reducible refine wp_region_list ?_
                    with_reducible refine wpList_plain rfl ?_
                    intro K hK
                    go_simp
                    first | with_reducible refine hK _ _ ?_ | refine hK _ _ ?_
                    clear hK K
                    (try simp only [Act.put, List.setIfInBounds_toArray, List.set_cons_zero, List.set_cons_succ])
                    with_reducible refine wpList_plain rfl ?_
                    intro K hK
                    go_simp
                    first | with_reducible refine hK _ _ ?_ | refine hK _ _ ?_
                    clear hK K
                    (try simp only [Act.put, List.setIfInBounds_toArray, List.set_cons_zero, List.set_cons_succ])
                    with_reducible refine wpList_plain rfl ?_
                    intro K hK
                    go_simp
                    first | with_reducible refine hK _ _ ?_ | refine hK _ _ ?_
                    clear hK K
                    (try simp only [Act.put, List.setIfInBounds_toArray, List.set_cons_zero, List.set_cons_succ])
                    with_reducible refine wpList_plain rfl ?_
                    intro K hK
                    go_simp
                    refine HC2.out.mono ?_; rintro e w9 ⟨rfl, b9⟩
                    first | with_reducible refine hK _ _ ?_ | refine hK _ _ ?_
                    clear hK K
                    (try simp only [Act.put, List.setIfInBounds_toArray, List.set_cons_zero, List.set_cons_succ])
                    have HB2 : Hid (Below w8.heap.size w8 w9) := HB.out.trans (b9.mono HB.out.size)
                    with_reducible refine wpList_plain rfl ?_
                    intro K hK
                    go_simp
                    first | with_reducible refine hK _ _ ?_ | refine hK _ _ ?_
                    clear hK K
                    (try simp only [Act.put, List.setIfInBounds_toArray, List.set_cons_zero, List.set_cons_succ])
                    with_reducible refine wpList_plain rfl ?_
                    intro K hK
                    go_simp
                    first | with_reducible refine hK _ _ ?_ | refine hK _ _ ?_
                    clear hK K
                    (try simp only [Act.put, List.setIfInBounds_toArray, List.set_cons_zero, List.set_cons_succ])
                    with_reducible refine wpList_step ?_
                    intro K hK
                    rw [if_pos (by rfl)]
                    go_simp
                    first | with_reducible refine hK _ _ ?_ | refine hK _ _ ?_
                    clear hK K
                    (try simp only [Act.put, List.setIfInBounds_toArray, List.set_cons_zero, List.set_cons_succ])
                    with_reducible refine wpList_step ?_
                    intro K hK
                    rw [if_pos (by rfl)]
                    go_simp
                    first | with_reducible refine hK _ _ ?_ | refine hK _ _ ?_
                    clear hK K
                    (try simp only [Act.put, List.setIfInBounds_toArray, List.set_cons_zero, List.set_cons_succ])
                    with_reducible refine wpList_step ?_
                    intro K hK
                    rw [if_pos (by rfl)]
                    go_simp
                    refine (HQ.out w9 HB2.out).mono ?_; rintro e w10 ⟨rfl, b10⟩
                    first | with_reducible refine hK _ _ ?_ | refine hK _ _ ?_
                    clear hK K
                    (try simp only [Act.put, List.setIfInBounds_toArray, List.set_cons_zero, List.set_cons_succ])
                    with_reducible refine wpList_step ?_
                    intro K hK
                    rw [if_pos (by rfl)]
                    go_simp
                    first | with_reducible refine hK _ _ ?_ | refine hK _ _ ?_
                    clear hK K
                    (try simp only [Act.put, List.setIfInBounds_toArray, List.set_cons_zero, List.set_cons_succ])
                    with_reducible refine wpList_plain rfl ?_
                    intro K hK
                    go_simp
                    first | with_reducible refine hK _ _ ?_ | refine hK _ _ ?_
                    clear hK K
                    (try simp only [Act.put, List.setIfInBounds_toArray, List.set_cons_zero, List.set_cons_succ])
                    have HB3 : Hid (Below w8.heap.size w8 w10) := HB2.out.trans (b10.mono HB2.out.size)
                    clear b9 b10 d0 d2 f1 h1 HC2 HQ HB2
                    go_wp2_with fail
                    exact ⟨⟨i9, hi3, HB3, rfl⟩, by simp only [intOf, Int.toNat_natCast]; exact hi4⟩
end Go.Proofs.Ytkngmnfgdlnddaa
