/-
  Plan, as the laws ask it; the walk of FreeFew.
-/
import Derived.Test.YtkngmnfgdlnddaaAwkB
import Derived.Test.YtkngmnfgdlnddaaFrV
import Derived.Test.YtkngmnfgdlnddaaPlnP
namespace Go.Proofs.Ytkngmnfgdlnddaa
open Go.RowKit Go.Lib Hw Go.Maps
set_option linter.unusedSimpArgs false
set_option linter.unusedVariables false

/-- an answer of Plan's, laid out -/
def ToldP (w' : World) (r : Int ⊕ PlanV) (ad : Option Addr) (n1 c1 : Nat) (ad2 : Option Addr) (n2 c2 op pg : Nat) (k : Int) : Prop :=
  match r with
  | .inl j => k = j ∧ j ≠ 0 ∧ n1 = 0 ∧ n2 = 0 ∧ op = 0 ∧ pg = 0
  | .inr p => k = 0 ∧ n1 = p.trees.length ∧ n2 = p.lists.length ∧ op = p.opened ∧ pg = p.pages ∧ URow w' (.slice ad n1 c1) p.trees ∧ CRow w' (.slice ad2 n2 c2) p.lists
theorem plan_small {a b : Int} {chain : List (Nat × List Nat)} {pages most : Nat} {held rel : List Nat} {trees : Int} {p : PlanV} (h : planF a b chain pages held trees rel most = .inr p) :
    (∀ c ∈ p.lists, c.1 < 65536 ∧ ∀ z ∈ c.2, z < 65536) ∧ (∀ x ∈ p.trees, x < p.pages) ∧ p.pages ≤ 65536 ∧ pages ≤ p.pages ∧ p.opened ≤ chain.length := by
  obtain ⟨s, t, hm⟩ := planF_inr h
  have f := hm.facts
  have hlo := f.lw.lo
  have hhi := f.lw.hi
  have hm6 := f.m6
  have hpm := f.pm
  have hsl := f.tok.lo
  rw [hm.eq]
  refine ⟨fun c hc => ?_, fun x hx => ?_, by show t.pages ≤ _; omega, by show _ ≤ t.pages; omega, f.lw.op⟩
  · obtain ⟨h1, h2⟩ := dealL_mem _ _ _ c hc
    refine ⟨by have := (f.lw.ls _ h1).1; omega, fun z hz => ?_⟩
    have := (setL_mem.1 (h2 z hz)).1
    omega
  · have := f.tok.inv.1.2 x hx
    show x < t.pages
    omega
theorem Plan_told (a b : Int) (pages most : Nat) (trees : Int) (chv hv rv : Value) (chain : List (Nat × List Nat)) (held rel : List Nat) (w : World) (hch : CRow w chv chain) (hhe : URow w hv held) (hre : URow w rv rel) (hp : pages < 4294967296) (hm : most < 4294967296) (htr : trees ≤ 9223372036854775807) :
    Calls Try.prog 31 #[.agg #[.int .i64 a, .int .i64 b], .agg #[chv, .int .u32 (pages : Int), hv, .int .i64 trees, rv, .int .u32 (most : Int)]] w fun e w' => ∃ ad n1 c1 ad2 n2 c2 op pg k, e = .returned (.tuple #[.agg #[.slice ad n1 c1, .slice ad2 n2 c2, .int .i64 ((op : Nat) : Int), .int .u32 ((pg : Nat) : Int)], .int .i64 k]) ∧ ToldP w' (planF a b chain pages held trees rel most) ad n1 c1 ad2 n2 c2 op pg k ∧ Below w.heap.size w w' := by
  have h := Plan_any a b pages most trees chv hv rv chain held rel w hch hhe hre hp hm htr
  refine h.mono ?_
  cases hr : planF a b chain pages held trees rel most with
  | inl j =>
    rintro e w' ⟨hb, he⟩
    have hj : j ≠ 0 := by rcases planF_inl hr with rfl | rfl | rfl <;> decide
    exact ⟨none, 0, 0, none, 0, 0, 0, 0, j, he, ⟨rfl, hj, rfl, rfl, rfl, rfl⟩, hb⟩
  | inr p =>
    rintro e w' ⟨hb, tv, lv, bs, N1, he, _, ho, _, hc, hd⟩
    obtain ⟨g1, g2, g3, g4, g5⟩ := plan_small hr
    have hr1 : URow w' tv p.trees := ho.row (by intro z hz; have := g2 z hz; omega)
    have hcr : CRow w' lv p.lists := hd.row hc (fun c hc => ⟨by have := (g1 c hc).1; omega, fun z hz => by have := (g1 c hc).2 z hz; omega⟩)
    obtain ⟨ad, cp, h1, _⟩ := hr1.form
    obtain ⟨ad2, cp2, h2, _⟩ := hcr.form
    subst h1 h2
    exact ⟨ad, _, cp, ad2, _, cp2, p.opened, p.pages, 0, he, ⟨rfl, rfl, rfl, rfl, rfl, hr1, hcr⟩, hb⟩
set_option maxRecDepth 5000 in
set_option maxHeartbeats 16000000 in
theorem FreeFew_walk (v nv : Value) (w : World) (hv : IsFrame v) (hn : IsNeed w nv) : Calls Try.prog 8 #[v, nv] w fun e w' => e = .returned (.bool true) ∧ Below w.heap.size w w' := by
  obtain ⟨a, b, rfl, ha, hb⟩ := hv
  obtain ⟨chv, hdv, rv, cs, held, rel, pages, most, trees, rfl, hch, hhe, hre, hp, hm, ht1, ht2⟩ := hn
  obtain ⟨cad, ccap, hcv, hx1⟩ := hch.1.form
  obtain ⟨had, hcap, hhv, hx2⟩ := hhe.1.form
  obtain ⟨rad, rcap, hrv, hx3⟩ := hre.1.form
  clear hx1 hx2 hx3
  subst hcv hhv hrv
  have HC := Lib.hid hch.1
  have HR := Lib.hid hre.1
  clear hch hhe ha hb ht1
  have HZ := Lib.hid hre.2
  clear hre
  obtain ⟨R, hR⟩ : ∃ R, planF a b cs pages [] trees rel most = R := ⟨_, rfl⟩
  have HRR := Lib.hid hR
  clear hR
  obtain ⟨N, hN⟩ : ∃ N, w.heap.size = N := ⟨_, rfl⟩
  have HN := Lib.hid hN
  rw [hN]
  clear hN
  obtain ⟨nc, hnc⟩ : ∃ k, cs.length = k := ⟨_, rfl⟩
  obtain ⟨nr, hnr⟩ : ∃ k, rel.length = k := ⟨_, rfl⟩
  have HNR := Lib.hid hnr
  rw [hnc] at HC ⊢
  rw [hnr] at HR HZ ⊢
  clear hnc hnr
  go_enter Try.func8, Try.ntmps8
  go_upto_region 0 with fail
  with_reducible refine wp_region_list ?_
  refine wpList_boxB rfl _ _ rfl N HN.out #[.int .i64 a, .int .i64 b] rfl ?_
  intro w1 e1 b1 z1
  (try simp only [Act.put, List.setIfInBounds_toArray, List.set_cons_zero, List.set_cons_succ])
  obtain ⟨M, hM⟩ : ∃ M, w1.heap.size = M := ⟨_, rfl⟩
  have HM : Hid (M = N + 1) := by show _ = _; rw [← hM]; omega
  refine wpList_boxB rfl _ _ rfl M hM #[.slice cad nc ccap, .int .u32 (pages : Int), .slice had held.length hcap, .int .i64 trees, .slice rad nr rcap, .int .u32 (most : Int)] rfl ?_
  intro w2 e2 b2 z2
  (try simp only [Act.put, List.setIfInBounds_toArray, List.set_cons_zero, List.set_cons_succ])
  with_reducible refine wpList_plain rfl ?_
  intro K hK
  go_simp
  first | with_reducible refine hK _ _ ?_ | refine hK _ _ ?_
  clear hK K
  (try simp only [Act.put, List.setIfInBounds_toArray, List.set_cons_zero, List.set_cons_succ])
  have B2 : Hid (Below N w w2) := b1.trans (b2.mono (by have := HM.out; omega))
  have e3 := heap_below e1 b2 (by have := HM.out; omega)
  have Z2 : Hid (M < w2.heap.size) := heap_lt e2
  clear e1 b1 b2 z1 z2 hM
  go_upto_region 1 with fail
  with_reducible refine wp_region_list ?_
  with_reducible refine wpList_plain rfl ?_
  intro K hK
  go_simp
  refine (awake_any w2).mono ?_; rintro e w3 ⟨rfl, b3⟩
  first | with_reducible refine hK _ _ ?_ | refine hK _ _ ?_
  clear hK K
  (try simp only [Act.put, List.setIfInBounds_toArray, List.set_cons_zero, List.set_cons_succ])
  with_reducible refine wpList_plain rfl ?_
  intro K hK
  go_simp
  first | with_reducible refine hK _ _ ?_ | refine hK _ _ ?_
  clear hK K
  (try simp only [Act.put, List.setIfInBounds_toArray, List.set_cons_zero, List.set_cons_succ])
  have B3 : Hid (Below N w w3) := B2.out.trans (b3.mono (by have := HM.out; have := Z2.out; omega))
  have hz3 : M < w3.heap.size := by have := b3.size; have := Z2.out; omega
  have E2 := heap_below e2 b3 Z2.out
  have E3 := heap_below e3 b3 (by have := HM.out; have := Z2.out; omega)
  have c2 := heap_cell E2 (o := 2)
  have f2 := heap_free E2 2
  clear b3 e2 e3 B2 Z2
  go_upto_region 3 with fail
  with_reducible refine wp_region_list ?_
  with_reducible refine wpList_plain rfl ?_
  intro K hK
  go_simp
  first | with_reducible refine hK _ _ ?_ | refine hK _ _ ?_
  clear hK K
  (try simp only [Act.put, List.setIfInBounds_toArray, List.set_cons_zero, List.set_cons_succ])
  with_reducible refine wpList_plain rfl ?_
  intro K hK
  go_simp
  first | with_reducible refine hK _ _ ?_ | refine hK _ _ ?_
  clear hK K
  (try simp only [Act.put, List.setIfInBounds_toArray, List.set_cons_zero, List.set_cons_succ])
  obtain ⟨w4, hw4⟩ : ∃ W, w3.setCell ⟨M, 2, none⟩ (.slice none 0 0) = W := ⟨_, rfl⟩
  have F2 : w4.heap[M]? = some (.cells #[.slice cad nc ccap, .int .u32 (pages : Int), .slice none 0 0, .int .i64 trees, .slice rad nr rcap, .int .u32 (most : Int)] 46 (0, 0)) := by rw [← hw4]; exact heap_set (o := 2) E2 (.slice none 0 0)
  have B4 : Hid (Below N w w4) := by rw [← hw4]; exact B3.out.setCell (p := ⟨M, 2, none⟩) (by have := HM.out; show N ≤ M; omega) _
  have F3 : w4.heap[N]? = some (.cells #[.int .i64 a, .int .i64 b] 23 (0, 0)) := by rw [← hw4]; exact heap_setOther E3 (by have := HM.out; show N ≠ M; omega) _
  have hz4 : M < w4.heap.size := heap_lt F2
  rw [hw4]
  clear hw4 c2 f2 E2 E3 B3 hz3
  have c0 := heap_cell F3 (o := 0)
  have c1 := heap_cell F3 (o := 1)
  have d0 := heap_cell F2 (o := 0)
  have d1 := heap_cell F2 (o := 1)
  have d2 := heap_cell F2 (o := 2)
  have d3 := heap_cell F2 (o := 3)
  have d4 := heap_cell F2 (o := 4)
  have d5 := heap_cell F2 (o := 5)
  have HP : Hid (Calls Try.prog 31 #[.agg #[.int .i64 a, .int .i64 b], .agg #[.slice cad nc ccap, .int .u32 (pages : Int), .slice none 0 0, .int .i64 trees, .slice rad nr rcap, .int .u32 (most : Int)]] w4 fun e w' => ∃ ad n1 c1 ad2 n2 c2 op pg k, e = .returned (.tuple #[.agg #[.slice ad n1 c1, .slice ad2 n2 c2, .int .i64 ((op : Nat) : Int), .int .u32 ((pg : Nat) : Int)], .int .i64 k]) ∧ ToldP w' R ad n1 c1 ad2 n2 c2 op pg k ∧ Below w4.heap.size w4 w') := by
    have h := Plan_told a b pages most trees _ (.slice none 0 0) _ cs [] rel w4 (HC.out.below (by rw [HN.out]; exact B4.out)) (URow.nil _) (HR.out.below (by rw [HN.out]; exact B4.out)) hp hm ht2
    rw [HRR.out] at h
    exact h
  have F2H := Lib.hid F2
  have F3H := Lib.hid F3
  clear F2 F3
  go_upto_region 4 with fail
  with_reducible refine wp_region_list ?_
  with_reducible refine wpList_plain rfl ?_
  intro K hK
  go_simp
  first | with_reducible refine hK _ _ ?_ | refine hK _ _ ?_
  clear hK K
  (try simp only [Act.put, List.setIfInBounds_toArray, List.set_cons_zero, List.set_cons_succ])
  with_reducible refine wpList_plain rfl ?_
  intro K hK
  go_simp
  first | with_reducible refine hK _ _ ?_ | refine hK _ _ ?_
  clear hK K
  (try simp only [Act.put, List.setIfInBounds_toArray, List.set_cons_zero, List.set_cons_succ])
  with_reducible refine wpList_plain rfl ?_
  intro K hK
  go_simp
  refine HP.out.mono ?_; rintro e w5 ⟨ad, n1, k1, ad2, n2, k2, op, pg, k, rfl, told, b5⟩
  first | with_reducible refine hK _ _ ?_ | refine hK _ _ ?_
  clear hK K
  (try simp only [Act.put, List.setIfInBounds_toArray, List.set_cons_zero, List.set_cons_succ])
  have TD := Lib.hid told
  have B5 : Hid (Below N w w5) := B4.out.trans (b5.mono (by have := HM.out; omega))
  have F2 := heap_below F2H.out b5 hz4
  have F3 := heap_below F3H.out b5 (by have := HM.out; omega)
  have G2 := Lib.hid F2
  have G3 := Lib.hid F3
  have hz5 : M < w5.heap.size := heap_lt F2
  clear told b5 F2 F3 F2H F3H HP c0 c1 d0 d1 d2 d3 d4 d5 B4 hz4
  with_reducible refine wpList_plain rfl ?_
  intro K hK
  go_simp
  first | with_reducible refine hK _ _ ?_ | refine hK _ _ ?_
  clear hK K
  (try simp only [Act.put, List.setIfInBounds_toArray, List.set_cons_zero, List.set_cons_succ])
  with_reducible refine wpList_plain rfl ?_
  intro K hK
  go_simp
  first | with_reducible refine hK _ _ ?_ | refine hK _ _ ?_
  clear hK K
  (try simp only [Act.put, List.setIfInBounds_toArray, List.set_cons_zero, List.set_cons_succ])
  with_reducible refine wpList_plain rfl ?_
  intro K hK
  go_simp
  first | with_reducible refine hK _ _ ?_ | refine hK _ _ ?_
  clear hK K
  (try simp only [Act.put, List.setIfInBounds_toArray, List.set_cons_zero, List.set_cons_succ])
  obtain ⟨T, hT⟩ : ∃ k, w5.heap.size = k := ⟨_, rfl⟩
  refine wpList_allocB rfl 48 rfl T hT (.agg #[.slice none 0 0, .slice none 0 0, .int .i64 0, .int .u32 0]) (fun _ => by kernel_rfl) ?_
  intro w6 e6 b6 z6
  (try simp only [Act.put, List.setIfInBounds_toArray, List.set_cons_zero, List.set_cons_succ])
  refine wpList_storeB rfl 48 _ _ rfl T #[.slice ad n1 k1, .slice ad2 n2 k2, .int .i64 (op : Int), .int .u32 (pg : Int)] rfl rfl 48 _ e6 (by kernel_rfl) rfl (by simp [Value.oneCell']) ?_
  intro w7 e7 m7
  (try simp only [Act.put, List.setIfInBounds_toArray, List.set_cons_zero, List.set_cons_succ])
  with_reducible refine wpList_plain rfl ?_
  intro K hK
  go_simp
  first | with_reducible refine hK _ _ ?_ | refine hK _ _ ?_
  clear hK K
  (try simp only [Act.put, List.setIfInBounds_toArray, List.set_cons_zero, List.set_cons_succ])
  have b7 : Below w5.heap.size w5 w7 := by rw [hT]; exact b6.trans (m7.below (n := T) (fun k hk e => by omega) (by omega))
  have B7 : Hid (Below N w w7) := B5.out.trans (b7.mono (by have := HM.out; omega))
  have F2 := heap_below G2.out b7 hz5
  have F3 := heap_below G3.out b7 (by have := HM.out; omega)
  have G2 := Lib.hid F2
  have G3 := Lib.hid F3
  have hz7 : M < w7.heap.size := heap_lt F2
  have E7 := Lib.hid e7
  have hzT : T < w7.heap.size := heap_lt e7
  clear F2 F3 e6 e7 b6 z6 m7 b7 B5 hT
  by_cases hk : k = 0
  case neg =>
    have hk2 : (k != 0) = true := by simpa using hk
    clear hk
    go_wp2_with fail
    go_ret
    exact ⟨rfl, B7.out⟩
  case pos =>
    subst hk
    obtain ⟨E, hE⟩ : ∃ E : Nat, (entI a b).toNat = E := ⟨_, rfl⟩
    have HE0 := Lib.hid hE
    have HF : Hid (1 ≤ E ∧ E ≤ 2038 ∧ entI a b = (E : Int) ∧ n2 ≤ 1 + (nr + op + E - 1) / E ∧ (nr + op = 0 → n2 = 0) ∧ nr ≤ 65536 ∧ op ≤ 65536 ∧ n2 ≤ 200000) := by
      have ht := TD.out
      have hr := HRR.out
      have hnr := HNR.out
      cases R with
      | inl j => obtain ⟨h1, h2, _⟩ := ht; exact absurd h1.symm h2
      | inr p =>
        obtain ⟨_, _, h2, h3, _⟩ := ht
        obtain ⟨s, t, hm⟩ := planF_inr hr
        obtain ⟨g1, g2, g3⟩ := ent_rng hm.facts.may
        have h := few_plain hr
        rw [hE] at h g1 g2 g3
        rw [hnr, ← h2, ← h3] at h
        exact ⟨g1, g2, g3.symm, h.1, h.2.1, h.2.2.1, h.2.2.2.1, h.2.2.2.2⟩
    clear hE TD HRR HNR HZ
    obtain ⟨r, hr⟩ : ∃ r, nr + op = r := ⟨_, rfl⟩
    have a1 : (nr : Int) + (op : Int) = (r : Int) := by omega
    have a2 : IntKind.i64.wrap (r : Int) = (r : Int) := IntWalk.i64_in _ (by have h1 := HF.out.2.2.2.2.2.1; have h2 := HF.out.2.2.2.2.2.2.1; omega)
    have HRO := Lib.hid hr
    clear hr
    have d4 := heap_cell G2.out (o := 4)
    have t2 := heap_cell E7.out (o := 2)
    go_upto_region 7 with fail
    with_reducible refine wp_region_list ?_
    with_reducible refine wpList_plain rfl ?_
    intro K hK
    go_simp
    first | with_reducible refine hK _ _ ?_ | refine hK _ _ ?_
    clear hK K
    (try simp only [Act.put, List.setIfInBounds_toArray, List.set_cons_zero, List.set_cons_succ])
    with_reducible refine wpList_plain rfl ?_
    intro K hK
    go_simp
    first | with_reducible refine hK _ _ ?_ | refine hK _ _ ?_
    clear hK K
    (try simp only [Act.put, List.setIfInBounds_toArray, List.set_cons_zero, List.set_cons_succ])
    with_reducible refine wpList_plain rfl ?_
    intro K hK
    go_simp
    first | with_reducible refine hK _ _ ?_ | refine hK _ _ ?_
    clear hK K
    (try simp only [Act.put, List.setIfInBounds_toArray, List.set_cons_zero, List.set_cons_succ])
    with_reducible refine wpList_plain rfl ?_
    intro K hK
    go_simp
    first | with_reducible refine hK _ _ ?_ | refine hK _ _ ?_
    clear hK K
    (try simp only [Act.put, List.setIfInBounds_toArray, List.set_cons_zero, List.set_cons_succ])
    with_reducible refine wpList_plain rfl ?_
    intro K hK
    go_simp
    first | with_reducible refine hK _ _ ?_ | refine hK _ _ ?_
    clear hK K
    (try simp only [Act.put, List.setIfInBounds_toArray, List.set_cons_zero, List.set_cons_succ])
    with_reducible refine wpList_plain rfl ?_
    intro K hK
    go_simp
    first | with_reducible refine hK _ _ ?_ | refine hK _ _ ?_
    clear hK K
    (try simp only [Act.put, List.setIfInBounds_toArray, List.set_cons_zero, List.set_cons_succ])
    with_reducible refine wpList_plain rfl ?_
    intro K hK
    go_simp
    first | with_reducible refine hK _ _ ?_ | refine hK _ _ ?_
    clear hK K
    (try simp only [Act.put, List.setIfInBounds_toArray, List.set_cons_zero, List.set_cons_succ])
    clear a1 a2 d4 t2
    have c0 := heap_cell G3.out (o := 0)
    have c1 := heap_cell G3.out (o := 1)
    go_upto_region 8 with fail
    with_reducible refine wp_region_list ?_
    with_reducible refine wpList_plain rfl ?_
    intro K hK
    go_simp
    first | with_reducible refine hK _ _ ?_ | refine hK _ _ ?_
    clear hK K
    (try simp only [Act.put, List.setIfInBounds_toArray, List.set_cons_zero, List.set_cons_succ])
    with_reducible refine wpList_plain rfl ?_
    intro K hK
    go_simp
    refine (Entries_any a b w7).mono ?_; rintro e w8 ⟨rfl, b8⟩; rw [HF.out.2.2.1]
    first | with_reducible refine hK _ _ ?_ | refine hK _ _ ?_
    clear hK K
    (try simp only [Act.put, List.setIfInBounds_toArray, List.set_cons_zero, List.set_cons_succ])
    with_reducible refine wpList_plain rfl ?_
    intro K hK
    go_simp
    first | with_reducible refine hK _ _ ?_ | refine hK _ _ ?_
    clear hK K
    (try simp only [Act.put, List.setIfInBounds_toArray, List.set_cons_zero, List.set_cons_succ])
    have B8 : Hid (Below N w w8) := B7.out.trans (b8.mono (by have := HM.out; omega))
    have E8 := Lib.hid (heap_below E7.out b8 hzT)
    clear c0 c1 B7 E7 b8 G2 G3
    have t1 := heap_cell E8.out (o := 1)
    obtain ⟨f1, f2, _, f4, f5, f6, f7, f8⟩ := HF.out
    have f9 := HRO.out
    obtain ⟨x, hx⟩ : ∃ x, r + E = x := ⟨_, rfl⟩
    obtain ⟨y, hy⟩ : ∃ y, x - 1 = y := ⟨_, rfl⟩
    obtain ⟨q, hq⟩ : ∃ q, y / E = q := ⟨_, rfl⟩
    obtain ⟨q1, hq1⟩ : ∃ z, 1 + q = z := ⟨_, rfl⟩
    have hqy : q ≤ y := by rw [← hq]; exact Nat.div_le_self _ _
    have a1 : (r : Int) + (E : Int) = (x : Int) := by omega
    have a2 : IntKind.i64.wrap (x : Int) = (x : Int) := IntWalk.i64_in _ (by omega)
    have a3 : (x : Int) - 1 = (y : Int) := by omega
    have a4 : IntKind.i64.wrap (y : Int) = (y : Int) := IntWalk.i64_in _ (by omega)
    have a5 : (y : Int).tdiv (E : Int) = (q : Int) := by rw [← hq]; exact (Int.ofNat_tdiv y E).symm
    have a6 : IntKind.i64.wrap (q : Int) = (q : Int) := IntWalk.i64_in _ (by omega)
    have a7 : 1 + (q : Int) = (q1 : Int) := by omega
    have a8 : IntKind.i64.wrap (q1 : Int) = (q1 : Int) := IntWalk.i64_in _ (by omega)
    have a9 : decide (n2 ≤ q1) = true := decide_eq_true (by rw [f9, hx, hy, hq, hq1] at f4; exact f4)
    have a10 : (E : Int) ≠ 0 := by omega
    have a12 : ¬ 0 < r → n2 = 0 := fun h => f5 (by omega)
    have A12 := Lib.hid a12
    clear hx hy hq hq1 hqy f1 f2 f4 f5 f6 f7 f8 f9 a12
    by_cases h0 : 0 < r
    · have a11 : decide (0 < r) = true := decide_eq_true h0
      clear h0
      go_upto_region 9 with fail
      go_quiet (fail)
      have HB : Hid (Below N w (w8.drewN nq)) := B8.out.trans ((below_dN w8 nq).mono (by have h1 := B8.out.size; rw [HN.out] at h1; exact h1))
      clear a1 a2 a3 a4 a5 a6 a7 a8 a9 a10 a11
      go_wp2_with fail
      go_ret
      exact ⟨rfl, HB.out⟩
    · have a11 : decide (0 < r) = false := decide_eq_false h0
      have a12 : n2 = 0 := A12.out h0
      clear h0
      go_upto_region 9 with fail
      go_quiet (fail)
      have HB : Hid (Below N w (w8.drewN nq)) := B8.out.trans ((below_dN w8 nq).mono (by have h1 := B8.out.size; rw [HN.out] at h1; exact h1))
      clear a1 a2 a3 a4 a5 a6 a7 a8 a9 a10 a11 a12
      go_wp2_with fail
      go_ret
      exact ⟨rfl, HB.out⟩
end Go.Proofs.Ytkngmnfgdlnddaa
