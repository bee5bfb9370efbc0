/-
  The walk of FreeLost.
-/
import Derived.Test.YtkngmnfgdlnddaaGK
import Derived.Test.YtkngmnfgdlnddaaGJ
import Derived.Maps.RangeWalk
set_option linter.unusedSimpArgs false
set_option linter.unusedVariables false
namespace Go.Proofs.Ytkngmnfgdlnddaa
open Go.RowKit Go.Lib Hw Go.Maps
set_option linter.unusedSimpArgs false
set_option linter.unusedVariables false

/-- len(m) -/
theorem CntM.len {w : World} {b n : Nat} {m : Nat → Nat} (h : CntM w b n m) (ty : TypeId) : (Builtin.len_ #[60] ty #[.map (some b)]).run Try.prog w = .ok (.int .i64 (n : Int)) w := by
  obtain ⟨D, h1, ⟨_, h2⟩, _⟩ := h
  rw [h1.len Try.underlying60 ty, h2]
theorem flat_lens : ∀ (cs : List (Nat × List Nat)), cs.length ≤ (flat cs).length ∧ ∀ c ∈ cs, c.2.length ≤ (flat cs).length
  | [] => ⟨Nat.le_refl _, fun c hc => by simp at hc⟩
  | c :: r => by
    obtain ⟨h1, h2⟩ := flat_lens r
    have e : (flat (c :: r)).length = 1 + c.2.length + (flat r).length := by show (c.1 :: c.2 ++ flat r).length = _; simp; omega
    refine ⟨by rw [List.length_cons]; omega, fun d hd => ?_⟩
    rcases List.mem_cons.1 hd with rfl | hd
    · omega
    · have := h2 d hd; omega
theorem nodup_range {l : List Nat} {P : Nat} (h : l.Nodup) (hp : ∀ x ∈ l, x < P) : l.length ≤ P := by
  have := nodup_le l (List.range P) h (fun x hx => List.mem_range.2 (hp x hx))
  rwa [List.length_range] at this
/-- FreeLost's plain law with what its walk wants -/
theorem lost_facts {a b : Int} {chain : List (Nat × List Nat)} {pages most : Nat} {held rel : List Nat} {trees : Int} {p : PlanV} (h : planF a b chain pages held trees rel most = .inr p) :
    (flat chain ++ rel).length + p.pages = (flat (aftL chain (p.opened : Int) p.lists) ++ p.trees).length + pages ∧ (flat chain ++ rel).length ≤ 65536 ∧ (flat (aftL chain (p.opened : Int) p.lists) ++ p.trees).length ≤ 65536 ∧ (∀ c ∈ aftL chain (p.opened : Int) p.lists, c.1 < 4294967296 ∧ All4 c.2) := by
  obtain ⟨h1, h2, h3, h4, h5, h6, _⟩ := lost_plain h
  have hA : ∀ x ∈ flat (aftL chain (p.opened : Int) p.lists) ++ p.trees, x < p.pages := fun x hx => by
    rcases (h3 x).1 hx with h | h
    · have := h4 x h; omega
    · exact h.2
  have l1 := nodup_range h2 (fun x hx => (h4 x hx).2)
  have l2 := nodup_range h1 hA
  have hnd : ((flat chain ++ rel) ++ (List.range (p.pages - pages)).map (fun i => pages + i)).Nodup := by
    refine List.nodup_append.2 ⟨h2, ?_, ?_⟩
    · exact List.Pairwise.map _ (fun a b hab => by omega) List.nodup_range
    · rintro x hx y hy rfl
      obtain ⟨i, _, e⟩ := List.mem_map.1 hy
      have := h4 x hx
      omega
  have hperm := (List.perm_ext_iff_of_nodup h1 hnd).2 (fun z => by
    rw [h3 z]
    refine ⟨fun g => ?_, fun g => ?_⟩
    · rcases g with g | g
      · exact List.mem_append_left _ g
      · exact List.mem_append_right _ (List.mem_map.2 ⟨z - pages, List.mem_range.2 (by omega), by omega⟩)
    · rcases List.mem_append.1 g with g | g
      · exact .inl g
      · obtain ⟨i, g1, g2⟩ := List.mem_map.1 g
        have := List.mem_range.1 g1
        exact .inr (by omega))
  have hlen := hperm.length_eq
  simp only [List.length_append, List.length_map, List.length_range] at hlen l1 l2 ⊢
  refine ⟨by omega, by omega, by omega, fun c hc => ?_⟩
  have hin : ∀ x, x ∈ c.1 :: c.2 → x < p.pages := fun x hx => hA x (List.mem_append_left _ (List.mem_flatMap.2 ⟨c, hc, hx⟩))
  refine ⟨by have := hin c.1 (List.mem_cons_self ..); omega, fun x hx => ?_⟩
  have := hin x (List.mem_cons_of_mem _ hx)
  omega
set_option maxRecDepth 5000 in
set_option maxHeartbeats 16000000 in
theorem FreeLost_walk (v nv : Value) (w : World) (hv : IsFrame v) (hn : IsNeed w nv) : Calls Try.prog 14 #[v, nv] w fun e w' => e = .returned (.bool true) ∧ Below w.heap.size w w' := by
  obtain ⟨a, b, rfl, ha, hb⟩ := hv
  obtain ⟨chv, hdv, rv, cs, held, rel, pages, most, trees, rfl, hch, hhe, hre, hp, hm, ht1, ht2⟩ := hn
  obtain ⟨cad, ccap, hcv, hx1⟩ := hch.1.form
  obtain ⟨had, hcap, hhv, hx2⟩ := hhe.1.form
  obtain ⟨rad, rcap, hrv, hx3⟩ := hre.1.form
  clear hx1 hx2 hx3
  subst hcv hhv hrv
  have HC := Lib.hid hch.1
  have HR := Lib.hid hre.1
  have HH := Lib.hid hhe.1
  clear hch hhe ha hb ht1 hre
  obtain ⟨R, hR⟩ : ∃ R, planF a b cs pages held trees rel most = R := ⟨_, rfl⟩
  have HRR := Lib.hid hR
  clear hR
  obtain ⟨N, hN⟩ : ∃ N, w.heap.size = N := ⟨_, rfl⟩
  have HN := Lib.hid hN
  rw [hN]
  clear hN
  obtain ⟨nc, hnc⟩ : ∃ k, cs.length = k := ⟨_, rfl⟩
  obtain ⟨nr, hnr⟩ : ∃ k, rel.length = k := ⟨_, rfl⟩
  obtain ⟨nh, hnh⟩ : ∃ k, held.length = k := ⟨_, rfl⟩
  have HNC := Lib.hid hnc
  rw [hnc] at HC ⊢
  rw [hnh] at HH ⊢
  rw [hnr] at HR ⊢
  clear hnc hnr hnh
  go_enter Try.func14, Try.ntmps14
  go_upto_region 0 with fail
  with_reducible refine wp_region_list ?_
  refine wpList_boxB rfl _ _ rfl N HN.out #[.int .i64 a, .int .i64 b] rfl ?_
  intro w1 e1 b1 z1
  (try simp only [Act.put, nA, nB, nC])
  obtain ⟨M, hM⟩ : ∃ M, w1.heap.size = M := ⟨_, rfl⟩
  have HM : Hid (M = N + 1) := by show _ = _; rw [← hM]; omega
  refine wpList_boxB rfl _ _ rfl M hM #[.slice cad nc ccap, .int .u32 (pages : Int), .slice had nh hcap, .int .i64 trees, .slice rad nr rcap, .int .u32 (most : Int)] rfl ?_
  intro w2 e2 b2 z2
  (try simp only [Act.put, nA, nB, nC])
  (with_reducible refine wpList_plain rfl ?_); intro K hK; go_simp; (with_reducible refine hK _ _ ?_); clear hK K; try simp only [Act.put, nA, nB, nC]
  have B2 : Hid (Below N w w2) := b1.trans (b2.mono (by have := HM.out; omega))
  have e3 := heap_below e1 b2 (by have := HM.out; omega)
  have Z2 : Hid (M < w2.heap.size) := heap_lt e2
  clear e1 b1 b2 z1 z2 hM
  go_upto_region 1 with fail
  with_reducible refine wp_region_list ?_
  with_reducible refine wpList_plain rfl ?_
  intro K hK
  go_simp
  refine (awake_any w2).mono ?_; rintro e w3 ⟨rfl, b3⟩
  first | with_reducible refine hK _ _ ?_ | refine hK _ _ ?_
  clear hK K
  (try simp only [Act.put, nA, nB, nC])
  (with_reducible refine wpList_plain rfl ?_); intro K hK; go_simp; (with_reducible refine hK _ _ ?_); clear hK K; try simp only [Act.put, nA, nB, nC]
  have B3 : Hid (Below N w w3) := B2.out.trans (b3.mono (by have := HM.out; have := Z2.out; omega))
  have hz3 : M < w3.heap.size := by have := b3.size; have := Z2.out; omega
  have E2 := heap_below e2 b3 Z2.out
  have E3 := heap_below e3 b3 (by have := HM.out; have := Z2.out; omega)
  clear b3 e2 e3 B2 Z2
  have c0 := heap_cell E3 (o := 0)
  have c1 := heap_cell E3 (o := 1)
  have d0 := heap_cell E2 (o := 0)
  have d1 := heap_cell E2 (o := 1)
  have d2 := heap_cell E2 (o := 2)
  have d3 := heap_cell E2 (o := 3)
  have d4 := heap_cell E2 (o := 4)
  have d5 := heap_cell E2 (o := 5)
  have HP : Hid (Calls Try.prog 31 #[.agg #[.int .i64 a, .int .i64 b], .agg #[.slice cad nc ccap, .int .u32 (pages : Int), .slice had nh hcap, .int .i64 trees, .slice rad nr rcap, .int .u32 (most : Int)]] w3 fun e w' => ∃ ad n1 c1 ad2 n2 c2 op pg k, e = .returned (.tuple #[.agg #[.slice ad n1 c1, .slice ad2 n2 c2, .int .i64 ((op : Nat) : Int), .int .u32 ((pg : Nat) : Int)], .int .i64 k]) ∧ ToldP w' R ad n1 c1 ad2 n2 c2 op pg k ∧ Below w3.heap.size w3 w') := by
    have h := Plan_told a b pages most trees _ _ _ cs held rel w3 (HC.out.below (by rw [HN.out]; exact B3.out)) (HH.out.below (by rw [HN.out]; exact B3.out)) (HR.out.below (by rw [HN.out]; exact B3.out)) hp hm ht2
    rw [HRR.out] at h
    exact h
  have F2H := Lib.hid E2
  have F3H := Lib.hid E3
  clear E2 E3
  go_upto_region 3 with fail
  with_reducible refine wp_region_list ?_
  (with_reducible refine wpList_plain rfl ?_); intro K hK; go_simp; (with_reducible refine hK _ _ ?_); clear hK K; try simp only [Act.put, nA, nB, nC]
  (with_reducible refine wpList_plain rfl ?_); intro K hK; go_simp; (with_reducible refine hK _ _ ?_); clear hK K; try simp only [Act.put, nA, nB, nC]
  with_reducible refine wpList_plain rfl ?_
  intro K hK
  go_simp
  refine HP.out.mono ?_; rintro e w5 ⟨ad, n1, k1, ad2, n2, k2, op, pg, k, rfl, told, b5⟩
  first | with_reducible refine hK _ _ ?_ | refine hK _ _ ?_
  clear hK K
  (try simp only [Act.put, nA, nB, nC])
  have TD := Lib.hid told
  have B5 : Hid (Below N w w5) := B3.out.trans (b5.mono (by have := HM.out; omega))
  have F2 := heap_below F2H.out b5 hz3
  have F3 := heap_below F3H.out b5 (by have := HM.out; omega)
  have G2 := Lib.hid F2
  have G3 := Lib.hid F3
  have hz5 : M < w5.heap.size := heap_lt F2
  clear told b5 F2 F3 F2H F3H HP c0 c1 d0 d1 d2 d3 d4 d5 B3 hz3
  (with_reducible refine wpList_plain rfl ?_); intro K hK; go_simp; (with_reducible refine hK _ _ ?_); clear hK K; try simp only [Act.put, nA, nB, nC]
  (with_reducible refine wpList_plain rfl ?_); intro K hK; go_simp; (with_reducible refine hK _ _ ?_); clear hK K; try simp only [Act.put, nA, nB, nC]
  (with_reducible refine wpList_plain rfl ?_); intro K hK; go_simp; (with_reducible refine hK _ _ ?_); clear hK K; try simp only [Act.put, nA, nB, nC]
  obtain ⟨T, hT⟩ : ∃ k, w5.heap.size = k := ⟨_, rfl⟩
  refine wpList_allocB rfl 48 rfl T hT (.agg #[.slice none 0 0, .slice none 0 0, .int .i64 0, .int .u32 0]) (fun _ => by kernel_rfl) ?_
  intro w6 e6 b6 z6
  (try simp only [Act.put, nA, nB, nC])
  refine wpList_storeB rfl 48 _ _ rfl T #[.slice ad n1 k1, .slice ad2 n2 k2, .int .i64 (op : Int), .int .u32 (pg : Int)] rfl rfl 48 _ e6 (by kernel_rfl) rfl (by simp [Value.oneCell']) ?_
  intro w7 e7 m7
  (try simp only [Act.put, nA, nB, nC])
  (with_reducible refine wpList_plain rfl ?_); intro K hK; go_simp; (with_reducible refine hK _ _ ?_); clear hK K; try simp only [Act.put, nA, nB, nC]
  have b7 : Below w5.heap.size w5 w7 := by rw [hT]; exact b6.trans (m7.below (n := T) (fun k hk e => by omega) (by omega))
  have B7 : Hid (Below N w w7) := B5.out.trans (b7.mono (by have := HM.out; omega))
  have F2 := heap_below G2.out b7 hz5
  have F3 := heap_below G3.out b7 (by have := HM.out; omega)
  have G2 := Lib.hid F2
  have G3 := Lib.hid F3
  have hz7 : M < w7.heap.size := heap_lt F2
  have TD := Lib.hid (TD.out.below b7)
  have E7 := Lib.hid e7
  have hzT : T < w7.heap.size := heap_lt e7
  clear F2 F3 e6 e7 b6 z6 m7 b7 B5 hT
  have t0 := heap_cell E7.out (o := 0)
  have t1 := heap_cell E7.out (o := 1)
  have t2 := heap_cell E7.out (o := 2)
  have t3 := heap_cell E7.out (o := 3)
  have d0 := heap_cell G2.out (o := 0)
  have d1 := heap_cell G2.out (o := 1)
  have d3 := heap_cell G2.out (o := 3)
  have d5 := heap_cell G2.out (o := 5)
  by_cases hk : k = 0
  case neg =>
    have hk2 : (k != 0) = true := by simpa using hk
    have hz : n1 = 0 ∧ n2 = 0 ∧ op = 0 ∧ pg = 0 := by
      have ht := TD.out
      cases R with
      | inl j => exact ht.2.2
      | inr p => exact absurd ht.1 hk
    obtain ⟨hz1, hz2, hz3, hz4⟩ := hz
    subst hz1 hz2 hz3 hz4
    clear hk
    go_wp2_with fail
    go_ret
    exact ⟨rfl, B7.out⟩
  case pos =>
    subst hk
    have HF : Hid (∃ p, planF a b cs pages held trees rel most = .inr p ∧ op = p.opened ∧ pg = p.pages ∧ n1 = p.trees.length ∧ n2 = p.lists.length ∧ URow w7 (.slice ad n1 k1) p.trees ∧ CRow w7 (.slice ad2 n2 k2) p.lists) := by
      have ht := TD.out
      have hr := HRR.out
      cases R with
      | inl j => obtain ⟨h1, h2, _⟩ := ht; exact absurd h1.symm h2
      | inr p =>
        obtain ⟨_, g1, g2, g3, g4, g5, g6⟩ := ht
        exact ⟨p, hr, g3, g4, g1, g2, g5, g6⟩
    obtain ⟨p, hpR, hop, hpg, hn1, hn2, hrT, hrC⟩ := HF.out
    subst hop hpg
    obtain ⟨q1, q2, q3, q4, q5, q6, q7⟩ := lost_plain hpR
    obtain ⟨r1, r2, r3, r4⟩ := lost_facts hpR
    obtain ⟨AF, hAF⟩ : ∃ AF, aftL cs (p.opened : Int) p.lists = AF := ⟨_, rfl⟩
    have s1 : (p.lists.length + cs.length) * 32 ≤ 140737488355328 ∧ ∀ c ∈ p.lists ++ cs, c.2.length * 4 ≤ 140737488355328 := by
      have g1 := (flat_lens (aftL cs (p.opened : Int) p.lists))
      have g2 := flat_lens cs
      have g3 : p.lists.length ≤ (aftL cs (p.opened : Int) p.lists).length := by unfold aftL; rw [List.length_append]; omega
      rw [List.length_append] at r2 r3
      refine ⟨by omega, fun c hc => ?_⟩
      rcases List.mem_append.1 hc with hc | hc
      · have := g1.2 c (by unfold aftL; exact List.mem_append_left _ hc); omega
      · have := g2.2 c hc; omega
    rw [hAF] at q1 q3 q7 r1 r3 r4
    have Q1 := Lib.hid q1
    have Q2 := Lib.hid q2
    have Q3 := Lib.hid q3
    have Q4 := Lib.hid q4
    have Q7 := Lib.hid q7
    have R1 := Lib.hid r1
    have R2 := Lib.hid r2
    have R3 := Lib.hid r3
    have R4 := Lib.hid r4
    have HAF := Lib.hid hAF
    have RT := Lib.hid hrT
    have N1 := Lib.hid hn1
    obtain ⟨pg, hpg⟩ : ∃ k, p.pages = k := ⟨_, rfl⟩
    obtain ⟨op, hop⟩ : ∃ k, p.opened = k := ⟨_, rfl⟩
    have HAA := Lib.hid (After_any (.slice ad2 n2 k2) (.slice cad nc ccap) (.slice ad n1 k1) p.lists cs (op : Int) (pg : Int) w7 hrC (HC.out.below (by rw [HN.out]; exact B7.out)) s1.1 s1.2)
    have hq5 : pages ≤ pg := by omega
    have hq6 : pg ≤ 65536 := by omega
    rw [hop] at HAF hAF
    rw [hpg] at Q3 Q7 R1
    rw [hop, hpg] at E7 t2 t3 ⊢
    rw [hAF] at HAA
    clear TD HRR HF hpR hn1 hn2 hrT hrC q1 q2 q3 q4 q5 q6 q7 r1 r2 r3 r4 hAF s1 hop hpg HAF
    go_upto_region 6 with fail
    with_reducible refine wp_region_list ?_
    (with_reducible refine wpList_plain rfl ?_); intro K hK; go_simp; (with_reducible refine hK _ _ ?_); clear hK K; try simp only [Act.put, nA, nB, nC]
    (with_reducible refine wpList_plain rfl ?_); intro K hK; go_simp; (with_reducible refine hK _ _ ?_); clear hK K; try simp only [Act.put, nA, nB, nC]
    (with_reducible refine wpList_plain rfl ?_); intro K hK; go_simp; (with_reducible refine hK _ _ ?_); clear hK K; try simp only [Act.put, nA, nB, nC]
    with_reducible refine wpList_plain rfl ?_
    intro K hK
    go_simp
    refine HAA.out.mono ?_; rintro e w8 ⟨v8, rfl, bs8, o8, d8, b8⟩
    first | with_reducible refine hK _ _ ?_ | refine hK _ _ ?_
    clear hK K
    (try simp only [Act.put, nA, nB, nC])
    have hr8 := d8.row o8 R4.out
    obtain ⟨vad, vc, hv8, hx9⟩ := hr8.form
    obtain ⟨vn, hvn⟩ : ∃ k, AF.length = k := ⟨_, rfl⟩
    rw [hvn] at hv8
    subst hv8
    (with_reducible refine wpList_plain rfl ?_); intro K hK; go_simp; (with_reducible refine hK _ _ ?_); clear hK K; try simp only [Act.put, nA, nB, nC]
    have HV := Lib.hid hr8
    have B8 : Hid (Below N w w8) := B7.out.trans (b8.mono (by have := HM.out; omega))
    have E8 := heap_below E7.out b8 hzT
    have J8 := heap_below G2.out b8 hz7
    have K8 := heap_below G3.out b8 (by have := HM.out; omega)
    have T8 := Lib.hid (RT.out.below b8)
    have hT8 : T < w8.heap.size := heap_lt E8
    have hM8 : M < w8.heap.size := heap_lt J8
    have hN8 : N < w8.heap.size := heap_lt K8
    have EH := Lib.hid E8
    have JH := Lib.hid J8
    have c0 := heap_cell K8 (o := 0)
    have c1 := heap_cell K8 (o := 1)
    have t3 := heap_cell E8 (o := 3)
    clear hr8 hx9 hvn o8 d8 b8 HAA E7 G2 G3 hz7 hzT d0 d1 d3 d5 t0 t1 t2 RT B7 E8 J8 K8
    go_upto_region 7 with fail
    with_reducible refine wp_region_list ?_
    (with_reducible refine wpList_plain rfl ?_); intro K hK; go_simp; (with_reducible refine hK _ _ ?_); clear hK K; try simp only [Act.put, nA, nB, nC]
    (with_reducible refine wpList_plain rfl ?_); intro K hK; go_simp; (with_reducible refine hK _ _ ?_); clear hK K; try simp only [Act.put, nA, nB, nC]
    (with_reducible refine wpList_plain rfl ?_); intro K hK; go_simp; (with_reducible refine hK _ _ ?_); clear hK K; try simp only [Act.put, nA, nB, nC]
    (with_reducible refine wpList_plain rfl ?_); intro K hK; go_simp; (with_reducible refine hK _ _ ?_); clear hK K; try simp only [Act.put, nA, nB, nC]
    with_reducible refine wpList_plain rfl ?_
    intro K hK
    go_simp
    refine (Check_any a b pg (.slice vad vn vc) AF w8 (by omega) HV).mono ?_; rintro e w9 ⟨rfl, b9⟩; rw [Q7.out]
    first | with_reducible refine hK _ _ ?_ | refine hK _ _ ?_
    clear hK K
    (try simp only [Act.put, nA, nB, nC])
    (with_reducible refine wpList_plain rfl ?_); intro K hK; go_simp; (with_reducible refine hK _ _ ?_); clear hK K; try simp only [Act.put, nA, nB, nC]
    have B9 : Hid (Below N w w9) := B8.out.trans (b9.mono (by omega))
    have E9 := heap_below EH.out b9 hT8
    have J9 := heap_below JH.out b9 hM8
    have T9 := Lib.hid (T8.out.below b9)
    have V9 := Lib.hid (HV.out.below b9)
    have hT9 : T < w9.heap.size := heap_lt E9
    have hM9 : M < w9.heap.size := heap_lt J9
    have EH9 := Lib.hid E9
    have JH9 := Lib.hid J9
    have hN9 : N < w9.heap.size := Nat.lt_of_lt_of_le hN8 b9.size
    have d0 := heap_cell J9 (o := 0)
    have d4 := heap_cell J9 (o := 4)
    clear b9 B8 EH JH T8 HV c0 c1 t3 hT8 hM8 hN8 E9 J9 Q7
    go_upto_region 9 with fail
    with_reducible refine wp_region_list ?_
    (with_reducible refine wpList_plain rfl ?_); intro K hK; go_simp; (with_reducible refine hK _ _ ?_); clear hK K; try simp only [Act.put, nA, nB, nC]
    (with_reducible refine wpList_plain rfl ?_); intro K hK; go_simp; (with_reducible refine hK _ _ ?_); clear hK K; try simp only [Act.put, nA, nB, nC]
    (with_reducible refine wpList_plain rfl ?_); intro K hK; go_simp; (with_reducible refine hK _ _ ?_); clear hK K; try simp only [Act.put, nA, nB, nC]
    (with_reducible refine wpList_plain rfl ?_); intro K hK; go_simp; (with_reducible refine hK _ _ ?_); clear hK K; try simp only [Act.put, nA, nB, nC]
    (with_reducible refine wpList_plain rfl ?_); intro K hK; go_simp; (with_reducible refine hK _ _ ?_); clear hK K; try simp only [Act.put, nA, nB, nC]
    obtain ⟨x9, hx9⟩ : ∃ q, w9.heap.size = q := ⟨_, rfl⟩
    obtain ⟨wA, hwA⟩ : ∃ W, w9.alloc (.cells #[.slice rad nr rcap] 28) = W := ⟨_, rfl⟩
    have bA : Below w9.heap.size w9 wA := by rw [← hwA]; exact (Below.refl _ _).alloc (Nat.le_refl _) _
    have cA : wA.cell? ⟨x9, 0, none⟩ = some (.slice rad nr rcap) := by rw [← hwA, ← hx9, heap_cell (heap_alloc_new w9 _)]; rfl
    have BA : Hid (Below N w wA) := B9.out.trans (bA.mono (by omega))
    have HS := Lib.hid (set_any (.slice cad nc ccap) (.slice rad nr rcap) 0 x9 1 cs rel wA (HC.out.below (by rw [HN.out]; exact BA.out)) (HR.out.below (by rw [HN.out]; exact BA.out)) cA Q2.out (by show _ < _; have := R2.out; omega))
    rw [hwA, hx9]
    with_reducible refine wpList_plain rfl ?_
    intro K hK
    go_simp
    refine HS.out.mono ?_; rintro e wB ⟨gw, rfl, hgw, CW, bB⟩
    first | with_reducible refine hK _ _ ?_ | refine hK _ _ ?_
    clear hK K
    (try simp only [Act.put, nA, nB, nC])
    (with_reducible refine wpList_plain rfl ?_); intro K hK; go_simp; (with_reducible refine hK _ _ ?_); clear hK K; try simp only [Act.put, nA, nB, nC]
    (with_reducible refine wpList_plain rfl ?_); intro K hK; go_simp; (with_reducible refine hK _ _ ?_); clear hK K; try simp only [Act.put, nA, nB, nC]
    (with_reducible refine wpList_plain rfl ?_); intro K hK; go_simp; (with_reducible refine hK _ _ ?_); clear hK K; try simp only [Act.put, nA, nB, nC]
    (with_reducible refine wpList_plain rfl ?_); intro K hK; go_simp; (with_reducible refine hK _ _ ?_); clear hK K; try simp only [Act.put, nA, nB, nC]
    (with_reducible refine wpList_plain rfl ?_); intro K hK; go_simp; (with_reducible refine hK _ _ ?_); clear hK K; try simp only [Act.put, nA, nB, nC]
    have bB' : Below w9.heap.size w9 wB := bA.trans (bB.mono bA.size)
    have BB : Hid (Below N w wB) := B9.out.trans (bB'.mono (by omega))
    have EB := heap_below EH9.out bB' hT9
    have EHB := Lib.hid EB
    have JHB := Lib.hid (heap_below JH9.out bB' hM9)
    have TB_ := Lib.hid (T9.out.below bB')
    have VB := Lib.hid (V9.out.below bB')
    have HCW := Lib.hid CW
    have hTB : T < wB.heap.size := heap_lt EB
    have hMB : M < wB.heap.size := heap_lt JHB.out
    have hNB : N < wB.heap.size := Nat.lt_of_lt_of_le hN9 bB'.size
    have t0 := heap_cell EB (o := 0)
    have hgw2 : gw < wB.heap.size := CW.lt
    clear bA cA BA HS bB bB' B9 EH9 JH9 T9 V9 CW EB hwA hx9 hgw d0 d4 hT9 hM9 hN9
    go_upto_region 10 with fail
    with_reducible refine wp_region_list ?_
    (with_reducible refine wpList_plain rfl ?_); intro K hK; go_simp; (with_reducible refine hK _ _ ?_); clear hK K; try simp only [Act.put, nA, nB, nC]
    (with_reducible refine wpList_plain rfl ?_); intro K hK; go_simp; (with_reducible refine hK _ _ ?_); clear hK K; try simp only [Act.put, nA, nB, nC]
    (with_reducible refine wpList_plain rfl ?_); intro K hK; go_simp; (with_reducible refine hK _ _ ?_); clear hK K; try simp only [Act.put, nA, nB, nC]
    (with_reducible refine wpList_plain rfl ?_); intro K hK; go_simp; (with_reducible refine hK _ _ ?_); clear hK K; try simp only [Act.put, nA, nB, nC]
    obtain ⟨xB, hxB⟩ : ∃ q, wB.heap.size = q := ⟨_, rfl⟩
    obtain ⟨wC, hwC⟩ : ∃ W, wB.alloc (.cells #[.slice ad n1 k1] 28) = W := ⟨_, rfl⟩
    have bC : Below wB.heap.size wB wC := by rw [← hwC]; exact (Below.refl _ _).alloc (Nat.le_refl _) _
    have cC : wC.cell? ⟨xB, 0, none⟩ = some (.slice ad n1 k1) := by rw [← hwC, ← hxB, heap_cell (heap_alloc_new wB _)]; rfl
    have HS := Lib.hid (set_any (.slice vad vn vc) (.slice ad n1 k1) 0 xB 1 AF p.trees wC (VB.out.below bC) (TB_.out.below bC) cC Q1.out (by show _ < _; have := R3.out; omega))
    rw [hwC, hxB]
    with_reducible refine wpList_plain rfl ?_
    intro K hK
    go_simp
    refine HS.out.mono ?_; rintro e wD ⟨gi, rfl, hgi, CI, bD⟩
    first | with_reducible refine hK _ _ ?_ | refine hK _ _ ?_
    clear hK K
    (try simp only [Act.put, nA, nB, nC])
    (with_reducible refine wpList_plain rfl ?_); intro K hK; go_simp; (with_reducible refine hK _ _ ?_); clear hK K; try simp only [Act.put, nA, nB, nC]
    (with_reducible refine wpList_plain rfl ?_); intro K hK; go_simp; (with_reducible refine hK _ _ ?_); clear hK K; try simp only [Act.put, nA, nB, nC]
    (with_reducible refine wpList_plain rfl ?_); intro K hK; go_simp; (with_reducible refine hK _ _ ?_); clear hK K; try simp only [Act.put, nA, nB, nC]
    (with_reducible refine wpList_plain rfl ?_); intro K hK; go_simp; (with_reducible refine hK _ _ ?_); clear hK K; try simp only [Act.put, nA, nB, nC]
    (with_reducible refine wpList_plain rfl ?_); intro K hK; go_simp; (with_reducible refine hK _ _ ?_); clear hK K; try simp only [Act.put, nA, nB, nC]
    have bD' : Below wB.heap.size wB wD := bC.trans (bD.mono bC.size)
    have BD : Hid (Below N w wD) := BB.out.trans (bD'.mono (by omega))
    have ED := heap_below EHB.out bD' hTB
    have JD := heap_below JHB.out bD' hMB
    have hgi2 : wB.heap.size ≤ gi := Nat.le_trans bC.size hgi
    have CW := HCW.out.below bD'
    have t3 := heap_cell ED (o := 3)
    have d1 := heap_cell JD (o := 1)
    have l1 := fun ty => CW.len ty
    have l2 := fun ty => CI.len ty
    have HCW2 := Lib.hid CW
    have HCI := Lib.hid CI
    have EHD := Lib.hid ED
    have JHD := Lib.hid JD
    have hTD : T < wD.heap.size := heap_lt ED
    have hMD : M < wD.heap.size := heap_lt JD
    have hND : N < wD.heap.size := Nat.lt_of_lt_of_le hNB bD'.size
    obtain ⟨lw, hlw⟩ : ∃ k, (flat cs ++ rel).length = k := ⟨_, rfl⟩
    obtain ⟨li, hli⟩ : ∃ k, (flat AF ++ p.trees).length = k := ⟨_, rfl⟩
    have r1 := R1.out
    have r2 := R2.out
    have r3 := R3.out
    rw [hlw] at HCW2 l1 r1 r2
    rw [hli] at HCI l2 r1 r3
    obtain ⟨y, hy⟩ : ∃ y, lw + pg = y := ⟨_, rfl⟩
    have ea : (lw : Int) + (pg : Int) = (y : Int) := by omega
    have eb : IntKind.i64.wrap (y : Int) = (y : Int) := IntWalk.i64_in _ (by omega)
    have ec : (y : Int) - (pages : Int) = (li : Int) := by omega
    have ed : IntKind.i64.wrap (li : Int) = (li : Int) := IntWalk.i64_in _ (by omega)
    have ee : IntKind.i64.wrap (pg : Int) = (pg : Int) := IntWalk.i64_in _ (by omega)
    have ef : IntKind.i64.wrap (pages : Int) = (pages : Int) := IntWalk.i64_in _ (by omega)
    clear bC cC HS bD bD' BB EHB JHB TB_ VB CI CW ED JD hwC hxB hgi t0 hTB hMB hNB HCW hlw hli r1 hy
    go_upto_region 11 with fail
    with_reducible refine wp_region_list ?_
    (with_reducible refine wpList_plain rfl ?_); intro K hK; go_simp; (with_reducible refine hK _ _ ?_); clear hK K; try simp only [Act.put, nA, nB, nC]
    (with_reducible refine wpList_plain rfl ?_); intro K hK; go_simp; (with_reducible refine hK _ _ ?_); clear hK K; try simp only [Act.put, nA, nB, nC]
    (with_reducible refine wpList_plain rfl ?_); intro K hK; go_simp; (with_reducible refine hK _ _ ?_); clear hK K; try simp only [Act.put, nA, nB, nC]
    (with_reducible refine wpList_step ?_); intro K hK; rw [if_pos (by rfl)]; go_simp; (with_reducible refine hK _ _ ?_); clear hK K; try simp only [Act.put, nA, nB, nC]
    (with_reducible refine wpList_step ?_); intro K hK; rw [if_pos (by rfl)]; go_simp; (with_reducible refine hK _ _ ?_); clear hK K; try simp only [Act.put, nA, nB, nC]
    (with_reducible refine wpList_plain rfl ?_); intro K hK; go_simp; (with_reducible refine hK _ _ ?_); clear hK K; try simp only [Act.put, nA, nB, nC]
    (with_reducible refine wpList_plain rfl ?_); intro K hK; go_simp; (with_reducible refine hK _ _ ?_); clear hK K; try simp only [Act.put, nA, nB, nC]
    (with_reducible refine wpList_step ?_); intro K hK; rw [if_pos (by rfl)]; go_simp; (with_reducible refine hK _ _ ?_); clear hK K; try simp only [Act.put, nA, nB, nC]
    (with_reducible refine wpList_step ?_); intro K hK; rw [if_pos (by rfl)]; go_simp; (with_reducible refine hK _ _ ?_); clear hK K; try simp only [Act.put, nA, nB, nC]
    (with_reducible refine wpList_step ?_); intro K hK; rw [if_pos (by rfl)]; go_simp; (with_reducible refine hK _ _ ?_); clear hK K; try simp only [Act.put, nA, nB, nC]
    (with_reducible refine wpList_step ?_); intro K hK; rw [if_pos (by rfl)]; go_simp; (with_reducible refine hK _ _ ?_); clear hK K; try simp only [Act.put, nA, nB, nC]
    (with_reducible refine wpList_step ?_); intro K hK; rw [if_pos (by rfl)]; go_simp; (with_reducible refine hK _ _ ?_); clear hK K; try simp only [Act.put, nA, nB, nC]
    (with_reducible refine wpList_step ?_); intro K hK; rw [if_pos (by rfl)]; go_simp; (with_reducible refine hK _ _ ?_); clear hK K; try simp only [Act.put, nA, nB, nC]
    (with_reducible refine wpList_step ?_); intro K hK; rw [if_pos (by rfl)]; go_simp; (with_reducible refine hK _ _ ?_); clear hK K; try simp only [Act.put, nA, nB, nC]
    (with_reducible refine wpList_step ?_); intro K hK; rw [if_pos (by rfl)]; go_simp; (with_reducible refine hK _ _ ?_); clear hK K; try simp only [Act.put, nA, nB, nC]
    (with_reducible refine wpList_step ?_); intro K hK; rw [if_pos (by rfl)]; go_simp; (with_reducible refine hK _ _ ?_); clear hK K; try simp only [Act.put, nA, nB, nC]
    (with_reducible refine wpList_step ?_); intro K hK; rw [if_pos (by rfl)]; go_simp; (with_reducible refine hK _ _ ?_); clear hK K; try simp only [Act.put, nA, nB, nC]
    (with_reducible refine wpList_step ?_); intro K hK; rw [if_pos (by rfl)]; go_simp; (with_reducible refine hK _ _ ?_); clear hK K; try simp only [Act.put, nA, nB, nC]
    (with_reducible refine wpList_step ?_); intro K hK; rw [if_pos (by rfl)]; go_simp; (with_reducible refine hK _ _ ?_); clear hK K; try simp only [Act.put, nA, nB, nC]
    (with_reducible refine wpList_step ?_); intro K hK; rw [if_pos (by rfl)]; go_simp; (with_reducible refine hK _ _ ?_); clear hK K; try simp only [Act.put, nA, nB, nC]
    (with_reducible refine wpList_plain rfl ?_); intro K hK; go_simp; (with_reducible refine hK _ _ ?_); clear hK K; try simp only [Act.put, nA, nB, nC]
    clear l1 l2 ea eb ec ed ee ef t3 d1
    go_upto_region 13 with fail
    with_reducible refine wp_region_list ?_
    (with_reducible refine wpList_plain rfl ?_); intro K hK; go_simp; (with_reducible refine hK _ _ ?_); clear hK K; try simp only [Act.put, nA, nB, nC]
    obtain ⟨D, hown, hD, hat⟩ := HCI.out
    have hgl : gi < wD.heap.size := HCI.out.lt
    refine wpList_range_own _ rfl _ 60 rfl 27 3 keyed_u Try.underlying60 _ gi li D rfl hown ?_
    intro wE hrE hgE hsE
    (try simp only [Act.put, nA, nB, nC])
    have HAT : Hid (∀ x : Nat, x < 4294967296 → Maps.has D (.int .u32 (x : Int)) = true → x ∈ flat AF ++ p.trees) := fun x hx hh => by
      rw [(hat x hx).2] at hh
      have h := of_decide_eq_true hh
      unfold oneF at h
      by_cases hc : (flat AF ++ p.trees).contains x = true
      · exact List.contains_iff_mem.1 hc
      · rw [if_neg hc] at h; omega
    obtain ⟨r, hr⟩ : ∃ r, wD.heap.size = r := ⟨_, rfl⟩
    rw [hr] at hrE ⊢
    have HRE := Lib.hid hrE
    have HGE : Hid (wD.grownBy wE (some r)) := hgE.but (some r)
    have Hr := Lib.hid hr
    clear hown hD hat hrE hgE hsE HCI hr
    go_upto_region 14 with fail
    go_loopw [] (fun wr => ∃ left cnt, Hid (wr.ranges Try.prog 27 (plainElem Try.prog 3) gi r li D left cnt) ∧ Hid (∀ kl, left kl = true → Maps.has D kl = true) ∧ Hid (wD.grownBy wr (some r))) (fun wr => wr.rangeLeft gi r)
    case atStart => exact ⟨_, _, HRE, fun kl h => h, HGE⟩
    case round =>
      obtain ⟨left, cnt, HRG, HLF, HG⟩ := hrel
      clear HRE HGE
      go_upto_region 14 with fail
      with_reducible refine wp_region_list ?_
      refine wpList_next_ranges_ii _ rfl _ rfl 27 3 .u32 .i64 keyed_u Try.underlying27 Try.underlying3 gi r li D left cnt rfl HRG.out ?_ ?_
      · intro hc0 hl0
        (try simp only [Act.put, nA, nB, nC])
        (with_reducible refine wpList_plain rfl ?_); intro K hK; go_simp; (with_reducible refine hK _ _ ?_); clear hK K; try simp only [Act.put, nA, nB, nC]
        have HBF : Hid (Below N w wr) := BD.out.trans ((Mod.grown (S := fun k => k = r) HG.out (fun k e => (Option.some.inj e).symm)).below (fun k hk e => by have := Hr.out; omega) (by omega))
        clear hc0 hl0 HRG HLF HG
        go_wp2_with fail
        go_ret
        exact ⟨rfl, HBF.out⟩
      · intro xi c w1 cnt1 hwx hwc hlx hat hrg1 hlt hg1 hs1 hen
        (try simp only [Act.put, nA, nB, nC])
        (with_reducible refine wpList_plain rfl ?_); intro K hK; go_simp; (with_reducible refine hK _ _ ?_); clear hK K; try simp only [Act.put, nA, nB, nC]
        have hxb : 0 ≤ xi ∧ xi < 4294967296 := by simp [Lit.wf, IntKind.min, IntKind.max, IntKind.signed, IntKind.bits] at hwx; omega
        obtain ⟨x, hx⟩ : ∃ x : Nat, (x : Int) = xi := ⟨xi.toNat, by omega⟩
        subst hx
        have hxin := HAT.out x (by omega) (HLF.out _ hlx)
        have hq := (Q3.out x).1 hxin
        have G1 : Hid (wD.grownBy w1 (some r)) := HG.out.andThen hg1 (fun j e => .inr e)
        have MD : Mod (fun k => k = r) wD w1 := Mod.grown G1.out (fun k e => (Option.some.inj e).symm)
        have R1' := Lib.hid hrg1
        have LF1 : Hid (∀ kl, (left kl && !kl.sameKey (.int .u32 (x : Int))) = true → Maps.has D kl = true) := fun kl h => HLF.out kl (Bool.and_eq_true_iff.1 h).1
        have hms : w1.rangeLeft gi r < wr.rangeLeft gi r := by rw [hrg1.left_eq, HRG.out.left_eq]; exact hlt
        have J1 := MD.heap JHD.out (by have := Hr.out; omega)
        have E1 := MD.heap EHD.out (by have := Hr.out; omega)
        have d1 := heap_cell J1 (o := 1)
        have t3 := heap_cell E1 (o := 3)
        have hxg : x < pg := by
          rcases hq with h | h
          · have := Q4.out x h; omega
          · exact h.2
        have y1 : decide (pg ≤ x) = false := decide_eq_false (by omega)
        have HL1 : (Instr.lookup 60 (.map (some gw)) (.int .u32 (x : Int)) false).run Try.prog w1 = .ok (.int .i64 (oneF (flat cs ++ rel) x : Nat)) w1 := (HCW2.out.mod MD (by have := Hr.out; have := HCW2.out.lt; omega)).look x (by omega)
        have HQ := Lib.hid hq
        clear hwx hwc hlx hat hrg1 hlt hg1 hs1 HRG HLF HG MD J1 E1 hq hxin hxb hxg
        go_upto_region 16 with fail
        clear hen
        with_reducible refine wp_region_list ?_
        by_cases hxp : x < pages
        case pos =>
          have y2 : decide (x < pages) = true := decide_eq_true hxp
          have h1 : oneF (flat cs ++ rel) x = 1 := by
            unfold oneF
            rw [if_pos (List.contains_iff_mem.2 (HQ.out.resolve_right (fun h => by omega)))]
          rw [h1] at HL1
          clear h1 hxp
          (with_reducible refine wpList_plain rfl ?_); intro K hK; go_simp; (with_reducible refine hK _ _ ?_); clear hK K; try simp only [Act.put, nA, nB, nC]
          (with_reducible refine wpList_plain rfl ?_); intro K hK; go_simp; (with_reducible refine hK _ _ ?_); clear hK K; try simp only [Act.put, nA, nB, nC]
          (with_reducible refine wpList_plain rfl ?_); intro K hK; go_simp; (with_reducible refine hK _ _ ?_); clear hK K; try simp only [Act.put, nA, nB, nC]
          (with_reducible refine wpList_plain rfl ?_); intro K hK; go_simp; (with_reducible refine hK _ _ ?_); clear hK K; try simp only [Act.put, nA, nB, nC]
          (with_reducible refine wpList_plain rfl ?_); intro K hK; go_simp; (with_reducible refine hK _ _ ?_); clear hK K; try simp only [Act.put, nA, nB, nC]
          (with_reducible refine wpList_step ?_); intro K hK; rw [if_pos (by rfl)]; go_simp; (with_reducible refine hK _ _ ?_); clear hK K; try simp only [Act.put, nA, nB, nC]
          (with_reducible refine wpList_step ?_); intro K hK; rw [if_pos (by rfl)]; go_simp; (with_reducible refine hK _ _ ?_); clear hK K; try simp only [Act.put, nA, nB, nC]
          (with_reducible refine wpList_step ?_); intro K hK; rw [if_pos (by rfl)]; go_simp; (with_reducible refine hK _ _ ?_); clear hK K; try simp only [Act.put, nA, nB, nC]
          (with_reducible refine wpList_step ?_); intro K hK; rw [if_pos (by rfl)]; go_simp; (with_reducible refine hK _ _ ?_); clear hK K; try simp only [Act.put, nA, nB, nC]
          (with_reducible refine wpList_plain rfl ?_); intro K hK; go_simp; (with_reducible refine hK _ _ ?_); clear hK K; try simp only [Act.put, nA, nB, nC]
          (with_reducible refine wpList_plain rfl ?_); intro K hK; go_simp; (with_reducible refine hK _ _ ?_); clear hK K; try simp only [Act.put, nA, nB, nC]
          (with_reducible refine wpList_step ?_); intro K hK; rw [if_pos (by rfl)]; go_simp; (with_reducible refine hK _ _ ?_); clear hK K; try simp only [Act.put, nA, nB, nC]
          (with_reducible refine wpList_step ?_); intro K hK; rw [if_pos (by rfl)]; go_simp; (with_reducible refine hK _ _ ?_); clear hK K; try simp only [Act.put, nA, nB, nC]
          (with_reducible refine wpList_step ?_); intro K hK; rw [if_pos (by rfl)]; go_simp; (with_reducible refine hK _ _ ?_); clear hK K; try simp only [Act.put, nA, nB, nC]
          (with_reducible refine wpList_step ?_); intro K hK; rw [if_pos (by rfl)]; go_simp; (with_reducible refine hK _ _ ?_); clear hK K; try simp only [Act.put, nA, nB, nC]
          (with_reducible refine wpList_plain rfl ?_); intro K hK; go_simp; (with_reducible refine hK _ _ ?_); clear hK K; try simp only [Act.put, nA, nB, nC]
          clear HL1 y1 y2 d1 t3
          go_wp2_with fail
          exact ⟨⟨_, cnt1, R1', LF1, G1⟩, hms⟩
        case neg =>
          have y2 : decide (x < pages) = false := decide_eq_false hxp
          clear HL1 hxp
          (with_reducible refine wpList_plain rfl ?_); intro K hK; go_simp; (with_reducible refine hK _ _ ?_); clear hK K; try simp only [Act.put, nA, nB, nC]
          (with_reducible refine wpList_plain rfl ?_); intro K hK; go_simp; (with_reducible refine hK _ _ ?_); clear hK K; try simp only [Act.put, nA, nB, nC]
          (with_reducible refine wpList_plain rfl ?_); intro K hK; go_simp; (with_reducible refine hK _ _ ?_); clear hK K; try simp only [Act.put, nA, nB, nC]
          (with_reducible refine wpList_plain rfl ?_); intro K hK; go_simp; (with_reducible refine hK _ _ ?_); clear hK K; try simp only [Act.put, nA, nB, nC]
          (with_reducible refine wpList_plain rfl ?_); intro K hK; go_simp; (with_reducible refine hK _ _ ?_); clear hK K; try simp only [Act.put, nA, nB, nC]
          (with_reducible refine wpList_step ?_); intro K hK; rw [if_neg (Bool.eq_false_iff.1 (by rfl))]; (with_reducible refine hK _ _ ?_); clear hK K; try simp only [Act.put, nA, nB, nC]
          (with_reducible refine wpList_step ?_); intro K hK; rw [if_neg (Bool.eq_false_iff.1 (by rfl))]; (with_reducible refine hK _ _ ?_); clear hK K; try simp only [Act.put, nA, nB, nC]
          (with_reducible refine wpList_step ?_); intro K hK; rw [if_neg (Bool.eq_false_iff.1 (by rfl))]; (with_reducible refine hK _ _ ?_); clear hK K; try simp only [Act.put, nA, nB, nC]
          (with_reducible refine wpList_step ?_); intro K hK; rw [if_neg (Bool.eq_false_iff.1 (by rfl))]; (with_reducible refine hK _ _ ?_); clear hK K; try simp only [Act.put, nA, nB, nC]
          (with_reducible refine wpList_plain rfl ?_); intro K hK; go_simp; (with_reducible refine hK _ _ ?_); clear hK K; try simp only [Act.put, nA, nB, nC]
          (with_reducible refine wpList_plain rfl ?_); intro K hK; go_simp; (with_reducible refine hK _ _ ?_); clear hK K; try simp only [Act.put, nA, nB, nC]
          (with_reducible refine wpList_step ?_); intro K hK; rw [if_pos (by rfl)]; go_simp; (with_reducible refine hK _ _ ?_); clear hK K; try simp only [Act.put, nA, nB, nC]
          (with_reducible refine wpList_step ?_); intro K hK; rw [if_pos (by rfl)]; go_simp; (with_reducible refine hK _ _ ?_); clear hK K; try simp only [Act.put, nA, nB, nC]
          (with_reducible refine wpList_step ?_); intro K hK; rw [if_pos (by rfl)]; go_simp; (with_reducible refine hK _ _ ?_); clear hK K; try simp only [Act.put, nA, nB, nC]
          (with_reducible refine wpList_step ?_); intro K hK; rw [if_pos (by rfl)]; go_simp; (with_reducible refine hK _ _ ?_); clear hK K; try simp only [Act.put, nA, nB, nC]
          (with_reducible refine wpList_plain rfl ?_); intro K hK; go_simp; (with_reducible refine hK _ _ ?_); clear hK K; try simp only [Act.put, nA, nB, nC]
          clear y1 y2 d1 t3
          go_wp2_with fail
          exact ⟨⟨_, cnt1, R1', LF1, G1⟩, hms⟩
end Go.Proofs.Ytkngmnfgdlnddaa

