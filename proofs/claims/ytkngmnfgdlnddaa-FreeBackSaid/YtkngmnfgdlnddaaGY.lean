/-
  The walk of FreeBack.
-/
import Derived.Test.YtkngmnfgdlnddaaGX
import Derived.Test.YtkngmnfgdlnddaaGJ
set_option linter.unusedSimpArgs false
set_option linter.unusedVariables false
namespace Go.Proofs.Ytkngmnfgdlnddaa
open Go.RowKit Go.Lib Hw Go.Maps
set_option linter.unusedSimpArgs false
set_option linter.unusedVariables false

theorem wp_appRB (tyS ty : TypeId) (i : TypeInfo) (z : Value) (sz bytes : Nat) (ht : Try.prog.underlying tyS = some (.slice ty)) (hi : Try.prog.info? ty = some i) (hz0 : i.zero = some z) (hz1 : i.size = sz) (hz2 : i.bytes = bytes) (hzs : z.cells.size = sz) (hby : 1 ≤ bytes)
    {o : Oper} {a : Act} {K : Act → World → Prop} {Q : Exit → Act → World → Prop} (W : World) (s y : Operand)
    (ho : o.op = .call { callee := .builtin .append, args := #[s, y], argTypes := #[tyS, tyS] })
    (B : Nat) (v : Value) (n : Nat) (cs : List Value) (hs : a.eval s = v) (hown : OwnR ty sz W B v n cs) (yv : Value) (hy : a.eval y = yv) (m : Nat) (ns : List Value) (hsrc : Src Try.prog sz tyS yv m ns W)
    (hlen : (n + m) * bytes ≤ 140737488355328) (hB : B ≤ W.heap.size)
    (h : ∀ v' w', OwnR ty sz w' B v' (n + m) (cs ++ ns) → ((∃ ad cap, v = .slice ad n cap ∧ v' = .slice ad (n + m) cap ∧ Mod (fun k => v.ownBlock = some k) W w') ∨ (Below W.heap.size W w' ∧ ∀ g, v'.ownBlock = some g → W.heap.size ≤ g)) → K (a.put o.dst v') w') :
    o.wp Try.prog a W K Q := by
  obtain ⟨v', w', hr, h1, h2⟩ := run_appR tyS ty i z sz bytes ht hi hz0 hz1 hz2 hzs hby W B v n cs hown yv m ns o.type hsrc hlen hB
  unfold Oper.wp execOp
  simp only [ho, resolve, invoke, builtin, Sem.run_bind, Sem.run_pure, Result.andThen_ok, List.map_toArray, List.map_cons, List.map_nil, hs, hy, hr]
  exact h v' w' h1 h2
theorem back_grew {wa w6 : World} {L0 Bk n : Nat} {va : Option Addr} {vc2 : Nat} {v' : Value} {o : Obj} (hLB : L0 ≤ Bk) (hne : ∀ g, (Value.slice va n vc2).ownBlock = some g → g ≠ Bk) (hb : wa.heap[Bk]? = some o) (hz : L0 ≤ wa.heap.size) (hlo : ∀ g, (Value.slice va n vc2).ownBlock = some g → L0 ≤ g)
    (hg : (∃ ad cap, Value.slice va n vc2 = .slice ad n cap ∧ v' = .slice ad (n + 1) cap ∧ Mod (fun k => (Value.slice va n vc2).ownBlock = some k) wa w6) ∨ (Below wa.heap.size wa w6 ∧ ∀ g, v'.ownBlock = some g → wa.heap.size ≤ g)) :
    w6.heap[Bk]? = some o ∧ Below L0 wa w6 ∧ (∀ g, v'.ownBlock = some g → g ≠ Bk) ∧ wa.heap.size ≤ w6.heap.size := by
  have hlt := heap_lt hb
  rcases hg with ⟨ad, cap, e1, rfl, m⟩ | ⟨b, h2⟩
  · cases e1
    exact ⟨m.heap hb (fun e => hne Bk e rfl), m.below (fun q hq hs => by have := hlo q hs; omega) hz, fun g hg => hne g (by cases va with | none => exact hg | some x => exact hg), m.size⟩
  · exact ⟨heap_below hb b hlt, b.mono hz, fun g hg e => by have := h2 g hg; omega, b.size⟩
theorem ToldP.belowB {w w' : World} {r : Int ⊕ PlanV} {ad : Option Addr} {n1 c1 : Nat} {ad2 : Option Addr} {n2 c2 op pg : Nat} {k : Int} (h : ToldP w r ad n1 c1 ad2 n2 c2 op pg k) (hb : Below w.heap.size w w') : ToldP w' r ad n1 c1 ad2 n2 c2 op pg k := by
  cases r with
  | inl j => exact h
  | inr p =>
    obtain ⟨h1, h2, h3, h4, h5, h6, h7⟩ := h
    exact ⟨h1, h2, h3, h4, h5, h6.below hb, h7.below hb⟩
set_option maxRecDepth 5000 in
set_option maxHeartbeats 16000000 in
theorem FreeBack_walk (v nv zv : Value) (w : World) (hv : IsFrame v) (hn : IsNeed w nv) (hzv : IsU64 zv) : Calls Try.prog 17 #[v, nv, zv] w fun e w' => e = .returned (.bool true) ∧ Below w.heap.size w w' := by
  obtain ⟨a, b, rfl, ha, hb⟩ := hv
  obtain ⟨ver, rfl, hver⟩ := hzv
  obtain ⟨chv, hdv, rv, cs, held, rel, pages, most, trees, rfl, hch, hhe, hre, hp, hm, ht1, ht2⟩ := hn
  obtain ⟨cad, ccap, hcv, hx1⟩ := hch.1.form
  obtain ⟨had, hcap, hhv, hx2⟩ := hhe.1.form
  obtain ⟨rad, rcap, hrv, hx3⟩ := hre.1.form
  clear hx1 hx2 hx3
  subst hcv hhv hrv
  have HC := Lib.hid hch.1
  have HR := Lib.hid hre.1
  have HH := Lib.hid hhe.1
  clear hch hhe ha hb ht1 hre
  obtain ⟨R, hR⟩ : ∃ R, planF a b cs pages held trees rel most = R := ⟨_, rfl⟩
  have HRR := Lib.hid hR
  clear hR
  obtain ⟨N, hN⟩ : ∃ N, w.heap.size = N := ⟨_, rfl⟩
  have HN := Lib.hid hN
  rw [hN]
  clear hN
  obtain ⟨nc, hnc⟩ : ∃ k, cs.length = k := ⟨_, rfl⟩
  obtain ⟨nr, hnr⟩ : ∃ k, rel.length = k := ⟨_, rfl⟩
  obtain ⟨nh, hnh⟩ : ∃ k, held.length = k := ⟨_, rfl⟩
  have HNC := Lib.hid hnc
  rw [hnc] at HC ⊢
  rw [hnh] at HH ⊢
  rw [hnr] at HR ⊢
  clear hnc hnr hnh
  go_enter Try.func17, Try.ntmps17
  go_upto_region 0 with fail
  with_reducible refine wp_region_list ?_
  refine wpList_boxB rfl _ _ rfl N HN.out #[.int .i64 a, .int .i64 b] rfl ?_
  intro w1 e1 b1 z1
  (try simp only [Act.put, nA, nB, nC])
  obtain ⟨M, hM⟩ : ∃ M, w1.heap.size = M := ⟨_, rfl⟩
  have HM : Hid (M = N + 1) := by show _ = _; rw [← hM]; omega
  refine wpList_boxB rfl _ _ rfl M hM #[.slice cad nc ccap, .int .u32 (pages : Int), .slice had nh hcap, .int .i64 trees, .slice rad nr rcap, .int .u32 (most : Int)] rfl ?_
  intro w2 e2 b2 z2
  (try simp only [Act.put, nA, nB, nC])
  (with_reducible refine wpList_plain rfl ?_); intro K hK; go_simp; (with_reducible refine hK _ _ ?_); clear hK K; try simp only [Act.put, nA, nB, nC]
  have B2 : Hid (Below N w w2) := b1.trans (b2.mono (by have := HM.out; omega))
  have e3 := heap_below e1 b2 (by have := HM.out; omega)
  have Z2 : Hid (M < w2.heap.size) := heap_lt e2
  clear e1 b1 b2 z1 z2 hM
  go_upto_region 1 with fail
  with_reducible refine wp_region_list ?_
  with_reducible refine wpList_plain rfl ?_
  intro K hK
  go_simp
  refine (awake_any w2).mono ?_; rintro e w3 ⟨rfl, b3⟩
  first | with_reducible refine hK _ _ ?_ | refine hK _ _ ?_
  clear hK K
  (try simp only [Act.put, nA, nB, nC])
  (with_reducible refine wpList_plain rfl ?_); intro K hK; go_simp; (with_reducible refine hK _ _ ?_); clear hK K; try simp only [Act.put, nA, nB, nC]
  have B3 : Hid (Below N w w3) := B2.out.trans (b3.mono (by have := HM.out; have := Z2.out; omega))
  have hz3 : M < w3.heap.size := by have := b3.size; have := Z2.out; omega
  have E2 := heap_below e2 b3 Z2.out
  have E3 := heap_below e3 b3 (by have := HM.out; have := Z2.out; omega)
  clear b3 e2 e3 B2 Z2
  have c0 := heap_cell E3 (o := 0)
  have c1 := heap_cell E3 (o := 1)
  have d0 := heap_cell E2 (o := 0)
  have d1 := heap_cell E2 (o := 1)
  have d2 := heap_cell E2 (o := 2)
  have d3 := heap_cell E2 (o := 3)
  have d4 := heap_cell E2 (o := 4)
  have d5 := heap_cell E2 (o := 5)
  have HP : Hid (Calls Try.prog 31 #[.agg #[.int .i64 a, .int .i64 b], .agg #[.slice cad nc ccap, .int .u32 (pages : Int), .slice had nh hcap, .int .i64 trees, .slice rad nr rcap, .int .u32 (most : Int)]] w3 fun e w' => ∃ ad n1 c1 ad2 n2 c2 op pg k, e = .returned (.tuple #[.agg #[.slice ad n1 c1, .slice ad2 n2 c2, .int .i64 ((op : Nat) : Int), .int .u32 ((pg : Nat) : Int)], .int .i64 k]) ∧ ToldP w' R ad n1 c1 ad2 n2 c2 op pg k ∧ Below w3.heap.size w3 w') := by
    have h := Plan_told a b pages most trees _ _ _ cs held rel w3 (HC.out.below (by rw [HN.out]; exact B3.out)) (HH.out.below (by rw [HN.out]; exact B3.out)) (HR.out.below (by rw [HN.out]; exact B3.out)) hp hm ht2
    rw [HRR.out] at h
    exact h
  have F2H := Lib.hid E2
  have F3H := Lib.hid E3
  clear E2 E3
  go_upto_region 3 with fail
  with_reducible refine wp_region_list ?_
  (with_reducible refine wpList_plain rfl ?_); intro K hK; go_simp; (with_reducible refine hK _ _ ?_); clear hK K; try simp only [Act.put, nA, nB, nC]
  (with_reducible refine wpList_plain rfl ?_); intro K hK; go_simp; (with_reducible refine hK _ _ ?_); clear hK K; try simp only [Act.put, nA, nB, nC]
  with_reducible refine wpList_plain rfl ?_
  intro K hK
  go_simp
  refine HP.out.mono ?_; rintro e w5 ⟨ad, n1, k1, ad2, n2, k2, op, pg, k, rfl, told, b5⟩
  first | with_reducible refine hK _ _ ?_ | refine hK _ _ ?_
  clear hK K
  (try simp only [Act.put, nA, nB, nC])
  have TD := Lib.hid told
  have B5 : Hid (Below N w w5) := B3.out.trans (b5.mono (by have := HM.out; omega))
  have F2 := heap_below F2H.out b5 hz3
  have F3 := heap_below F3H.out b5 (by have := HM.out; omega)
  have G2 := Lib.hid F2
  have G3 := Lib.hid F3
  have hz5 : M < w5.heap.size := heap_lt F2
  clear told b5 F2 F3 F2H F3H HP c0 c1 d0 d1 d2 d3 d4 d5 B3 hz3
  (with_reducible refine wpList_plain rfl ?_); intro K hK; go_simp; (with_reducible refine hK _ _ ?_); clear hK K; try simp only [Act.put, nA, nB, nC]
  (with_reducible refine wpList_plain rfl ?_); intro K hK; go_simp; (with_reducible refine hK _ _ ?_); clear hK K; try simp only [Act.put, nA, nB, nC]
  (with_reducible refine wpList_plain rfl ?_); intro K hK; go_simp; (with_reducible refine hK _ _ ?_); clear hK K; try simp only [Act.put, nA, nB, nC]
  obtain ⟨T, hT⟩ : ∃ k, w5.heap.size = k := ⟨_, rfl⟩
  refine wpList_allocB rfl 48 rfl T hT (.agg #[.slice none 0 0, .slice none 0 0, .int .i64 0, .int .u32 0]) (fun _ => by kernel_rfl) ?_
  intro w6 e6 b6 z6
  (try simp only [Act.put, nA, nB, nC])
  refine wpList_storeB rfl 48 _ _ rfl T #[.slice ad n1 k1, .slice ad2 n2 k2, .int .i64 (op : Int), .int .u32 (pg : Int)] rfl rfl 48 _ e6 (by kernel_rfl) rfl (by simp [Value.oneCell']) ?_
  intro w7 e7 m7
  (try simp only [Act.put, nA, nB, nC])
  (with_reducible refine wpList_plain rfl ?_); intro K hK; go_simp; (with_reducible refine hK _ _ ?_); clear hK K; try simp only [Act.put, nA, nB, nC]
  have b7 : Below w5.heap.size w5 w7 := by rw [hT]; exact b6.trans (m7.below (n := T) (fun k hk e => by omega) (by omega))
  have B7 : Hid (Below N w w7) := B5.out.trans (b7.mono (by have := HM.out; omega))
  have F2 := heap_below G2.out b7 hz5
  have F3 := heap_below G3.out b7 (by have := HM.out; omega)
  have G2 := Lib.hid F2
  have G3 := Lib.hid F3
  have hz7 : M < w7.heap.size := heap_lt F2
  have TD := Lib.hid (TD.out.belowB b7)
  have E7 := Lib.hid e7
  have hzT : T < w7.heap.size := heap_lt e7
  clear F2 F3 e6 e7 b6 z6 m7 b7 B5 hT
  have t0 := heap_cell E7.out (o := 0)
  have t1 := heap_cell E7.out (o := 1)
  have t2 := heap_cell E7.out (o := 2)
  have t3 := heap_cell E7.out (o := 3)
  have d0 := heap_cell G2.out (o := 0)
  have d1 := heap_cell G2.out (o := 1)
  have d3 := heap_cell G2.out (o := 3)
  have d5 := heap_cell G2.out (o := 5)
  by_cases hk : k = 0
  case neg =>
    have hk2 : (k != 0) = true := by simpa using hk
    have hz : n1 = 0 ∧ n2 = 0 ∧ op = 0 ∧ pg = 0 := by
      have ht := TD.out
      cases R with
      | inl j => exact ht.2.2
      | inr p => exact absurd ht.1 hk
    obtain ⟨hz1, hz2, hz3, hz4⟩ := hz
    subst hz1 hz2 hz3 hz4
    clear hk
    go_wp2_with fail
    go_ret
    exact ⟨rfl, B7.out⟩
  case pos =>
    subst hk
    by_cases hvv : 1 ≤ ver ∧ ver ≤ 1099511627776
    case neg =>
      have B9 := B7.out
      have HB9 := Lib.hid B9
      clear B9 TD E7 G2 G3
      by_cases hv1 : ver < 1
      · have y0 : decide (ver < 1) = true := by simp; omega
        go_wp2_with fail
        go_ret
        exact ⟨rfl, HB9.out⟩
      · have y0 : decide (ver < 1) = false := by simp; omega
        have y1 : decide (1099511627776 < ver) = true := by simp; omega
        go_wp2_with fail
        go_ret
        exact ⟨rfl, HB9.out⟩
    obtain ⟨hv1, hv2⟩ := hvv
    have HF : Hid (∃ p, planF a b cs pages held trees rel most = .inr p ∧ op = p.opened ∧ pg = p.pages ∧ n1 = p.trees.length ∧ n2 = p.lists.length ∧ URow w7 (.slice ad n1 k1) p.trees ∧ CRow w7 (.slice ad2 n2 k2) p.lists) := by
      have ht := TD.out
      have hr := HRR.out
      cases R with
      | inl j => obtain ⟨h1, h2, _⟩ := ht; exact absurd h1.symm h2
      | inr p =>
        obtain ⟨_, g1, g2, g3, g4, g5, g6⟩ := ht
        exact ⟨p, hr, g3, g4, g1, g2, g5, g6⟩
    obtain ⟨p, hpR, hop, hpg, hn1, hn2, hrT, hrC⟩ := HF.out
    subst hop hpg
    obtain ⟨q1, q2, q3, q4, q5, q6, q7⟩ := lost_plain hpR
    obtain ⟨r1, r2, r3, r4⟩ := lost_facts hpR
    obtain ⟨AF, hAF⟩ : ∃ AF, aftL cs (p.opened : Int) p.lists = AF := ⟨_, rfl⟩
    have s1 : (p.lists.length + cs.length) * 32 ≤ 140737488355328 ∧ ∀ c ∈ p.lists ++ cs, c.2.length * 4 ≤ 140737488355328 := by
      have g1 := (flat_lens (aftL cs (p.opened : Int) p.lists))
      have g2 := flat_lens cs
      have g3 : p.lists.length ≤ (aftL cs (p.opened : Int) p.lists).length := by unfold aftL; rw [List.length_append]; omega
      rw [List.length_append] at r2 r3
      refine ⟨by omega, fun c hc => ?_⟩
      rcases List.mem_append.1 hc with hc | hc
      · have := g1.2 c (by unfold aftL; exact List.mem_append_left _ hc); omega
      · have := g2.2 c hc; omega
    rw [hAF] at q1 q3 q7 r1 r3 r4
    have Q1 := Lib.hid q1
    have Q2 := Lib.hid q2
    have Q3 := Lib.hid q3
    have Q4 := Lib.hid q4
    have Q7 := Lib.hid q7
    have R1 := Lib.hid r1
    have R2 := Lib.hid r2
    have R3 := Lib.hid r3
    have R4 := Lib.hid r4
    have HAF := Lib.hid hAF
    have RT := Lib.hid hrT
    have N1 := Lib.hid hn1
    obtain ⟨pg, hpg⟩ : ∃ k, p.pages = k := ⟨_, rfl⟩
    obtain ⟨op, hop⟩ : ∃ k, p.opened = k := ⟨_, rfl⟩
    have HAA := Lib.hid (After_any (.slice ad2 n2 k2) (.slice cad nc ccap) (.slice ad n1 k1) p.lists cs (op : Int) (pg : Int) w7 hrC (HC.out.below (by rw [HN.out]; exact B7.out)) s1.1 s1.2)
    have hq5 : pages ≤ pg := by omega
    have hq6 : pg ≤ 65536 := by omega
    rw [hop] at HAF hAF
    rw [hpg] at Q3 Q7 R1
    rw [hop, hpg] at E7 t2 t3 ⊢
    rw [hAF] at HAA
    have hopc : op ≤ cs.length := by rw [← hop]; exact (plan_small hpR).2.2.2.2
    have HAE : Hid (AF = p.lists ++ cs.drop op) := by show _ = _; rw [← hAF]; exact aft_eq hopc
    have HRT := Lib.hid (right_of Q7.out)
    have HLAY : Hid (∀ W, Below w7.heap.size w7 W → Calls Try.prog 49 #[.agg #[.int .i64 a, .int .i64 b], .int .u64 (ver : Int), .slice cad nc ccap, .agg #[.slice ad n1 k1, .slice ad2 n2 k2, .int .i64 (op : Int), .int .u32 (pg : Int)]] W fun e w' => ∃ va vc, e = .returned (.tuple #[.slice va n2 vc, .int .i64 0]) ∧ OwnR 97 4 w' W.heap.size (.slice va n2 vc) n2 (pgs (layP a b ver AF n2)) ∧ Below W.heap.size W w') := fun W hb => by
      have h := Lay_ok a b ver (.slice ad2 n2 k2) (.slice cad nc ccap) (.slice ad n1 k1) p.lists cs op pg W (hrC.below hb) ((HC.out.below (by rw [HN.out]; exact B7.out)).below hb) s1.1 s1.2 hv1 hv2 hopc (by omega) (by rw [hAF]; exact Q7) (by
        rw [hAF]
        intro i c hc
        exact (HRT.out.body _ (HRT.out.next (i + 1)) (List.mem_of_getElem? hc)).1)
      rw [hAF, ← hn2] at h
      refine h.mono ?_
      rintro e w' ⟨v, rfl, ho, hb2⟩
      obtain ⟨va, vc, rfl, _⟩ := ho.form
      exact ⟨va, vc, rfl, ho, hb2⟩
    have HN2 : Hid (n2 = p.lists.length) := hn2
    have HRC : Hid (CRow w7 (.slice ad2 n2 k2) p.lists) := hrC
    have HC7 : Hid (CRow w7 (.slice cad nc ccap) cs) := HC.out.below (by rw [HN.out]; exact B7.out)
    have hopn : op ≤ nc := by have := HNC.out; omega
    have hpg2 : pg < 4294967296 := by omega
    have hnc2 : nc ≤ 9223372036854775807 := by obtain ⟨_, _, e, h⟩ := HC7.out.form; have := (Value.slice.inj e).2.1; omega
    have hn22 : n2 ≤ 65536 := by
      have h1 := (chk_len Q7.out).1
      rw [HAE.out, List.length_append] at h1
      omega
    have hncx : (n2 + nc) * 32 ≤ 140737488355328 := by have := s1.1; have := HNC.out; omega
    clear TD HRR HF hpR hn1 hn2 hrT hrC q1 q2 q3 q4 q5 q6 q7 r1 r2 r3 r4 hAF s1 hop hpg HAF Q1 Q2 Q3 Q4 R1 R2 R3 RT N1 hq5 hq6 HC hopc d1 d3 d5
    have y0 : decide (ver < 1) = false := by simp; omega
    have y1 : decide (1099511627776 < ver) = false := by simp; omega
    go_upto_region 6 with fail
    clear y0 y1
    with_reducible refine wp_region_list ?_
    (with_reducible refine wpList_plain rfl ?_); intro K hK; go_simp; (with_reducible refine hK _ _ ?_); clear hK K; try simp only [Act.put, nA, nB, nC]
    (with_reducible refine wpList_plain rfl ?_); intro K hK; go_simp; (with_reducible refine hK _ _ ?_); clear hK K; try simp only [Act.put, nA, nB, nC]
    (with_reducible refine wpList_plain rfl ?_); intro K hK; go_simp; (with_reducible refine hK _ _ ?_); clear hK K; try simp only [Act.put, nA, nB, nC]
    with_reducible refine wpList_plain rfl ?_
    intro K hK
    go_simp
    refine HAA.out.mono ?_; rintro e w8 ⟨v8, rfl, bs8, o8, d8, b8⟩
    first | with_reducible refine hK _ _ ?_ | refine hK _ _ ?_
    clear hK K
    (try simp only [Act.put, nA, nB, nC])
    have hr8 := d8.row o8 R4.out
    obtain ⟨vad, vc, hv8, hx9⟩ := hr8.form
    obtain ⟨vn, hvn⟩ : ∃ k, AF.length = k := ⟨_, rfl⟩
    have HVN := Lib.hid hvn
    rw [hvn] at hv8
    subst hv8
    (with_reducible refine wpList_plain rfl ?_); intro K hK; go_simp; (with_reducible refine hK _ _ ?_); clear hK K; try simp only [Act.put, nA, nB, nC]
    rw [hvn] at hx9
    have HV : Hid (CRow w8 (.slice vad vn vc) AF) := hr8
    have B8 : Hid (Below N w w8) := B7.out.trans (b8.mono (by have := HM.out; omega))
    have E8 := Lib.hid (heap_below E7.out b8 hzT)
    have J8 := Lib.hid (heap_below G2.out b8 hz7)
    have K8 := Lib.hid (heap_below G3.out b8 (by have := HM.out; omega))
    have RC8 : Hid (CRow w8 (.slice ad2 n2 k2) p.lists) := HRC.out.below b8
    have C8 : Hid (CRow w8 (.slice cad nc ccap) cs) := HC7.out.below b8
    have HLY := Lib.hid (HLAY.out w8 b8)
    obtain ⟨L0, hL0⟩ : ∃ k, w8.heap.size = k := ⟨_, rfl⟩
    have HL0 := Lib.hid hL0
    have hTL : T < L0 := by rw [← hL0]; exact heap_lt E8.out
    have hML : M < L0 := by rw [← hL0]; exact heap_lt J8.out
    have hNL : N < L0 := by rw [← hL0]; exact heap_lt K8.out
    rw [hL0] at HLY
    have c0 := heap_cell K8.out (o := 0)
    have c1 := heap_cell K8.out (o := 1)
    have d0 := heap_cell J8.out (o := 0)
    have t0 := heap_cell E8.out (o := 0)
    have t1 := heap_cell E8.out (o := 1)
    have t2 := heap_cell E8.out (o := 2)
    have t3 := heap_cell E8.out (o := 3)
    clear hr8 hvn o8 d8 b8 HAA E7 G2 G3 hz7 hzT B7 HLAY HRC HC7 hL0
    go_upto_region 7 with fail
    with_reducible refine wp_region_list ?_
    (with_reducible refine wpList_plain rfl ?_); intro K hK; go_simp; (with_reducible refine hK _ _ ?_); clear hK K; try simp only [Act.put, nA, nB, nC]
    (with_reducible refine wpList_plain rfl ?_); intro K hK; go_simp; (with_reducible refine hK _ _ ?_); clear hK K; try simp only [Act.put, nA, nB, nC]
    (with_reducible refine wpList_plain rfl ?_); intro K hK; go_simp; (with_reducible refine hK _ _ ?_); clear hK K; try simp only [Act.put, nA, nB, nC]
    (with_reducible refine wpList_plain rfl ?_); intro K hK; go_simp; (with_reducible refine hK _ _ ?_); clear hK K; try simp only [Act.put, nA, nB, nC]
    (with_reducible refine wpList_plain rfl ?_); intro K hK; go_simp; (with_reducible refine hK _ _ ?_); clear hK K; try simp only [Act.put, nA, nB, nC]
    with_reducible refine wpList_plain rfl ?_
    intro K hK
    go_simp
    refine HLY.out.mono ?_; rintro e w9 ⟨lad, lc, rfl, ol, b9⟩
    first | with_reducible refine hK _ _ ?_ | refine hK _ _ ?_
    clear hK K
    (try simp only [Act.put, nA, nB, nC])
    (with_reducible refine wpList_plain rfl ?_); intro K hK; go_simp; (with_reducible refine hK _ _ ?_); clear hK K; try simp only [Act.put, nA, nB, nC]
    (with_reducible refine wpList_plain rfl ?_); intro K hK; go_simp; (with_reducible refine hK _ _ ?_); clear hK K; try simp only [Act.put, nA, nB, nC]
    (with_reducible refine wpList_plain rfl ?_); intro K hK; go_simp; (with_reducible refine hK _ _ ?_); clear hK K; try simp only [Act.put, nA, nB, nC]
    (with_reducible refine wpList_plain rfl ?_); intro K hK; go_simp; (with_reducible refine hK _ _ ?_); clear hK K; try simp only [Act.put, nA, nB, nC]
    (with_reducible refine wpList_plain rfl ?_); intro K hK; go_simp; (with_reducible refine hK _ _ ?_); clear hK K; try simp only [Act.put, nA, nB, nC]
    have B9 : Hid (Below L0 w8 w9) := b9
    have O9 := Lib.hid ol
    have t1 := heap_cell (heap_below E8.out b9 hTL) (o := 1)
    have en : ((n2 : Int) != (n2 : Int)) = false := by simp
    obtain ⟨Bk, hBk⟩ : ∃ k, w9.heap.size = k := ⟨_, rfl⟩
    have hLB : L0 ≤ Bk := by have := b9.size; have := HL0.out; omega
    clear c0 c1 d0 t0 t2 t3 ol b9 HLY
    go_upto_region 10 with fail
    clear en t1
    with_reducible refine wp_region_list ?_
    (with_reducible refine wpList_plain rfl ?_); intro K hK; go_simp; (with_reducible refine hK _ _ ?_); clear hK K; try simp only [Act.put, nA, nB, nC]
    (with_reducible refine wpList_plain rfl ?_); intro K hK; go_simp; (with_reducible refine hK _ _ ?_); clear hK K; try simp only [Act.put, nA, nB, nC]
    refine wpList_boxB rfl _ _ rfl Bk hBk #[.slice lad n2 lc, .int .i64 7] rfl ?_
    intro w10 e10 b10 z10
    (try simp only [Act.put, nA, nB, nC])
    (with_reducible refine wpList_plain rfl ?_); intro K hK; go_simp; (with_reducible refine hK _ _ ?_); clear hK K; try simp only [Act.put, nA, nB, nC]
    have b10' : Below w9.heap.size w9 w10 := by rw [hBk]; exact b10
    have B10 : Hid (Below L0 w8 w10) := B9.out.trans (b10'.mono (by have := B9.out.size; have := HL0.out; omega))
    have O10 := Lib.hid (O9.out.below b10')
    have hlB : ∀ g, (Value.slice lad n2 lc).ownBlock = some g → g ≠ Bk := fun g hg e => by have := (O9.out.lt g hg).2; omega
    have HLB := Lib.hid hlB
    have E10 := Lib.hid e10
    obtain ⟨X, hX⟩ : ∃ k, w10.heap.size = k := ⟨_, rfl⟩
    have HX := Lib.hid hX
    have hBX : Bk < X := by rw [← hX]; exact heap_lt e10
    clear e10 b10 z10 b10' hBk O9 B9 hX hlB
    go_upto_region 12 with fail
    go_loopw [12] (fun iv wr => ∃ (i : Nat), i ≤ n2 ∧ Hid (Below X w10 wr) ∧ iv = .int .i64 (i : Int)) (fun iv _ => n2 - (intOf iv).toNat)
    case atStart => exact ⟨0, Nat.zero_le _, Below.refl _ _, rfl⟩
    case round =>
      obtain ⟨i, hi, HB, rfl⟩ := hrel
      obtain ⟨wA, hwA⟩ : ∃ W, W = wr := ⟨_, rfl⟩
      subst hwA
      have hzA : X ≤ wA.heap.size := by have := HB.out.size; have := HX.out; omega
      have BA : Hid (Below L0 w8 wA) := B10.out.trans (HB.out.mono (by omega))
      by_cases hlt : i < n2
      case pos =>
        have ii : (i : Int) < (n2 : Int) := by omega
        have hix : i < p.lists.length := by have := HN2.out; omega
        have hiA : i < AF.length := by have := HAE.out; rw [this, List.length_append]; omega
        have hxe : AF[i].1 = p.lists[i].1 := by
          have h : AF[i]? = p.lists[i]? := by rw [HAE.out, List.getElem?_append_left hix]
          rw [List.getElem?_eq_getElem hiA, List.getElem?_eq_getElem hix] at h
          rw [Option.some.inj h]
        have hpr : PRow wA (.slice lad n2 lc) (layP a b ver AF n2) := by unfold PRow; rw [layP_len]; exact O10.out.read.below (by rw [HX.out]; exact HB.out)
        obtain ⟨g, o, hga, hgl, hr⟩ := hpr.at (i := i) (by rw [layP_len]; exact hlt)
        have hpe : (layP a b ver AF n2)[i]'(by rw [layP_len]; exact hlt) = ⟨3, AF[i].1, ver, bodyS a b (nextP AF (i + 1)) AF[i].2⟩ := by
          unfold layP
          rw [List.getElem_map, List.getElem_range, pageP_at hiA]
        rw [hpe, hxe] at hr
        obtain ⟨vb, vo, nad, nn, e1, r1, u1, pp1⟩ := (RC8.out.below (by rw [HL0.out]; exact BA.out)).at hix
        obtain ⟨x, hx⟩ : ∃ x, p.lists[i].1 = x := ⟨_, rfl⟩
        rw [hx] at hr r1
        subst hga e1
        have f0 : wA.cell? ⟨g, o + i * 4, none⟩ = some (.int .u8 3) := hr 0 _ rfl
        have f1 : wA.cell? ⟨g, o + i * 4 + 1, none⟩ = some (.int .u32 (x : Int)) := hr 1 _ rfl
        have f2 : wA.cell? ⟨g, o + i * 4 + 2, none⟩ = some (.int .u64 (ver : Int)) := hr 2 _ rfl
        have g0 : wA.cell? ⟨vb, vo + i * 2, none⟩ = some (.int .u32 (x : Int)) := r1 0 _ rfl
        have t1 := heap_cell (heap_below E8.out BA.out hTL) (o := 1)
        have en : ((x : Int) != (x : Int)) = false := by simp
        have ev : ((ver : Int) != (ver : Int)) = false := by simp
        obtain ⟨i9, hi9⟩ : ∃ k9 : Nat, k9 = i + 1 := ⟨_, rfl⟩
        have ew1 : (i : Int) + 1 = (i9 : Int) := by omega
        have ew2 : IntKind.i64.wrap (i9 : Int) = (i9 : Int) := IntWalk.i64_in _ (by omega)
        have hi3 : i9 ≤ n2 := by omega
        have hi4 : n2 - i9 < n2 - i := by omega
        clear hi9 hx hr r1 u1 pp1 hpe hxe hpr hgl hix hiA
        go_upto_region 14 with fail
        go_quiet (fail)
        have bq := below_dN wA nq
        obtain ⟨wq, hwq⟩ : ∃ W, W = wA.drewN nq := ⟨_, rfl⟩
        have BQ : Hid (Below X w10 wq) := by rw [hwq]; exact HB.out.trans (bq.mono hzA)
        rw [← hwq]
        clear bq hwq f0 f1 f2 g0 t1 en ev BA HB
        go_wp2_with fail
        exact ⟨⟨i9, hi3, BQ, rfl⟩, by simp only [intOf, Int.toNat_natCast]; exact hi4⟩
      case neg =>
        have ii : ¬ (i : Int) < (n2 : Int) := by omega
        have OA : Hid (OwnR 97 4 wA L0 (.slice lad n2 lc) n2 (pgs (backP a b ver AF cs n2 op 0))) := by
          rw [backP_zero]
          exact O10.out.below (by rw [HX.out]; exact HB.out)
        have EA := Lib.hid (heap_below E10.out HB.out hBX)
        have t2 := heap_cell (heap_below E8.out BA.out hTL) (o := 2)
        have hBA : Bk < wA.heap.size := by omega
        clear HB hlt O10 E10 hzA
        go_upto_region 17 with fail
        clear t2 ii
        go_loopw [13] (fun iv wr => ∃ (k : Nat) (va : Option Addr) (vc : Nat), op + k ≤ nc ∧ Hid (wr.heap[Bk]? = some (.cells #[.slice va (n2 + k) vc, .int .i64 7] 84 (0, 0))) ∧ Hid (OwnR 97 4 wr L0 (.slice va (n2 + k) vc) (n2 + k) (pgs (backP a b ver AF cs n2 op k))) ∧ Hid (∀ g, (Value.slice va (n2 + k) vc).ownBlock = some g → g ≠ Bk) ∧ Hid (Below L0 w8 wr) ∧ Bk < wr.heap.size ∧ iv = .int .i64 ((op + k : Nat) : Int)) (fun iv _ => nc - (intOf iv).toNat)
        case atStart => exact ⟨0, lad, lc, hopn, EA, OA, HLB, BA, hBA, rfl⟩
        case round =>
          obtain ⟨k, va, vc2, hk, HE, HO, HNE, HB, hzr, rfl⟩ := hrel
          obtain ⟨wB, hwB⟩ : ∃ W, W = wr := ⟨_, rfl⟩
          subst hwB
          clear OA EA BA hBA
          obtain ⟨i, hi⟩ : ∃ i, op + k = i := ⟨_, rfl⟩
          obtain ⟨n, hn⟩ : ∃ n, n2 + k = n := ⟨_, rfl⟩
          rw [hn] at HE HO HNE
          rw [hi] at hk ⊢
          have HI := Lib.hid hi
          have HNN := Lib.hid hn
          have d0 := heap_cell (heap_below J8.out HB.out hML) (o := 0)
          by_cases hlt : i < nc
          case pos =>
            have ii : (i : Int) < (nc : Int) := by omega
            have hix : i < cs.length := by have := HNC.out; omega
            obtain ⟨vb, vo, nad, nn, e1, r1, u1, pp1⟩ := (C8.out.below (by rw [HL0.out]; exact HB.out)).at hix
            obtain ⟨vb8, vo8, x8, y8, e8, r8, u8, p8⟩ := C8.out.at hix
            have hvb : vb < L0 := by
              rw [e1] at e8
              cases e8
              rw [← HL0.out]
              exact World.block_lt_of_cell? w8 ⟨vb, vo + i * 2 + 0, none⟩ (r8 0 _ rfl)
            clear e8 r8 u8 p8
            subst e1
            have hbb : bodyB a b (nextP cs (i + 1)) (cs[i]'hix).2 = true ∧ nextP cs (i + 1) < 4294967296 := by subst hi; exact rest_body HRT.out HAE.out hix
            have hpp : pageP a b 1 cs i = _ := pageP_at hix
            obtain ⟨⟨no, ys⟩, hx0⟩ : ∃ x, cs[i]'hix = x := ⟨_, rfl⟩
            rw [hx0] at r1 u1 pp1 hbb hpp
            simp only at r1 u1 pp1 hbb hpp
            obtain ⟨ny, hny⟩ : ∃ n, ys.length = n := ⟨_, rfl⟩
            rw [hny] at r1 u1
            have f0 : wB.cell? ⟨vb, vo + i * 2, none⟩ = some (.int .u32 (no : Int)) := r1 0 _ rfl
            have f1 : wB.cell? ⟨vb, vo + i * 2 + 1, none⟩ = some (.slice nad ny nn) := r1 1 _ rfl
            obtain ⟨i9, hi9⟩ : ∃ k9 : Nat, k9 = i + 1 := ⟨_, rfl⟩
            rw [← hi9] at hbb hpp
            obtain ⟨nx, hnx⟩ : ∃ x, nextP cs i9 = x := ⟨_, rfl⟩
            rw [hnx] at hbb hpp
            obtain ⟨sb, hsb⟩ : ∃ s, bodyS a b nx ys = s := ⟨_, rfl⟩
            have HBD : Hid (∀ z : Int, z = (nx : Int) → Calls Try.prog 23 #[.agg #[.int .i64 a, .int .i64 b], .int .u32 z, .slice nad ny nn] wB.drew fun e w' => e = .returned (.tuple #[.string sb, .int .i64 0]) ∧ Below wB.drew.heap.size wB.drew w') := fun z hz => by
              subst hz
              have h := Body_any a b nx _ ys wB.drew hbb.2 (u1.below ((Below.refl _ _).drew))
              unfold BodyPost at h
              rw [(body_yes hbb.1).2, hsb] at h
              exact h
            rw [hsb] at hpp
            have T1 : Hid (pgs (backP a b ver AF cs n2 op (k + 1)) = pgs (backP a b ver AF cs n2 op k) ++ [.int .u8 3, .int .u32 (no : Int), .int .u64 1, .string sb]) := by
              show _ = _
              rw [backP_succ, pgs_snoc, hi, hpp]
              rfl
            have HNX := Lib.hid hnx
            have ew1 : (i : Int) + 1 = (i9 : Int) := by omega
            have ew2 : IntKind.i64.wrap (i9 : Int) = (i9 : Int) := IntWalk.i64_in _ (by omega)
            have hi3 : i9 ≤ nc := by omega
            have hi4 : nc - i9 < nc - i := by omega
            have HE9 : Hid (op + (k + 1) = i9) := by show _ = _; omega
            have hsz : (n + 1) * 32 ≤ 140737488355328 := by omega
            have hML2 : M < wB.heap.size := by omega
            have hNL2 : N < wB.heap.size := by omega
            have hvb2 : vb < wB.heap.size := by omega
            have f3 := heap_below K8.out HB.out hNL
            have c0 := heap_cell f3 (o := 0)
            have c1 := heap_cell f3 (o := 1)
            have CB : Hid (CRow wB (.slice (some ⟨vb, vo, none⟩) nc ccap) cs) := C8.out.below (by rw [HL0.out]; exact HB.out)
            clear r1 u1 hny hnx hsb hbb hpp hx0 hix pp1 f3 hlt hi hn
            have key : (∃ g : wB.cell? ⟨vb, vo + i9 * 2, none⟩ = some (.int .u32 (nx : Int)), i9 < nc) ∨ (¬ i9 < nc ∧ nx = 0) := by
              by_cases h9 : i9 < nc
              · have hix9 : i9 < cs.length := by rw [HNC.out]; exact h9
                obtain ⟨b2, o2, na2, nn2, e2, r2, _⟩ := CB.out.at hix9
                obtain ⟨rfl, rfl⟩ : vb = b2 ∧ vo = o2 := by cases e2; exact ⟨rfl, rfl⟩
                have e3 : nx = cs[i9].1 := by rw [← HNX.out]; unfold nextP; rw [List.getElem?_eq_getElem hix9]
                exact .inl ⟨by rw [e3]; exact r2 0 _ rfl, h9⟩
              · refine .inr ⟨h9, ?_⟩
                rw [← HNX.out]
                unfold nextP
                rw [List.getElem?_eq_none (by rw [HNC.out]; omega)]
            clear hi9
            have hjoin : True := trivial
            rcases key with ⟨g0, h9⟩ | ⟨h9, h0⟩
            · have jj : (i9 : Int) < (nc : Int) := by omega
              have HB2 := Lib.hid (HBD.out _ rfl)
              clear h9 HBD CB HNX
              go_upto_region 22 with fail
              clear g0 jj
              refine wp_region_held_drew (S := fun W => W.cell? ⟨N, 0, none⟩ = some (.int .i64 a) ∧ W.cell? ⟨N, 1, none⟩ = some (.int .i64 b) ∧ W.cell? ⟨M, 0, none⟩ = some (.slice (some ⟨vb, vo, none⟩) nc ccap) ∧ W.cell? ⟨vb, vo + i * 2 + 1, none⟩ = some (.slice nad ny nn)) (by kernel_rfl) ⟨c0, c1, d0, f1⟩ (fun hHeld => ?_)
              refine' wpAnyH_take (i := 1) (oi := ⟨some 122, .move (.tmp 14), 27, "outright.go:173", #[], none⟩) rfl (by kernel_rfl) (by kernel_rfl) (by kernel_rfl) (fun _ _ _ h => h) (Or.inl ⟨by rfl, _⟩) (by assumption) _
              rotate_left
              · (intro wS hSw; (try dsimp only at hSw); go_simp; try with_reducible rfl)
              try simp only [Act.put, nA, nB, nC]
              refine' wpAnyH_take (i := 2) (oi := ⟨some 123, .fieldAddr 46 (.tmp 4) 0, 0, "outright.go:173", #[], none⟩) rfl (by kernel_rfl) (by kernel_rfl) (by kernel_rfl) (fun _ _ _ h => h) (Or.inl ⟨by rfl, _⟩) (by assumption) _
              rotate_left
              · (intro wS hSw; (try dsimp only at hSw); go_simp; try with_reducible rfl)
              try simp only [Act.put, nA, nB, nC]
              refine' wpAnyH_take (i := 3) (oi := ⟨some 124, .load 44 (.tmp 123), 44, "outright.go:173", #[⟨2, .data⟩], none⟩) rfl (by kernel_rfl) (by kernel_rfl) (by kernel_rfl) (fun _ _ _ h => h) (Or.inl ⟨by rfl, _⟩) (by assumption) _
              rotate_left
              · (intro wS hSw; (try dsimp only at hSw); go_simp; try with_reducible rfl)
              try simp only [Act.put, nA, nB, nC]
              refine' wpAnyH_take (i := 4) (oi := ⟨some 125, .move (.tmp 13), 3, "outright.go:173", #[], none⟩) rfl (by kernel_rfl) (by kernel_rfl) (by kernel_rfl) (fun _ _ _ h => h) (Or.inl ⟨by rfl, _⟩) (by assumption) _
              rotate_left
              · (intro wS hSw; (try dsimp only at hSw); go_simp; try with_reducible rfl)
              try simp only [Act.put, nA, nB, nC]
              refine' wpAnyH_take (i := 5) (oi := ⟨some 126, .indexAddr 44 (.tmp 124) (.tmp 125), 0, "outright.go:173", #[⟨3, .data⟩, ⟨4, .data⟩], none⟩) rfl (by kernel_rfl) (by kernel_rfl) (by kernel_rfl) (fun _ _ _ h => h) (Or.inl ⟨by rfl, _⟩) (by assumption) _
              rotate_left
              · (intro wS hSw; (try dsimp only at hSw); go_simp; try with_reducible rfl)
              try simp only [Act.put, nA, nB, nC]
              refine' wpAnyH_take (i := 6) (oi := ⟨some 127, .fieldAddr 64 (.tmp 126) 1, 0, "outright.go:173", #[⟨5, .data⟩], none⟩) rfl (by kernel_rfl) (by kernel_rfl) (by kernel_rfl) (fun _ _ _ h => h) (Or.inl ⟨by rfl, _⟩) (by assumption) _
              rotate_left
              · (intro wS hSw; (try dsimp only at hSw); go_simp; try with_reducible rfl)
              try simp only [Act.put, nA, nB, nC]
              refine' wpAnyH_take (i := 0) (oi := ⟨some 121, .load 23 (.tmp 3), 23, "outright.go:173", #[], none⟩) rfl (by kernel_rfl) (by kernel_rfl) (by kernel_rfl) (fun _ _ _ h => h) (Or.inl ⟨by rfl, _⟩) (by assumption) _
              rotate_left
              · (intro wS hSw; (try dsimp only at hSw); go_simp; try with_reducible rfl)
              try simp only [Act.put, nA, nB, nC]
              refine' wpAnyH_take (i := 7) (oi := ⟨some 128, .load 28 (.tmp 127), 28, "outright.go:173", #[⟨6, .data⟩], none⟩) rfl (by kernel_rfl) (by kernel_rfl) (by kernel_rfl) (fun _ _ _ h => h) (Or.inl ⟨by rfl, _⟩) (by assumption) _
              rotate_left
              · (intro wS hSw; (try dsimp only at hSw); go_simp; try with_reducible rfl)
              try simp only [Act.put, nA, nB, nC]
              refine wpAnyH_ready (rs := [8]) (by kernel_rfl) (by simp) ?_
              refine AllReadyH.cons (o := ⟨some 129, .call ⟨.value (.func 23), #[.tmp 121, .tmp 122, .tmp 128], #[23, 27, 28]⟩, 33, "outright.go:173", #[⟨0, .data⟩, ⟨1, .data⟩, ⟨7, .data⟩], none⟩) rfl (fun K hK => ?_) AllReadyH.nil
              go_simp
              (refine HB2.out.mono ?_; rintro e w5 ⟨rfl, b5⟩)
              refine hK.out _ _ ?_ (fun hHeld => ?_)
              · exact ⟨(b5.cell (p := ⟨N, 0, none⟩) hNL2).trans hHeld.1, (b5.cell (p := ⟨N, 1, none⟩) hNL2).trans hHeld.2.1, (b5.cell (p := ⟨M, 0, none⟩) hML2).trans hHeld.2.2.1, (b5.cell (p := ⟨vb, vo + i * 2 + 1, none⟩) hvb2).trans hHeld.2.2.2⟩
              clear hK K
              try simp only [Act.put, nA, nB, nC]
              refine' wpAnyH_take (i := 9) (oi := ⟨some 120, .move (.tmp 129), 33, "outright.go:173", #[⟨8, .data⟩], none⟩) rfl (by kernel_rfl) (by kernel_rfl) (by kernel_rfl) (fun _ _ _ h => h) (Or.inl ⟨by rfl, _⟩) (by assumption) _
              rotate_left
              · (intro wS hSw; (try dsimp only at hSw); go_simp; try with_reducible rfl)
              try simp only [Act.put, nA, nB, nC]
              refine' wpAnyH_take (i := 10) (oi := ⟨some 130, .extract (.tmp 120) 0, 9, "outright.go:173", #[⟨9, .data⟩], none⟩) rfl (by kernel_rfl) (by kernel_rfl) (by kernel_rfl) (fun _ _ _ h => h) (Or.inl ⟨by rfl, _⟩) (by assumption) _
              rotate_left
              · (intro wS hSw; (try dsimp only at hSw); go_simp; try with_reducible rfl)
              try simp only [Act.put, nA, nB, nC]
              refine' wpAnyH_take (i := 11) (oi := { dst := Option.some 131, op := Op.extract (Operand.tmp 120) 1, type := 32, pos := "outright.go:173", after := #[{ on := 9, ground := Ground.data }, { on := 12, ground := Ground.gcOnly Departure.lateStores }], guard := Option.none }) rfl (by kernel_rfl) (by kernel_rfl) (by kernel_rfl) (fun _ _ _ h => h) (Or.inl ⟨by rfl, _⟩) (by assumption) _
              rotate_left
              · (intro wS hSw; (try dsimp only at hSw); go_simp; try with_reducible rfl)
              try simp only [Act.put, nA, nB, nC]
              refine' wpAnyH_take (i := 12) (oi := { dst := Option.some 15, op := Op.assign (Operand.tmp 130), type := 9, pos := "outright.go:173", after := #[{ on := 10, ground := Ground.data }, { on := 8, ground := Ground.chain }, { on := 0, ground := Ground.phase }, { on := 1, ground := Ground.phase }, { on := 2, ground := Ground.phase }, { on := 3, ground := Ground.phase }, { on := 4, ground := Ground.phase }, { on := 5, ground := Ground.phase }, { on := 6, ground := Ground.phase }, { on := 7, ground := Ground.phase }, { on := 8, ground := Ground.phase }, { on := 9, ground := Ground.phase }, { on := 10, ground := Ground.phase }, { on := 11, ground := Ground.textOnly Departure.lateStores }], guard := Option.none }) rfl (by kernel_rfl) (by kernel_rfl) (by kernel_rfl) (fun _ _ _ h => h) (Or.inl ⟨by rfl, _⟩) (by assumption) _
              rotate_left
              · (intro wS hSw; (try dsimp only at hSw); go_simp; try with_reducible rfl)
              try simp only [Act.put, nA, nB, nC]
              refine' wpAnyH_take (i := 13) (oi := ⟨some 16, .assign (.tmp 131), 32, "outright.go:173", #[⟨11, .data⟩, ⟨12, .chain⟩, ⟨0, .phase⟩, ⟨1, .phase⟩, ⟨2, .phase⟩, ⟨3, .phase⟩, ⟨4, .phase⟩, ⟨5, .phase⟩, ⟨6, .phase⟩, ⟨7, .phase⟩, ⟨8, .phase⟩, ⟨9, .phase⟩, ⟨10, .phase⟩, ⟨11, .phase⟩, ⟨12, .phase⟩], none⟩) rfl (by kernel_rfl) (by kernel_rfl) (by kernel_rfl) (fun _ _ _ h => h) (Or.inl ⟨by rfl, _⟩) (by assumption) _
              rotate_left
              · (intro wS hSw; (try dsimp only at hSw); go_simp; try with_reducible rfl)
              try simp only [Act.put, nA, nB, nC]
              refine wpAnyH_done (by kernel_rfl) ?_ _
              have bw5 : Below wB.heap.size wB w5 := (Below.refl _ _).drew.trans b5
              have f5 : w5.cell? ⟨vb, vo + i * 2, none⟩ = some (.int .u32 (no : Int)) := (bw5.cell (p := ⟨vb, vo + i * 2, none⟩) hvb2).trans f0
              have d5 : w5.cell? ⟨M, 0, none⟩ = some (.slice (some ⟨vb, vo, none⟩) nc ccap) := (bw5.cell (p := ⟨M, 0, none⟩) hML2).trans d0
              have EB5 := Lib.hid (heap_below HE.out bw5 hzr)
              have eb := heap_cell EB5.out (o := 0)
              have O5 := Lib.hid (HO.out.below bw5)
              have B5 : Hid (Below L0 w8 w5) := HB.out.trans (bw5.mono (by omega))
              have hz5 : Bk < w5.heap.size := by have := bw5.size; omega
              clear hHeld c0 c1 d0 f1 f0 b5 bw5 HO HB HB2 HE
              go_upto_region 25 with fail
              refine wp_region_held_drew (S := fun W => W.cell? ⟨M, 0, none⟩ = some (.slice (some ⟨vb, vo, none⟩) nc ccap) ∧ W.cell? ⟨vb, vo + i * 2, none⟩ = some (.int .u32 (no : Int))) (by kernel_rfl) ⟨d5, f5⟩ (fun hHeld => ?_)
              refine' wpAnyH_take (i := 0) (oi := ⟨some 134, .move (.tmp 11), 88, "outright.go:177", #[], none⟩) rfl (by kernel_rfl) (by kernel_rfl) (by kernel_rfl) (fun _ _ _ h => h) (Or.inl ⟨by rfl, _⟩) (by assumption) _
              rotate_left
              · (intro wS hSw; (try dsimp only at hSw); go_simp; try with_reducible rfl)
              try simp only [Act.put, nA, nB, nC]
              refine' wpAnyH_take (i := 1) (oi := ⟨some 135, .move (.tmp 11), 88, "outright.go:177", #[], none⟩) rfl (by kernel_rfl) (by kernel_rfl) (by kernel_rfl) (fun _ _ _ h => h) (Or.inl ⟨by rfl, _⟩) (by assumption) _
              rotate_left
              · (intro wS hSw; (try dsimp only at hSw); go_simp; try with_reducible rfl)
              try simp only [Act.put, nA, nB, nC]
              refine' wpAnyH_take (i := 2) (oi := ⟨some 136, .nilCheck (.tmp 135), 0, "outright.go:177", #[⟨1, .data⟩], none⟩) rfl (by kernel_rfl) (by kernel_rfl) (by kernel_rfl) (fun _ _ _ h => h) (Or.inl ⟨by rfl, _⟩) (by assumption) _
              rotate_left
              · (intro wS hSw; (try dsimp only at hSw); go_simp; try with_reducible rfl)
              try simp only [Act.put, nA, nB, nC]
              refine' wpAnyH_take (i := 3) (oi := ⟨some 137, .fieldAddr 84 (.tmp 136) 0, 0, "outright.go:177", #[⟨2, .data⟩], none⟩) rfl (by kernel_rfl) (by kernel_rfl) (by kernel_rfl) (fun _ _ _ h => h) (Or.inl ⟨by rfl, _⟩) (by assumption) _
              rotate_left
              · (intro wS hSw; (try dsimp only at hSw); go_simp; try with_reducible rfl)
              try simp only [Act.put, nA, nB, nC]
              refine' wpAnyH_take (i := 5) (oi := ⟨some 139, .fieldAddr 46 (.tmp 4) 0, 0, "outright.go:177", #[], none⟩) rfl (by kernel_rfl) (by kernel_rfl) (by kernel_rfl) (fun _ _ _ h => h) (Or.inl ⟨by rfl, _⟩) (by assumption) _
              rotate_left
              · (intro wS hSw; (try dsimp only at hSw); go_simp; try with_reducible rfl)
              try simp only [Act.put, nA, nB, nC]
              refine' wpAnyH_take (i := 6) (oi := ⟨some 140, .load 44 (.tmp 139), 44, "outright.go:177", #[⟨5, .data⟩], none⟩) rfl (by kernel_rfl) (by kernel_rfl) (by kernel_rfl) (fun _ _ _ h => h) (Or.inl ⟨by rfl, _⟩) (by assumption) _
              rotate_left
              · (intro wS hSw; (try dsimp only at hSw); go_simp; try with_reducible rfl)
              try simp only [Act.put, nA, nB, nC]
              refine' wpAnyH_take (i := 7) (oi := ⟨some 141, .move (.tmp 13), 3, "outright.go:177", #[], none⟩) rfl (by kernel_rfl) (by kernel_rfl) (by kernel_rfl) (fun _ _ _ h => h) (Or.inl ⟨by rfl, _⟩) (by assumption) _
              rotate_left
              · (intro wS hSw; (try dsimp only at hSw); go_simp; try with_reducible rfl)
              try simp only [Act.put, nA, nB, nC]
              refine' wpAnyH_take (i := 8) (oi := ⟨some 142, .indexAddr 44 (.tmp 140) (.tmp 141), 0, "outright.go:177", #[⟨6, .data⟩, ⟨7, .data⟩], none⟩) rfl (by kernel_rfl) (by kernel_rfl) (by kernel_rfl) (fun _ _ _ h => h) (Or.inl ⟨by rfl, _⟩) (by assumption) _
              rotate_left
              · (intro wS hSw; (try dsimp only at hSw); go_simp; try with_reducible rfl)
              try simp only [Act.put, nA, nB, nC]
              refine' wpAnyH_take (i := 9) (oi := ⟨some 143, .fieldAddr 64 (.tmp 142) 0, 0, "outright.go:177", #[⟨8, .data⟩], none⟩) rfl (by kernel_rfl) (by kernel_rfl) (by kernel_rfl) (fun _ _ _ h => h) (Or.inl ⟨by rfl, _⟩) (by assumption) _
              rotate_left
              · (intro wS hSw; (try dsimp only at hSw); go_simp; try with_reducible rfl)
              try simp only [Act.put, nA, nB, nC]
              refine' wpAnyH_take (i := 10) (oi := ⟨some 144, .load 27 (.tmp 143), 27, "outright.go:177", #[⟨9, .data⟩], none⟩) rfl (by kernel_rfl) (by kernel_rfl) (by kernel_rfl) (fun _ _ _ h => h) (Or.inl ⟨by rfl, _⟩) (by assumption) _
              rotate_left
              · (intro wS hSw; (try dsimp only at hSw); go_simp; try with_reducible rfl)
              try simp only [Act.put, nA, nB, nC]
              refine' wpAnyH_take (i := 11) (oi := ⟨some 145, .move (.tmp 15), 9, "outright.go:177", #[], none⟩) rfl (by kernel_rfl) (by kernel_rfl) (by kernel_rfl) (fun _ _ _ h => h) (Or.inl ⟨by rfl, _⟩) (by assumption) _
              rotate_left
              · (intro wS hSw; (try dsimp only at hSw); go_simp; try with_reducible rfl)
              try simp only [Act.put, nA, nB, nC]
              refine' wpAnyH_take (i := 12) (oi := ⟨some 146, .build 97 #[(0, .const (.int .u8 3)), (1, .tmp 144), (2, .const (.int .u64 1)), (3, .tmp 145)], 97, "outright.go:177", #[⟨10, .data⟩, ⟨11, .data⟩], none⟩) rfl (by kernel_rfl) (by kernel_rfl) (by kernel_rfl) (fun _ _ _ h => h) (Or.inl ⟨by rfl, _⟩) (by assumption) _
              rotate_left
              · (intro wS hSw; (try dsimp only at hSw); go_simp; try with_reducible rfl)
              try simp only [Act.put, nA, nB, nC]
              have ba : ∀ (o : Obj), Below w5.heap.size w5 (w5.alloc o) := fun o => (Below.refl _ _).alloc (Nat.le_refl _) _
              have hM5 : M < w5.heap.size := by omega
              have hv5 : vb < w5.heap.size := by omega
              refine wpAnyH_ready (rs := [4, 13]) (by kernel_rfl) (by simp) ?_
              refine AllReadyH.cons (o := ⟨some 138, .load 82 (.tmp 137), 82, "outright.go:177", #[⟨3, .data⟩], none⟩) rfl (fun K hK => ?_) (AllReadyH.cons (o := ⟨some 147, .buildSlice 82 1 #[(0, .tmp 146)], 82, "outright.go:177", #[⟨12, .data⟩], none⟩) rfl (fun K hK => ?_) AllReadyH.nil)
              · go_simp
                refine hK.out _ _ ?_ (fun hHeld => ?_)
                · exact hHeld
                clear hK K
                (try simp only [Act.put, nA, nB, nC])
                refine wpAnyH_ready (rs := [13]) (by kernel_rfl) (by simp) ?_
                refine AllReadyH.cons (o := ⟨some 147, .buildSlice 82 1 #[(0, .tmp 146)], 82, "outright.go:177", #[⟨12, .data⟩], none⟩) rfl (fun K hK => ?_) AllReadyH.nil
                go_simp
                refine hK.out _ _ ?_ (fun hHeld => ?_)
                · exact ⟨((ba _).cell (p := ⟨M, 0, none⟩) hM5).trans hHeld.1, ((ba _).cell (p := ⟨vb, vo + i * 2, none⟩) hv5).trans hHeld.2⟩
                clear hK K
                try simp only [Act.put, nA, nB, nC]
                obtain ⟨wa, hwa⟩ : ∃ W, (w5.alloc (.cells #[.int .u8 3, .int .u32 (no : Int), .int .u64 1, .string sb] 97)).drew = W := ⟨_, rfl⟩
                have ba' : Below w5.heap.size w5 wa := by rw [← hwa]; exact ((Below.refl _ _).alloc (Nat.le_refl _) _).drew
                have ha : wa.heap[w5.heap.size]? = some (.cells #[.int .u8 3, .int .u32 (no : Int), .int .u64 1, .string sb] 97 (0, 0)) := by rw [← hwa]; exact heap_alloc_new w5 _
                have EBa := Lib.hid (heap_below EB5.out ba' hz5)
                have Oa := O5.out.below ba'
                have hzwa : L0 ≤ wa.heap.size := by have := ba'.size; omega
                rw [hwa] at hHeld ⊢
                obtain ⟨ti, hti, tz0, tz1, tz2⟩ := info_parts info_Pg
                refine wpAnyH_ready (rs := [14]) (by kernel_rfl) (by simp) ?_
                refine AllReadyH.cons (o := ⟨some 148, .call ⟨.builtin .append, #[.tmp 138, .tmp 147], #[82, 82]⟩, 82, "outright.go:177", #[⟨4, .data⟩, ⟨13, .data⟩], none⟩) rfl (fun K hK => ?_) AllReadyH.nil
                refine step_of rfl (wp_appRB 82 97 ti _ 4 32 Try.underlying82 hti tz0 tz1 tz2 rfl (by decide) wa _ _ rfl L0 _ _ _ rfl Oa _ rfl 1 [.int .u8 3, .int .u32 (no : Int), .int .u64 1, .string sb] (src_laid _ _ Try.underlying82 4 wa [.int .u8 3, .int .u32 (no : Int), .int .u64 1, .string sb] rfl (by simp [Value.oneCell']) _ w5.heap.size ha) hsz hzwa ?_); intro v6 w6 o6 g6; obtain ⟨ad6, c6, hv6, hy6⟩ := o6.form; clear hy6; subst hv6; have FB6 := Lib.hid (back_grew hLB HNE.out EBa.out hzwa (fun g hg => (Oa.lt g hg).1) g6)
                refine hK.out _ _ ?_ (fun hHeld => ?_)
                · exact ⟨(FB6.out.2.1.cell (p := ⟨M, 0, none⟩) hML).trans hHeld.1, (FB6.out.2.1.cell (p := ⟨vb, vo + i * 2, none⟩) hvb).trans hHeld.2⟩
                clear hK K
                try simp only [Act.put, nA, nB, nC]
                refine' wpAnyH_take (i := 15) (oi := ⟨some 149, .nilCheck (.tmp 134), 0, "outright.go:177", #[⟨0, .data⟩, ⟨0, .phase⟩, ⟨1, .phase⟩, ⟨2, .phase⟩, ⟨3, .phase⟩, ⟨4, .phase⟩, ⟨5, .phase⟩, ⟨6, .phase⟩, ⟨7, .phase⟩, ⟨8, .phase⟩, ⟨9, .phase⟩, ⟨10, .phase⟩, ⟨11, .phase⟩, ⟨12, .phase⟩, ⟨13, .phase⟩, ⟨14, .phase⟩], none⟩) rfl (by kernel_rfl) (by kernel_rfl) (by kernel_rfl) (fun _ _ _ h => h) (Or.inl ⟨by rfl, _⟩) (by assumption) _
                rotate_left
                · (intro wS hSw; (try dsimp only at hSw); go_simp; try with_reducible rfl)
                try simp only [Act.put, nA, nB, nC]
                refine' wpAnyH_take (i := 16) (oi := ⟨some 150, .fieldAddr 84 (.tmp 149) 0, 0, "outright.go:177", #[⟨15, .data⟩, ⟨0, .phase⟩, ⟨1, .phase⟩, ⟨2, .phase⟩, ⟨3, .phase⟩, ⟨4, .phase⟩, ⟨5, .phase⟩, ⟨6, .phase⟩, ⟨7, .phase⟩, ⟨8, .phase⟩, ⟨9, .phase⟩, ⟨10, .phase⟩, ⟨11, .phase⟩, ⟨12, .phase⟩, ⟨13, .phase⟩, ⟨14, .phase⟩], none⟩) rfl (by kernel_rfl) (by kernel_rfl) (by kernel_rfl) (fun _ _ _ h => h) (Or.inl ⟨by rfl, _⟩) (by assumption) _
                rotate_left
                · (intro wS hSw; (try dsimp only at hSw); go_simp; try with_reducible rfl)
                try simp only [Act.put, nA, nB, nC]
                have co := heap_cell FB6.out.1 (o := 0)
                have cf := heap_free FB6.out.1 0
                have hM6 : M < w6.heap.size := by have := FB6.out.2.2.2; omega
                have hv6 : vb < w6.heap.size := by have := FB6.out.2.2.2; omega
                refine wpAnyH_ready (rs := [17]) (by kernel_rfl) (by simp) ?_
                refine AllReadyH.cons (o := ⟨none, .store 82 (.tmp 150) (.tmp 148), 0, "outright.go:177", #[⟨16, .data⟩, ⟨14, .data⟩, ⟨14, .chain⟩, ⟨0, .phase⟩, ⟨1, .phase⟩, ⟨2, .phase⟩, ⟨3, .phase⟩, ⟨4, .phase⟩, ⟨5, .phase⟩, ⟨6, .phase⟩, ⟨7, .phase⟩, ⟨8, .phase⟩, ⟨9, .phase⟩, ⟨10, .phase⟩, ⟨11, .phase⟩, ⟨12, .phase⟩, ⟨13, .phase⟩, ⟨14, .phase⟩], none⟩) rfl (fun K hK => ?_) AllReadyH.nil
                go_simp
                refine hK.out _ _ ?_ (fun hHeld => ?_)
                · exact ⟨((Mod.set (S := fun q => q = Bk) w6 rfl _).heapc hM6 (by omega)).trans hHeld.1, ((Mod.set (S := fun q => q = Bk) w6 rfl _).heapc hv6 (by omega)).trans hHeld.2⟩
                clear hK K
                try simp only [Act.put, nA, nB, nC]
                refine wpAnyH_done (by kernel_rfl) ?_ _
                obtain ⟨w7, hw7⟩ : ∃ W, w6.setCell ⟨Bk, 0, none⟩ (.slice ad6 (n + 1) c6) = W := ⟨_, rfl⟩
                have m7 : Mod (fun q => q = Bk) w6 w7 := by rw [← hw7]; exact Mod.set (S := fun q => q = Bk) w6 rfl _
                have hn9 : n + 1 = n2 + (k + 1) := by have := HNN.out; omega
                have HE7 : Hid (w7.heap[Bk]? = some (.cells #[.slice ad6 (n2 + (k + 1)) c6, .int .i64 7] 84 (0, 0))) := by rw [← hn9, ← hw7]; exact heap_set FB6.out.1 _
                have HO7 : Hid (OwnR 97 4 w7 L0 (.slice ad6 (n2 + (k + 1)) c6) (n2 + (k + 1)) (pgs (backP a b ver AF cs n2 op (k + 1)))) := by
                  rw [← hn9, T1.out]
                  exact o6.mod m7 (fun q hq e => FB6.out.2.2.1 q hq e)
                have HN7 : Hid (∀ g, (Value.slice ad6 (n2 + (k + 1)) c6).ownBlock = some g → g ≠ Bk) := by rw [← hn9]; exact FB6.out.2.2.1
                have hzw6 : L0 ≤ w6.heap.size := by have := FB6.out.2.2.2; omega
                have HB7 : Hid (Below L0 w8 w7) := B5.out.trans ((ba'.mono (by omega)).trans (FB6.out.2.1.trans (m7.below (fun q hq e => by omega) hzw6)))
                have hz7 : Bk < w7.heap.size := heap_lt HE7.out
                rw [hw7]
                clear hw7 m7 hn9 co cf FB6 o6 g6 Oa ba' ha hwa EBa EB5 eb O5 B5 ba d5 f5 hHeld hti tz0 tz1 tz2 T1 hM6 hv6 hzw6 HNE
                go_wp2_with fail
                exact ⟨⟨k + 1, ad6, c6, by have := HE9.out; omega, HE7, HO7, HN7, HB7, hz7, by rw [HE9.out]⟩, by simp only [intOf, Int.toNat_natCast]; exact hi4⟩
              · go_simp
                refine hK.out _ _ ?_ (fun hHeld => ?_)
                · exact ⟨((ba _).cell (p := ⟨M, 0, none⟩) hM5).trans hHeld.1, ((ba _).cell (p := ⟨vb, vo + i * 2, none⟩) hv5).trans hHeld.2⟩
                clear hK K
                (try simp only [Act.put, nA, nB, nC])
                obtain ⟨wa, hwa⟩ : ∃ W, (w5.alloc (.cells #[.int .u8 3, .int .u32 (no : Int), .int .u64 1, .string sb] 97)).drew = W := ⟨_, rfl⟩
                have ba' : Below w5.heap.size w5 wa := by rw [← hwa]; exact ((Below.refl _ _).alloc (Nat.le_refl _) _).drew
                have ha : wa.heap[w5.heap.size]? = some (.cells #[.int .u8 3, .int .u32 (no : Int), .int .u64 1, .string sb] 97 (0, 0)) := by rw [← hwa]; exact heap_alloc_new w5 _
                have EBa := Lib.hid (heap_below EB5.out ba' hz5)
                have Oa := O5.out.below ba'
                have hzwa : L0 ≤ wa.heap.size := by have := ba'.size; omega
                rw [hwa] at hHeld ⊢
                have eba := heap_cell EBa.out (o := 0)
                refine wpAnyH_ready (rs := [4]) (by kernel_rfl) (by simp) ?_
                refine AllReadyH.cons (o := ⟨some 138, .load 82 (.tmp 137), 82, "outright.go:177", #[⟨3, .data⟩], none⟩) rfl (fun K hK => ?_) AllReadyH.nil
                go_simp
                refine hK.out _ _ ?_ (fun hHeld => ?_)
                · exact hHeld
                clear hK K
                try simp only [Act.put, nA, nB, nC]
                clear eba
                obtain ⟨ti, hti, tz0, tz1, tz2⟩ := info_parts info_Pg
                refine wpAnyH_ready (rs := [14]) (by kernel_rfl) (by simp) ?_
                refine AllReadyH.cons (o := ⟨some 148, .call ⟨.builtin .append, #[.tmp 138, .tmp 147], #[82, 82]⟩, 82, "outright.go:177", #[⟨4, .data⟩, ⟨13, .data⟩], none⟩) rfl (fun K hK => ?_) AllReadyH.nil
                refine step_of rfl (wp_appRB 82 97 ti _ 4 32 Try.underlying82 hti tz0 tz1 tz2 rfl (by decide) wa _ _ rfl L0 _ _ _ rfl Oa _ rfl 1 [.int .u8 3, .int .u32 (no : Int), .int .u64 1, .string sb] (src_laid _ _ Try.underlying82 4 wa [.int .u8 3, .int .u32 (no : Int), .int .u64 1, .string sb] rfl (by simp [Value.oneCell']) _ w5.heap.size ha) hsz hzwa ?_); intro v6 w6 o6 g6; obtain ⟨ad6, c6, hv6, hy6⟩ := o6.form; clear hy6; subst hv6; have FB6 := Lib.hid (back_grew hLB HNE.out EBa.out hzwa (fun g hg => (Oa.lt g hg).1) g6)
                refine hK.out _ _ ?_ (fun hHeld => ?_)
                · exact ⟨(FB6.out.2.1.cell (p := ⟨M, 0, none⟩) hML).trans hHeld.1, (FB6.out.2.1.cell (p := ⟨vb, vo + i * 2, none⟩) hvb).trans hHeld.2⟩
                clear hK K
                try simp only [Act.put, nA, nB, nC]
                refine' wpAnyH_take (i := 15) (oi := ⟨some 149, .nilCheck (.tmp 134), 0, "outright.go:177", #[⟨0, .data⟩, ⟨0, .phase⟩, ⟨1, .phase⟩, ⟨2, .phase⟩, ⟨3, .phase⟩, ⟨4, .phase⟩, ⟨5, .phase⟩, ⟨6, .phase⟩, ⟨7, .phase⟩, ⟨8, .phase⟩, ⟨9, .phase⟩, ⟨10, .phase⟩, ⟨11, .phase⟩, ⟨12, .phase⟩, ⟨13, .phase⟩, ⟨14, .phase⟩], none⟩) rfl (by kernel_rfl) (by kernel_rfl) (by kernel_rfl) (fun _ _ _ h => h) (Or.inl ⟨by rfl, _⟩) (by assumption) _
                rotate_left
                · (intro wS hSw; (try dsimp only at hSw); go_simp; try with_reducible rfl)
                try simp only [Act.put, nA, nB, nC]
                refine' wpAnyH_take (i := 16) (oi := ⟨some 150, .fieldAddr 84 (.tmp 149) 0, 0, "outright.go:177", #[⟨15, .data⟩, ⟨0, .phase⟩, ⟨1, .phase⟩, ⟨2, .phase⟩, ⟨3, .phase⟩, ⟨4, .phase⟩, ⟨5, .phase⟩, ⟨6, .phase⟩, ⟨7, .phase⟩, ⟨8, .phase⟩, ⟨9, .phase⟩, ⟨10, .phase⟩, ⟨11, .phase⟩, ⟨12, .phase⟩, ⟨13, .phase⟩, ⟨14, .phase⟩], none⟩) rfl (by kernel_rfl) (by kernel_rfl) (by kernel_rfl) (fun _ _ _ h => h) (Or.inl ⟨by rfl, _⟩) (by assumption) _
                rotate_left
                · (intro wS hSw; (try dsimp only at hSw); go_simp; try with_reducible rfl)
                try simp only [Act.put, nA, nB, nC]
                have co := heap_cell FB6.out.1 (o := 0)
                have cf := heap_free FB6.out.1 0
                have hM6 : M < w6.heap.size := by have := FB6.out.2.2.2; omega
                have hv6 : vb < w6.heap.size := by have := FB6.out.2.2.2; omega
                refine wpAnyH_ready (rs := [17]) (by kernel_rfl) (by simp) ?_
                refine AllReadyH.cons (o := ⟨none, .store 82 (.tmp 150) (.tmp 148), 0, "outright.go:177", #[⟨16, .data⟩, ⟨14, .data⟩, ⟨14, .chain⟩, ⟨0, .phase⟩, ⟨1, .phase⟩, ⟨2, .phase⟩, ⟨3, .phase⟩, ⟨4, .phase⟩, ⟨5, .phase⟩, ⟨6, .phase⟩, ⟨7, .phase⟩, ⟨8, .phase⟩, ⟨9, .phase⟩, ⟨10, .phase⟩, ⟨11, .phase⟩, ⟨12, .phase⟩, ⟨13, .phase⟩, ⟨14, .phase⟩], none⟩) rfl (fun K hK => ?_) AllReadyH.nil
                go_simp
                refine hK.out _ _ ?_ (fun hHeld => ?_)
                · exact ⟨((Mod.set (S := fun q => q = Bk) w6 rfl _).heapc hM6 (by omega)).trans hHeld.1, ((Mod.set (S := fun q => q = Bk) w6 rfl _).heapc hv6 (by omega)).trans hHeld.2⟩
                clear hK K
                try simp only [Act.put, nA, nB, nC]
                refine wpAnyH_done (by kernel_rfl) ?_ _
                obtain ⟨w7, hw7⟩ : ∃ W, w6.setCell ⟨Bk, 0, none⟩ (.slice ad6 (n + 1) c6) = W := ⟨_, rfl⟩
                have m7 : Mod (fun q => q = Bk) w6 w7 := by rw [← hw7]; exact Mod.set (S := fun q => q = Bk) w6 rfl _
                have hn9 : n + 1 = n2 + (k + 1) := by have := HNN.out; omega
                have HE7 : Hid (w7.heap[Bk]? = some (.cells #[.slice ad6 (n2 + (k + 1)) c6, .int .i64 7] 84 (0, 0))) := by rw [← hn9, ← hw7]; exact heap_set FB6.out.1 _
                have HO7 : Hid (OwnR 97 4 w7 L0 (.slice ad6 (n2 + (k + 1)) c6) (n2 + (k + 1)) (pgs (backP a b ver AF cs n2 op (k + 1)))) := by
                  rw [← hn9, T1.out]
                  exact o6.mod m7 (fun q hq e => FB6.out.2.2.1 q hq e)
                have HN7 : Hid (∀ g, (Value.slice ad6 (n2 + (k + 1)) c6).ownBlock = some g → g ≠ Bk) := by rw [← hn9]; exact FB6.out.2.2.1
                have hzw6 : L0 ≤ w6.heap.size := by have := FB6.out.2.2.2; omega
                have HB7 : Hid (Below L0 w8 w7) := B5.out.trans ((ba'.mono (by omega)).trans (FB6.out.2.1.trans (m7.below (fun q hq e => by omega) hzw6)))
                have hz7 : Bk < w7.heap.size := heap_lt HE7.out
                rw [hw7]
                clear hw7 m7 hn9 co cf FB6 o6 g6 Oa ba' ha hwa EBa EB5 eb O5 B5 ba d5 f5 hHeld hti tz0 tz1 tz2 T1 hM6 hv6 hzw6 HNE
                go_wp2_with fail
                exact ⟨⟨k + 1, ad6, c6, by have := HE9.out; omega, HE7, HO7, HN7, HB7, hz7, by rw [HE9.out]⟩, by simp only [intOf, Int.toNat_natCast]; exact hi4⟩
            · have jj : ¬ (i9 : Int) < (nc : Int) := by omega
              have HB2 := Lib.hid (HBD.out 0 (by rw [h0]; rfl))
              clear h9 HBD CB HNX h0
              go_upto_region 22 with fail
              clear jj
              refine wp_region_held_drew (S := fun W => W.cell? ⟨N, 0, none⟩ = some (.int .i64 a) ∧ W.cell? ⟨N, 1, none⟩ = some (.int .i64 b) ∧ W.cell? ⟨M, 0, none⟩ = some (.slice (some ⟨vb, vo, none⟩) nc ccap) ∧ W.cell? ⟨vb, vo + i * 2 + 1, none⟩ = some (.slice nad ny nn)) (by kernel_rfl) ⟨c0, c1, d0, f1⟩ (fun hHeld => ?_)
              refine' wpAnyH_take (i := 1) (oi := ⟨some 122, .move (.tmp 14), 27, "outright.go:173", #[], none⟩) rfl (by kernel_rfl) (by kernel_rfl) (by kernel_rfl) (fun _ _ _ h => h) (Or.inl ⟨by rfl, _⟩) (by assumption) _
              rotate_left
              · (intro wS hSw; (try dsimp only at hSw); go_simp; try with_reducible rfl)
              try simp only [Act.put, nA, nB, nC]
              refine' wpAnyH_take (i := 2) (oi := ⟨some 123, .fieldAddr 46 (.tmp 4) 0, 0, "outright.go:173", #[], none⟩) rfl (by kernel_rfl) (by kernel_rfl) (by kernel_rfl) (fun _ _ _ h => h) (Or.inl ⟨by rfl, _⟩) (by assumption) _
              rotate_left
              · (intro wS hSw; (try dsimp only at hSw); go_simp; try with_reducible rfl)
              try simp only [Act.put, nA, nB, nC]
              refine' wpAnyH_take (i := 3) (oi := ⟨some 124, .load 44 (.tmp 123), 44, "outright.go:173", #[⟨2, .data⟩], none⟩) rfl (by kernel_rfl) (by kernel_rfl) (by kernel_rfl) (fun _ _ _ h => h) (Or.inl ⟨by rfl, _⟩) (by assumption) _
              rotate_left
              · (intro wS hSw; (try dsimp only at hSw); go_simp; try with_reducible rfl)
              try simp only [Act.put, nA, nB, nC]
              refine' wpAnyH_take (i := 4) (oi := ⟨some 125, .move (.tmp 13), 3, "outright.go:173", #[], none⟩) rfl (by kernel_rfl) (by kernel_rfl) (by kernel_rfl) (fun _ _ _ h => h) (Or.inl ⟨by rfl, _⟩) (by assumption) _
              rotate_left
              · (intro wS hSw; (try dsimp only at hSw); go_simp; try with_reducible rfl)
              try simp only [Act.put, nA, nB, nC]
              refine' wpAnyH_take (i := 5) (oi := ⟨some 126, .indexAddr 44 (.tmp 124) (.tmp 125), 0, "outright.go:173", #[⟨3, .data⟩, ⟨4, .data⟩], none⟩) rfl (by kernel_rfl) (by kernel_rfl) (by kernel_rfl) (fun _ _ _ h => h) (Or.inl ⟨by rfl, _⟩) (by assumption) _
              rotate_left
              · (intro wS hSw; (try dsimp only at hSw); go_simp; try with_reducible rfl)
              try simp only [Act.put, nA, nB, nC]
              refine' wpAnyH_take (i := 6) (oi := ⟨some 127, .fieldAddr 64 (.tmp 126) 1, 0, "outright.go:173", #[⟨5, .data⟩], none⟩) rfl (by kernel_rfl) (by kernel_rfl) (by kernel_rfl) (fun _ _ _ h => h) (Or.inl ⟨by rfl, _⟩) (by assumption) _
              rotate_left
              · (intro wS hSw; (try dsimp only at hSw); go_simp; try with_reducible rfl)
              try simp only [Act.put, nA, nB, nC]
              refine' wpAnyH_take (i := 0) (oi := ⟨some 121, .load 23 (.tmp 3), 23, "outright.go:173", #[], none⟩) rfl (by kernel_rfl) (by kernel_rfl) (by kernel_rfl) (fun _ _ _ h => h) (Or.inl ⟨by rfl, _⟩) (by assumption) _
              rotate_left
              · (intro wS hSw; (try dsimp only at hSw); go_simp; try with_reducible rfl)
              try simp only [Act.put, nA, nB, nC]
              refine' wpAnyH_take (i := 7) (oi := ⟨some 128, .load 28 (.tmp 127), 28, "outright.go:173", #[⟨6, .data⟩], none⟩) rfl (by kernel_rfl) (by kernel_rfl) (by kernel_rfl) (fun _ _ _ h => h) (Or.inl ⟨by rfl, _⟩) (by assumption) _
              rotate_left
              · (intro wS hSw; (try dsimp only at hSw); go_simp; try with_reducible rfl)
              try simp only [Act.put, nA, nB, nC]
              refine wpAnyH_ready (rs := [8]) (by kernel_rfl) (by simp) ?_
              refine AllReadyH.cons (o := ⟨some 129, .call ⟨.value (.func 23), #[.tmp 121, .tmp 122, .tmp 128], #[23, 27, 28]⟩, 33, "outright.go:173", #[⟨0, .data⟩, ⟨1, .data⟩, ⟨7, .data⟩], none⟩) rfl (fun K hK => ?_) AllReadyH.nil
              go_simp
              (refine HB2.out.mono ?_; rintro e w5 ⟨rfl, b5⟩)
              refine hK.out _ _ ?_ (fun hHeld => ?_)
              · exact ⟨(b5.cell (p := ⟨N, 0, none⟩) hNL2).trans hHeld.1, (b5.cell (p := ⟨N, 1, none⟩) hNL2).trans hHeld.2.1, (b5.cell (p := ⟨M, 0, none⟩) hML2).trans hHeld.2.2.1, (b5.cell (p := ⟨vb, vo + i * 2 + 1, none⟩) hvb2).trans hHeld.2.2.2⟩
              clear hK K
              try simp only [Act.put, nA, nB, nC]
              refine' wpAnyH_take (i := 9) (oi := ⟨some 120, .move (.tmp 129), 33, "outright.go:173", #[⟨8, .data⟩], none⟩) rfl (by kernel_rfl) (by kernel_rfl) (by kernel_rfl) (fun _ _ _ h => h) (Or.inl ⟨by rfl, _⟩) (by assumption) _
              rotate_left
              · (intro wS hSw; (try dsimp only at hSw); go_simp; try with_reducible rfl)
              try simp only [Act.put, nA, nB, nC]
              refine' wpAnyH_take (i := 10) (oi := ⟨some 130, .extract (.tmp 120) 0, 9, "outright.go:173", #[⟨9, .data⟩], none⟩) rfl (by kernel_rfl) (by kernel_rfl) (by kernel_rfl) (fun _ _ _ h => h) (Or.inl ⟨by rfl, _⟩) (by assumption) _
              rotate_left
              · (intro wS hSw; (try dsimp only at hSw); go_simp; try with_reducible rfl)
              try simp only [Act.put, nA, nB, nC]
              refine' wpAnyH_take (i := 11) (oi := { dst := Option.some 131, op := Op.extract (Operand.tmp 120) 1, type := 32, pos := "outright.go:173", after := #[{ on := 9, ground := Ground.data }, { on := 12, ground := Ground.gcOnly Departure.lateStores }], guard := Option.none }) rfl (by kernel_rfl) (by kernel_rfl) (by kernel_rfl) (fun _ _ _ h => h) (Or.inl ⟨by rfl, _⟩) (by assumption) _
              rotate_left
              · (intro wS hSw; (try dsimp only at hSw); go_simp; try with_reducible rfl)
              try simp only [Act.put, nA, nB, nC]
              refine' wpAnyH_take (i := 12) (oi := { dst := Option.some 15, op := Op.assign (Operand.tmp 130), type := 9, pos := "outright.go:173", after := #[{ on := 10, ground := Ground.data }, { on := 8, ground := Ground.chain }, { on := 0, ground := Ground.phase }, { on := 1, ground := Ground.phase }, { on := 2, ground := Ground.phase }, { on := 3, ground := Ground.phase }, { on := 4, ground := Ground.phase }, { on := 5, ground := Ground.phase }, { on := 6, ground := Ground.phase }, { on := 7, ground := Ground.phase }, { on := 8, ground := Ground.phase }, { on := 9, ground := Ground.phase }, { on := 10, ground := Ground.phase }, { on := 11, ground := Ground.textOnly Departure.lateStores }], guard := Option.none }) rfl (by kernel_rfl) (by kernel_rfl) (by kernel_rfl) (fun _ _ _ h => h) (Or.inl ⟨by rfl, _⟩) (by assumption) _
              rotate_left
              · (intro wS hSw; (try dsimp only at hSw); go_simp; try with_reducible rfl)
              try simp only [Act.put, nA, nB, nC]
              refine' wpAnyH_take (i := 13) (oi := ⟨some 16, .assign (.tmp 131), 32, "outright.go:173", #[⟨11, .data⟩, ⟨12, .chain⟩, ⟨0, .phase⟩, ⟨1, .phase⟩, ⟨2, .phase⟩, ⟨3, .phase⟩, ⟨4, .phase⟩, ⟨5, .phase⟩, ⟨6, .phase⟩, ⟨7, .phase⟩, ⟨8, .phase⟩, ⟨9, .phase⟩, ⟨10, .phase⟩, ⟨11, .phase⟩, ⟨12, .phase⟩], none⟩) rfl (by kernel_rfl) (by kernel_rfl) (by kernel_rfl) (fun _ _ _ h => h) (Or.inl ⟨by rfl, _⟩) (by assumption) _
              rotate_left
              · (intro wS hSw; (try dsimp only at hSw); go_simp; try with_reducible rfl)
              try simp only [Act.put, nA, nB, nC]
              refine wpAnyH_done (by kernel_rfl) ?_ _
              have bw5 : Below wB.heap.size wB w5 := (Below.refl _ _).drew.trans b5
              have f5 : w5.cell? ⟨vb, vo + i * 2, none⟩ = some (.int .u32 (no : Int)) := (bw5.cell (p := ⟨vb, vo + i * 2, none⟩) hvb2).trans f0
              have d5 : w5.cell? ⟨M, 0, none⟩ = some (.slice (some ⟨vb, vo, none⟩) nc ccap) := (bw5.cell (p := ⟨M, 0, none⟩) hML2).trans d0
              have EB5 := Lib.hid (heap_below HE.out bw5 hzr)
              have eb := heap_cell EB5.out (o := 0)
              have O5 := Lib.hid (HO.out.below bw5)
              have B5 : Hid (Below L0 w8 w5) := HB.out.trans (bw5.mono (by omega))
              have hz5 : Bk < w5.heap.size := by have := bw5.size; omega
              clear hHeld c0 c1 d0 f1 f0 b5 bw5 HO HB HB2 HE
              go_upto_region 25 with fail
              refine wp_region_held_drew (S := fun W => W.cell? ⟨M, 0, none⟩ = some (.slice (some ⟨vb, vo, none⟩) nc ccap) ∧ W.cell? ⟨vb, vo + i * 2, none⟩ = some (.int .u32 (no : Int))) (by kernel_rfl) ⟨d5, f5⟩ (fun hHeld => ?_)
              refine' wpAnyH_take (i := 0) (oi := ⟨some 134, .move (.tmp 11), 88, "outright.go:177", #[], none⟩) rfl (by kernel_rfl) (by kernel_rfl) (by kernel_rfl) (fun _ _ _ h => h) (Or.inl ⟨by rfl, _⟩) (by assumption) _
              rotate_left
              · (intro wS hSw; (try dsimp only at hSw); go_simp; try with_reducible rfl)
              try simp only [Act.put, nA, nB, nC]
              refine' wpAnyH_take (i := 1) (oi := ⟨some 135, .move (.tmp 11), 88, "outright.go:177", #[], none⟩) rfl (by kernel_rfl) (by kernel_rfl) (by kernel_rfl) (fun _ _ _ h => h) (Or.inl ⟨by rfl, _⟩) (by assumption) _
              rotate_left
              · (intro wS hSw; (try dsimp only at hSw); go_simp; try with_reducible rfl)
              try simp only [Act.put, nA, nB, nC]
              refine' wpAnyH_take (i := 2) (oi := ⟨some 136, .nilCheck (.tmp 135), 0, "outright.go:177", #[⟨1, .data⟩], none⟩) rfl (by kernel_rfl) (by kernel_rfl) (by kernel_rfl) (fun _ _ _ h => h) (Or.inl ⟨by rfl, _⟩) (by assumption) _
              rotate_left
              · (intro wS hSw; (try dsimp only at hSw); go_simp; try with_reducible rfl)
              try simp only [Act.put, nA, nB, nC]
              refine' wpAnyH_take (i := 3) (oi := ⟨some 137, .fieldAddr 84 (.tmp 136) 0, 0, "outright.go:177", #[⟨2, .data⟩], none⟩) rfl (by kernel_rfl) (by kernel_rfl) (by kernel_rfl) (fun _ _ _ h => h) (Or.inl ⟨by rfl, _⟩) (by assumption) _
              rotate_left
              · (intro wS hSw; (try dsimp only at hSw); go_simp; try with_reducible rfl)
              try simp only [Act.put, nA, nB, nC]
              refine' wpAnyH_take (i := 5) (oi := ⟨some 139, .fieldAddr 46 (.tmp 4) 0, 0, "outright.go:177", #[], none⟩) rfl (by kernel_rfl) (by kernel_rfl) (by kernel_rfl) (fun _ _ _ h => h) (Or.inl ⟨by rfl, _⟩) (by assumption) _
              rotate_left
              · (intro wS hSw; (try dsimp only at hSw); go_simp; try with_reducible rfl)
              try simp only [Act.put, nA, nB, nC]
              refine' wpAnyH_take (i := 6) (oi := ⟨some 140, .load 44 (.tmp 139), 44, "outright.go:177", #[⟨5, .data⟩], none⟩) rfl (by kernel_rfl) (by kernel_rfl) (by kernel_rfl) (fun _ _ _ h => h) (Or.inl ⟨by rfl, _⟩) (by assumption) _
              rotate_left
              · (intro wS hSw; (try dsimp only at hSw); go_simp; try with_reducible rfl)
              try simp only [Act.put, nA, nB, nC]
              refine' wpAnyH_take (i := 7) (oi := ⟨some 141, .move (.tmp 13), 3, "outright.go:177", #[], none⟩) rfl (by kernel_rfl) (by kernel_rfl) (by kernel_rfl) (fun _ _ _ h => h) (Or.inl ⟨by rfl, _⟩) (by assumption) _
              rotate_left
              · (intro wS hSw; (try dsimp only at hSw); go_simp; try with_reducible rfl)
              try simp only [Act.put, nA, nB, nC]
              refine' wpAnyH_take (i := 8) (oi := ⟨some 142, .indexAddr 44 (.tmp 140) (.tmp 141), 0, "outright.go:177", #[⟨6, .data⟩, ⟨7, .data⟩], none⟩) rfl (by kernel_rfl) (by kernel_rfl) (by kernel_rfl) (fun _ _ _ h => h) (Or.inl ⟨by rfl, _⟩) (by assumption) _
              rotate_left
              · (intro wS hSw; (try dsimp only at hSw); go_simp; try with_reducible rfl)
              try simp only [Act.put, nA, nB, nC]
              refine' wpAnyH_take (i := 9) (oi := ⟨some 143, .fieldAddr 64 (.tmp 142) 0, 0, "outright.go:177", #[⟨8, .data⟩], none⟩) rfl (by kernel_rfl) (by kernel_rfl) (by kernel_rfl) (fun _ _ _ h => h) (Or.inl ⟨by rfl, _⟩) (by assumption) _
              rotate_left
              · (intro wS hSw; (try dsimp only at hSw); go_simp; try with_reducible rfl)
              try simp only [Act.put, nA, nB, nC]
              refine' wpAnyH_take (i := 10) (oi := ⟨some 144, .load 27 (.tmp 143), 27, "outright.go:177", #[⟨9, .data⟩], none⟩) rfl (by kernel_rfl) (by kernel_rfl) (by kernel_rfl) (fun _ _ _ h => h) (Or.inl ⟨by rfl, _⟩) (by assumption) _
              rotate_left
              · (intro wS hSw; (try dsimp only at hSw); go_simp; try with_reducible rfl)
              try simp only [Act.put, nA, nB, nC]
              refine' wpAnyH_take (i := 11) (oi := ⟨some 145, .move (.tmp 15), 9, "outright.go:177", #[], none⟩) rfl (by kernel_rfl) (by kernel_rfl) (by kernel_rfl) (fun _ _ _ h => h) (Or.inl ⟨by rfl, _⟩) (by assumption) _
              rotate_left
              · (intro wS hSw; (try dsimp only at hSw); go_simp; try with_reducible rfl)
              try simp only [Act.put, nA, nB, nC]
              refine' wpAnyH_take (i := 12) (oi := ⟨some 146, .build 97 #[(0, .const (.int .u8 3)), (1, .tmp 144), (2, .const (.int .u64 1)), (3, .tmp 145)], 97, "outright.go:177", #[⟨10, .data⟩, ⟨11, .data⟩], none⟩) rfl (by kernel_rfl) (by kernel_rfl) (by kernel_rfl) (fun _ _ _ h => h) (Or.inl ⟨by rfl, _⟩) (by assumption) _
              rotate_left
              · (intro wS hSw; (try dsimp only at hSw); go_simp; try with_reducible rfl)
              try simp only [Act.put, nA, nB, nC]
              have ba : ∀ (o : Obj), Below w5.heap.size w5 (w5.alloc o) := fun o => (Below.refl _ _).alloc (Nat.le_refl _) _
              have hM5 : M < w5.heap.size := by omega
              have hv5 : vb < w5.heap.size := by omega
              refine wpAnyH_ready (rs := [4, 13]) (by kernel_rfl) (by simp) ?_
              refine AllReadyH.cons (o := ⟨some 138, .load 82 (.tmp 137), 82, "outright.go:177", #[⟨3, .data⟩], none⟩) rfl (fun K hK => ?_) (AllReadyH.cons (o := ⟨some 147, .buildSlice 82 1 #[(0, .tmp 146)], 82, "outright.go:177", #[⟨12, .data⟩], none⟩) rfl (fun K hK => ?_) AllReadyH.nil)
              · go_simp
                refine hK.out _ _ ?_ (fun hHeld => ?_)
                · exact hHeld
                clear hK K
                (try simp only [Act.put, nA, nB, nC])
                refine wpAnyH_ready (rs := [13]) (by kernel_rfl) (by simp) ?_
                refine AllReadyH.cons (o := ⟨some 147, .buildSlice 82 1 #[(0, .tmp 146)], 82, "outright.go:177", #[⟨12, .data⟩], none⟩) rfl (fun K hK => ?_) AllReadyH.nil
                go_simp
                refine hK.out _ _ ?_ (fun hHeld => ?_)
                · exact ⟨((ba _).cell (p := ⟨M, 0, none⟩) hM5).trans hHeld.1, ((ba _).cell (p := ⟨vb, vo + i * 2, none⟩) hv5).trans hHeld.2⟩
                clear hK K
                try simp only [Act.put, nA, nB, nC]
                obtain ⟨wa, hwa⟩ : ∃ W, (w5.alloc (.cells #[.int .u8 3, .int .u32 (no : Int), .int .u64 1, .string sb] 97)).drew = W := ⟨_, rfl⟩
                have ba' : Below w5.heap.size w5 wa := by rw [← hwa]; exact ((Below.refl _ _).alloc (Nat.le_refl _) _).drew
                have ha : wa.heap[w5.heap.size]? = some (.cells #[.int .u8 3, .int .u32 (no : Int), .int .u64 1, .string sb] 97 (0, 0)) := by rw [← hwa]; exact heap_alloc_new w5 _
                have EBa := Lib.hid (heap_below EB5.out ba' hz5)
                have Oa := O5.out.below ba'
                have hzwa : L0 ≤ wa.heap.size := by have := ba'.size; omega
                rw [hwa] at hHeld ⊢
                obtain ⟨ti, hti, tz0, tz1, tz2⟩ := info_parts info_Pg
                refine wpAnyH_ready (rs := [14]) (by kernel_rfl) (by simp) ?_
                refine AllReadyH.cons (o := ⟨some 148, .call ⟨.builtin .append, #[.tmp 138, .tmp 147], #[82, 82]⟩, 82, "outright.go:177", #[⟨4, .data⟩, ⟨13, .data⟩], none⟩) rfl (fun K hK => ?_) AllReadyH.nil
                refine step_of rfl (wp_appRB 82 97 ti _ 4 32 Try.underlying82 hti tz0 tz1 tz2 rfl (by decide) wa _ _ rfl L0 _ _ _ rfl Oa _ rfl 1 [.int .u8 3, .int .u32 (no : Int), .int .u64 1, .string sb] (src_laid _ _ Try.underlying82 4 wa [.int .u8 3, .int .u32 (no : Int), .int .u64 1, .string sb] rfl (by simp [Value.oneCell']) _ w5.heap.size ha) hsz hzwa ?_); intro v6 w6 o6 g6; obtain ⟨ad6, c6, hv6, hy6⟩ := o6.form; clear hy6; subst hv6; have FB6 := Lib.hid (back_grew hLB HNE.out EBa.out hzwa (fun g hg => (Oa.lt g hg).1) g6)
                refine hK.out _ _ ?_ (fun hHeld => ?_)
                · exact ⟨(FB6.out.2.1.cell (p := ⟨M, 0, none⟩) hML).trans hHeld.1, (FB6.out.2.1.cell (p := ⟨vb, vo + i * 2, none⟩) hvb).trans hHeld.2⟩
                clear hK K
                try simp only [Act.put, nA, nB, nC]
                refine' wpAnyH_take (i := 15) (oi := ⟨some 149, .nilCheck (.tmp 134), 0, "outright.go:177", #[⟨0, .data⟩, ⟨0, .phase⟩, ⟨1, .phase⟩, ⟨2, .phase⟩, ⟨3, .phase⟩, ⟨4, .phase⟩, ⟨5, .phase⟩, ⟨6, .phase⟩, ⟨7, .phase⟩, ⟨8, .phase⟩, ⟨9, .phase⟩, ⟨10, .phase⟩, ⟨11, .phase⟩, ⟨12, .phase⟩, ⟨13, .phase⟩, ⟨14, .phase⟩], none⟩) rfl (by kernel_rfl) (by kernel_rfl) (by kernel_rfl) (fun _ _ _ h => h) (Or.inl ⟨by rfl, _⟩) (by assumption) _
                rotate_left
                · (intro wS hSw; (try dsimp only at hSw); go_simp; try with_reducible rfl)
                try simp only [Act.put, nA, nB, nC]
                refine' wpAnyH_take (i := 16) (oi := ⟨some 150, .fieldAddr 84 (.tmp 149) 0, 0, "outright.go:177", #[⟨15, .data⟩, ⟨0, .phase⟩, ⟨1, .phase⟩, ⟨2, .phase⟩, ⟨3, .phase⟩, ⟨4, .phase⟩, ⟨5, .phase⟩, ⟨6, .phase⟩, ⟨7, .phase⟩, ⟨8, .phase⟩, ⟨9, .phase⟩, ⟨10, .phase⟩, ⟨11, .phase⟩, ⟨12, .phase⟩, ⟨13, .phase⟩, ⟨14, .phase⟩], none⟩) rfl (by kernel_rfl) (by kernel_rfl) (by kernel_rfl) (fun _ _ _ h => h) (Or.inl ⟨by rfl, _⟩) (by assumption) _
                rotate_left
                · (intro wS hSw; (try dsimp only at hSw); go_simp; try with_reducible rfl)
                try simp only [Act.put, nA, nB, nC]
                have co := heap_cell FB6.out.1 (o := 0)
                have cf := heap_free FB6.out.1 0
                have hM6 : M < w6.heap.size := by have := FB6.out.2.2.2; omega
                have hv6 : vb < w6.heap.size := by have := FB6.out.2.2.2; omega
                refine wpAnyH_ready (rs := [17]) (by kernel_rfl) (by simp) ?_
                refine AllReadyH.cons (o := ⟨none, .store 82 (.tmp 150) (.tmp 148), 0, "outright.go:177", #[⟨16, .data⟩, ⟨14, .data⟩, ⟨14, .chain⟩, ⟨0, .phase⟩, ⟨1, .phase⟩, ⟨2, .phase⟩, ⟨3, .phase⟩, ⟨4, .phase⟩, ⟨5, .phase⟩, ⟨6, .phase⟩, ⟨7, .phase⟩, ⟨8, .phase⟩, ⟨9, .phase⟩, ⟨10, .phase⟩, ⟨11, .phase⟩, ⟨12, .phase⟩, ⟨13, .phase⟩, ⟨14, .phase⟩], none⟩) rfl (fun K hK => ?_) AllReadyH.nil
                go_simp
                refine hK.out _ _ ?_ (fun hHeld => ?_)
                · exact ⟨((Mod.set (S := fun q => q = Bk) w6 rfl _).heapc hM6 (by omega)).trans hHeld.1, ((Mod.set (S := fun q => q = Bk) w6 rfl _).heapc hv6 (by omega)).trans hHeld.2⟩
                clear hK K
                try simp only [Act.put, nA, nB, nC]
                refine wpAnyH_done (by kernel_rfl) ?_ _
                obtain ⟨w7, hw7⟩ : ∃ W, w6.setCell ⟨Bk, 0, none⟩ (.slice ad6 (n + 1) c6) = W := ⟨_, rfl⟩
                have m7 : Mod (fun q => q = Bk) w6 w7 := by rw [← hw7]; exact Mod.set (S := fun q => q = Bk) w6 rfl _
                have hn9 : n + 1 = n2 + (k + 1) := by have := HNN.out; omega
                have HE7 : Hid (w7.heap[Bk]? = some (.cells #[.slice ad6 (n2 + (k + 1)) c6, .int .i64 7] 84 (0, 0))) := by rw [← hn9, ← hw7]; exact heap_set FB6.out.1 _
                have HO7 : Hid (OwnR 97 4 w7 L0 (.slice ad6 (n2 + (k + 1)) c6) (n2 + (k + 1)) (pgs (backP a b ver AF cs n2 op (k + 1)))) := by
                  rw [← hn9, T1.out]
                  exact o6.mod m7 (fun q hq e => FB6.out.2.2.1 q hq e)
                have HN7 : Hid (∀ g, (Value.slice ad6 (n2 + (k + 1)) c6).ownBlock = some g → g ≠ Bk) := by rw [← hn9]; exact FB6.out.2.2.1
                have hzw6 : L0 ≤ w6.heap.size := by have := FB6.out.2.2.2; omega
                have HB7 : Hid (Below L0 w8 w7) := B5.out.trans ((ba'.mono (by omega)).trans (FB6.out.2.1.trans (m7.below (fun q hq e => by omega) hzw6)))
                have hz7 : Bk < w7.heap.size := heap_lt HE7.out
                rw [hw7]
                clear hw7 m7 hn9 co cf FB6 o6 g6 Oa ba' ha hwa EBa EB5 eb O5 B5 ba d5 f5 hHeld hti tz0 tz1 tz2 T1 hM6 hv6 hzw6 HNE
                go_wp2_with fail
                exact ⟨⟨k + 1, ad6, c6, by have := HE9.out; omega, HE7, HO7, HN7, HB7, hz7, by rw [HE9.out]⟩, by simp only [intOf, Int.toNat_natCast]; exact hi4⟩
              · go_simp
                refine hK.out _ _ ?_ (fun hHeld => ?_)
                · exact ⟨((ba _).cell (p := ⟨M, 0, none⟩) hM5).trans hHeld.1, ((ba _).cell (p := ⟨vb, vo + i * 2, none⟩) hv5).trans hHeld.2⟩
                clear hK K
                (try simp only [Act.put, nA, nB, nC])
                obtain ⟨wa, hwa⟩ : ∃ W, (w5.alloc (.cells #[.int .u8 3, .int .u32 (no : Int), .int .u64 1, .string sb] 97)).drew = W := ⟨_, rfl⟩
                have ba' : Below w5.heap.size w5 wa := by rw [← hwa]; exact ((Below.refl _ _).alloc (Nat.le_refl _) _).drew
                have ha : wa.heap[w5.heap.size]? = some (.cells #[.int .u8 3, .int .u32 (no : Int), .int .u64 1, .string sb] 97 (0, 0)) := by rw [← hwa]; exact heap_alloc_new w5 _
                have EBa := Lib.hid (heap_below EB5.out ba' hz5)
                have Oa := O5.out.below ba'
                have hzwa : L0 ≤ wa.heap.size := by have := ba'.size; omega
                rw [hwa] at hHeld ⊢
                have eba := heap_cell EBa.out (o := 0)
                refine wpAnyH_ready (rs := [4]) (by kernel_rfl) (by simp) ?_
                refine AllReadyH.cons (o := ⟨some 138, .load 82 (.tmp 137), 82, "outright.go:177", #[⟨3, .data⟩], none⟩) rfl (fun K hK => ?_) AllReadyH.nil
                go_simp
                refine hK.out _ _ ?_ (fun hHeld => ?_)
                · exact hHeld
                clear hK K
                try simp only [Act.put, nA, nB, nC]
                clear eba
                obtain ⟨ti, hti, tz0, tz1, tz2⟩ := info_parts info_Pg
                refine wpAnyH_ready (rs := [14]) (by kernel_rfl) (by simp) ?_
                refine AllReadyH.cons (o := ⟨some 148, .call ⟨.builtin .append, #[.tmp 138, .tmp 147], #[82, 82]⟩, 82, "outright.go:177", #[⟨4, .data⟩, ⟨13, .data⟩], none⟩) rfl (fun K hK => ?_) AllReadyH.nil
                refine step_of rfl (wp_appRB 82 97 ti _ 4 32 Try.underlying82 hti tz0 tz1 tz2 rfl (by decide) wa _ _ rfl L0 _ _ _ rfl Oa _ rfl 1 [.int .u8 3, .int .u32 (no : Int), .int .u64 1, .string sb] (src_laid _ _ Try.underlying82 4 wa [.int .u8 3, .int .u32 (no : Int), .int .u64 1, .string sb] rfl (by simp [Value.oneCell']) _ w5.heap.size ha) hsz hzwa ?_); intro v6 w6 o6 g6; obtain ⟨ad6, c6, hv6, hy6⟩ := o6.form; clear hy6; subst hv6; have FB6 := Lib.hid (back_grew hLB HNE.out EBa.out hzwa (fun g hg => (Oa.lt g hg).1) g6)
                refine hK.out _ _ ?_ (fun hHeld => ?_)
                · exact ⟨(FB6.out.2.1.cell (p := ⟨M, 0, none⟩) hML).trans hHeld.1, (FB6.out.2.1.cell (p := ⟨vb, vo + i * 2, none⟩) hvb).trans hHeld.2⟩
                clear hK K
                try simp only [Act.put, nA, nB, nC]
                refine' wpAnyH_take (i := 15) (oi := ⟨some 149, .nilCheck (.tmp 134), 0, "outright.go:177", #[⟨0, .data⟩, ⟨0, .phase⟩, ⟨1, .phase⟩, ⟨2, .phase⟩, ⟨3, .phase⟩, ⟨4, .phase⟩, ⟨5, .phase⟩, ⟨6, .phase⟩, ⟨7, .phase⟩, ⟨8, .phase⟩, ⟨9, .phase⟩, ⟨10, .phase⟩, ⟨11, .phase⟩, ⟨12, .phase⟩, ⟨13, .phase⟩, ⟨14, .phase⟩], none⟩) rfl (by kernel_rfl) (by kernel_rfl) (by kernel_rfl) (fun _ _ _ h => h) (Or.inl ⟨by rfl, _⟩) (by assumption) _
                rotate_left
                · (intro wS hSw; (try dsimp only at hSw); go_simp; try with_reducible rfl)
                try simp only [Act.put, nA, nB, nC]
                refine' wpAnyH_take (i := 16) (oi := ⟨some 150, .fieldAddr 84 (.tmp 149) 0, 0, "outright.go:177", #[⟨15, .data⟩, ⟨0, .phase⟩, ⟨1, .phase⟩, ⟨2, .phase⟩, ⟨3, .phase⟩, ⟨4, .phase⟩, ⟨5, .phase⟩, ⟨6, .phase⟩, ⟨7, .phase⟩, ⟨8, .phase⟩, ⟨9, .phase⟩, ⟨10, .phase⟩, ⟨11, .phase⟩, ⟨12, .phase⟩, ⟨13, .phase⟩, ⟨14, .phase⟩], none⟩) rfl (by kernel_rfl) (by kernel_rfl) (by kernel_rfl) (fun _ _ _ h => h) (Or.inl ⟨by rfl, _⟩) (by assumption) _
                rotate_left
                · (intro wS hSw; (try dsimp only at hSw); go_simp; try with_reducible rfl)
                try simp only [Act.put, nA, nB, nC]
                have co := heap_cell FB6.out.1 (o := 0)
                have cf := heap_free FB6.out.1 0
                have hM6 : M < w6.heap.size := by have := FB6.out.2.2.2; omega
                have hv6 : vb < w6.heap.size := by have := FB6.out.2.2.2; omega
                refine wpAnyH_ready (rs := [17]) (by kernel_rfl) (by simp) ?_
                refine AllReadyH.cons (o := ⟨none, .store 82 (.tmp 150) (.tmp 148), 0, "outright.go:177", #[⟨16, .data⟩, ⟨14, .data⟩, ⟨14, .chain⟩, ⟨0, .phase⟩, ⟨1, .phase⟩, ⟨2, .phase⟩, ⟨3, .phase⟩, ⟨4, .phase⟩, ⟨5, .phase⟩, ⟨6, .phase⟩, ⟨7, .phase⟩, ⟨8, .phase⟩, ⟨9, .phase⟩, ⟨10, .phase⟩, ⟨11, .phase⟩, ⟨12, .phase⟩, ⟨13, .phase⟩, ⟨14, .phase⟩], none⟩) rfl (fun K hK => ?_) AllReadyH.nil
                go_simp
                refine hK.out _ _ ?_ (fun hHeld => ?_)
                · exact ⟨((Mod.set (S := fun q => q = Bk) w6 rfl _).heapc hM6 (by omega)).trans hHeld.1, ((Mod.set (S := fun q => q = Bk) w6 rfl _).heapc hv6 (by omega)).trans hHeld.2⟩
                clear hK K
                try simp only [Act.put, nA, nB, nC]
                refine wpAnyH_done (by kernel_rfl) ?_ _
                obtain ⟨w7, hw7⟩ : ∃ W, w6.setCell ⟨Bk, 0, none⟩ (.slice ad6 (n + 1) c6) = W := ⟨_, rfl⟩
                have m7 : Mod (fun q => q = Bk) w6 w7 := by rw [← hw7]; exact Mod.set (S := fun q => q = Bk) w6 rfl _
                have hn9 : n + 1 = n2 + (k + 1) := by have := HNN.out; omega
                have HE7 : Hid (w7.heap[Bk]? = some (.cells #[.slice ad6 (n2 + (k + 1)) c6, .int .i64 7] 84 (0, 0))) := by rw [← hn9, ← hw7]; exact heap_set FB6.out.1 _
                have HO7 : Hid (OwnR 97 4 w7 L0 (.slice ad6 (n2 + (k + 1)) c6) (n2 + (k + 1)) (pgs (backP a b ver AF cs n2 op (k + 1)))) := by
                  rw [← hn9, T1.out]
                  exact o6.mod m7 (fun q hq e => FB6.out.2.2.1 q hq e)
                have HN7 : Hid (∀ g, (Value.slice ad6 (n2 + (k + 1)) c6).ownBlock = some g → g ≠ Bk) := by rw [← hn9]; exact FB6.out.2.2.1
                have hzw6 : L0 ≤ w6.heap.size := by have := FB6.out.2.2.2; omega
                have HB7 : Hid (Below L0 w8 w7) := B5.out.trans ((ba'.mono (by omega)).trans (FB6.out.2.1.trans (m7.below (fun q hq e => by omega) hzw6)))
                have hz7 : Bk < w7.heap.size := heap_lt HE7.out
                rw [hw7]
                clear hw7 m7 hn9 co cf FB6 o6 g6 Oa ba' ha hwa EBa EB5 eb O5 B5 ba d5 f5 hHeld hti tz0 tz1 tz2 T1 hM6 hv6 hzw6 HNE
                go_wp2_with fail
                exact ⟨⟨k + 1, ad6, c6, by have := HE9.out; omega, HE7, HO7, HN7, HB7, hz7, by rw [HE9.out]⟩, by simp only [intOf, Int.toNat_natCast]; exact hi4⟩
          case neg =>
            have ii : ¬ (i : Int) < (nc : Int) := by omega
            have hkk : k = cs.length - op := by have := HNC.out; omega
            have hol : op ≤ cs.length := by have := HNC.out; omega
            have HPR : Hid (PRow wB (.slice va n vc2) (backP a b ver AF cs n2 op k)) := by
              show PRow _ _ _
              unfold PRow
              rw [backP_len, hn]
              exact HO.out.read
            have HOK : Hid (PgOk (backP a b ver AF cs n2 op k)) := by
              show PgOk _
              rw [hkk, HN2.out]
              exact back_ok HRT.out HAE.out hol
            have hRD : readF a b (backP a b ver AF cs n2 op k) 7 (nextP AF 0) pg = .inr AF := by
              obtain ⟨h1, h2⟩ := back_hp (a := a) (b := b) (ver := ver) HAE.out hol
              rw [hkk, HN2.out]
              exact read_back 7 HRT.out h1 h2
            have hfx := HRT.out.next 0
            obtain ⟨fx, hfx2⟩ : ∃ x, nextP AF 0 = x := ⟨_, rfl⟩
            rw [hfx2] at hRD hfx
            have HREAD : Hid (∀ z : Int, z = (fx : Int) → Calls Try.prog 47 #[.agg #[.int .i64 a, .int .i64 b], .iface 88 (.pointer (some ⟨Bk, 0, none⟩)), .int .u32 z, .int .u32 (pg : Int)] wB (ReadPost (.inr AF) wB)) := fun z hz => by
              subst hz
              have h := RdBook_any a b Bk (.slice va n vc2) _ 7 fx pg wB HE HPR HOK (by decide) (by omega) hpg2
              rw [hRD] at h
              exact h
            have VB : Hid (CRow wB (.slice vad vn vc) AF) := HV.out.below (by rw [HL0.out]; exact HB.out)
            have HFX := Lib.hid hfx2
            have key : (∃ g o, vad = some ⟨g, o, none⟩ ∧ wB.cell? ⟨g, o, none⟩ = some (.int .u32 (fx : Int)) ∧ 0 < vn) ∨ (vn = 0 ∧ fx = 0) := by
              by_cases h9 : 0 < vn
              · have hix9 : 0 < AF.length := by rw [HVN.out]; exact h9
                obtain ⟨b2, o2, na2, nn2, e2, r2, _⟩ := VB.out.at hix9
                have e3 : fx = AF[0].1 := by rw [← HFX.out]; unfold nextP; rw [List.getElem?_eq_getElem hix9]
                have h0 := r2 0 _ rfl
                simp only [Nat.zero_mul, Nat.add_zero] at h0
                exact .inl ⟨b2, o2, e2, by rw [e3]; exact h0, h9⟩
              · refine .inr ⟨by omega, ?_⟩
                rw [← HFX.out]
                unfold nextP
                rw [List.getElem?_eq_none (by rw [HVN.out]; omega)]
            have c0 := heap_cell (heap_below K8.out HB.out hNL) (o := 0)
            have c1 := heap_cell (heap_below K8.out HB.out hNL) (o := 1)
            have t3 := heap_cell (heap_below E8.out HB.out hTL) (o := 3)
            have KB := Lib.hid (heap_below K8.out HB.out hNL)
            have TB2 := Lib.hid (heap_below E8.out HB.out hTL)
            have hNB : N < wB.heap.size := by omega
            have hTB : T < wB.heap.size := by omega
            have BB : Hid (Below N w wB) := B8.out.trans (HB.out.mono (by omega))
            clear hkk hol hRD hfx hfx2 HPR HOK hlt hi hn HO HNE HE HFX
            rcases key with ⟨g, o, hvad, g0, h9⟩ | ⟨h9, h0⟩
            · subst hvad
              have jj : (vn : Int) > 0 := by omega
              have jj2 : decide (0 < vn) = true := by simp; omega
              have HB2 := Lib.hid (HREAD.out _ rfl)
              clear h9 HREAD
              go_upto_region 29 with fail
              clear g0 jj jj2
              with_reducible refine wp_region_list ?_
              (with_reducible refine wpList_plain rfl ?_); intro K hK; go_simp; (with_reducible refine hK _ _ ?_); clear hK K; try simp only [Act.put, nA, nB, nC]
              (with_reducible refine wpList_plain rfl ?_); intro K hK; go_simp; (with_reducible refine hK _ _ ?_); clear hK K; try simp only [Act.put, nA, nB, nC]
              (with_reducible refine wpList_plain rfl ?_); intro K hK; go_simp; (with_reducible refine hK _ _ ?_); clear hK K; try simp only [Act.put, nA, nB, nC]
              (with_reducible refine wpList_plain rfl ?_); intro K hK; go_simp; (with_reducible refine hK _ _ ?_); clear hK K; try simp only [Act.put, nA, nB, nC]
              (with_reducible refine wpList_plain rfl ?_); intro K hK; go_simp; (with_reducible refine hK _ _ ?_); clear hK K; try simp only [Act.put, nA, nB, nC]
              (with_reducible refine wpList_plain rfl ?_); intro K hK; go_simp; (with_reducible refine hK _ _ ?_); clear hK K; try simp only [Act.put, nA, nB, nC]
              with_reducible refine wpList_plain rfl ?_
              intro K hK
              go_simp
              refine HB2.out.mono ?_; rintro e w9 ⟨bR, vR, bsR, rfl, oR, dR⟩
              first | with_reducible refine hK _ _ ?_ | refine hK _ _ ?_
              clear hK K
              (try simp only [Act.put, nA, nB, nC])
              have rr := dR.row oR R4.out
              obtain ⟨xad, xc, hvR, hy9⟩ := rr.form
              rw [HVN.out] at hvR
              subst hvR
              (with_reducible refine wpList_plain rfl ?_); intro K hK; go_simp; (with_reducible refine hK _ _ ?_); clear hK K; try simp only [Act.put, nA, nB, nC]
              (with_reducible refine wpList_plain rfl ?_); intro K hK; go_simp; (with_reducible refine hK _ _ ?_); clear hK K; try simp only [Act.put, nA, nB, nC]
              (with_reducible refine wpList_plain rfl ?_); intro K hK; go_simp; (with_reducible refine hK _ _ ?_); clear hK K; try simp only [Act.put, nA, nB, nC]
              (with_reducible refine wpList_plain rfl ?_); intro K hK; go_simp; (with_reducible refine hK _ _ ?_); clear hK K; try simp only [Act.put, nA, nB, nC]
              (with_reducible refine wpList_plain rfl ?_); intro K hK; go_simp; (with_reducible refine hK _ _ ?_); clear hK K; try simp only [Act.put, nA, nB, nC]
              have RR := Lib.hid rr
              have c0 := heap_cell (heap_below KB.out bR hNB) (o := 0)
              have c1 := heap_cell (heap_below KB.out bR hNB) (o := 1)
              have t3 := heap_cell (heap_below TB2.out bR hTB) (o := 3)
              have V9 := Lib.hid (VB.out.below bR)
              have B9 : Hid (Below N w w9) := BB.out.trans (bR.mono (by omega))
              have hz9 : N ≤ w9.heap.size := by have := bR.size; omega
              have HCK : Hid (Calls Try.prog 39 #[.agg #[.int .i64 a, .int .i64 b], .slice xad vn xc, .int .u32 (pg : Int)] w9 fun e w' => e = .returned (.int .i64 0) ∧ Below w9.heap.size w9 w') := by
                have h := Check_any a b pg _ AF w9 hpg2 RR
                rw [Q7.out] at h
                exact h
              clear hy9 oR dR rr bR HB2 BB VB KB TB2
              go_upto_region 30 with fail
              with_reducible refine wp_region_list ?_
              (with_reducible refine wpList_plain rfl ?_); intro K hK; go_simp; (with_reducible refine hK _ _ ?_); clear hK K; try simp only [Act.put, nA, nB, nC]
              (with_reducible refine wpList_plain rfl ?_); intro K hK; go_simp; (with_reducible refine hK _ _ ?_); clear hK K; try simp only [Act.put, nA, nB, nC]
              (with_reducible refine wpList_plain rfl ?_); intro K hK; go_simp; (with_reducible refine hK _ _ ?_); clear hK K; try simp only [Act.put, nA, nB, nC]
              (with_reducible refine wpList_step ?_); intro K hK; rw [if_pos (by rfl)]; go_simp; (with_reducible refine hK _ _ ?_); clear hK K; try simp only [Act.put, nA, nB, nC]
              (with_reducible refine wpList_step ?_); intro K hK; rw [if_pos (by rfl)]; go_simp; (with_reducible refine hK _ _ ?_); clear hK K; try simp only [Act.put, nA, nB, nC]
              (with_reducible refine wpList_step ?_); intro K hK; rw [if_pos (by rfl)]; go_simp; (with_reducible refine hK _ _ ?_); clear hK K; try simp only [Act.put, nA, nB, nC]
              (with_reducible refine wpList_step ?_); intro K hK; rw [if_pos (by rfl)]; go_simp; (with_reducible refine hK _ _ ?_); clear hK K; try simp only [Act.put, nA, nB, nC]
              with_reducible refine wpList_step ?_
              intro K hK
              rw [if_pos (by rfl)]
              go_simp
              refine HCK.out.mono ?_; rintro e w10b ⟨rfl, bC⟩
              first | with_reducible refine hK _ _ ?_ | refine hK _ _ ?_
              clear hK K
              (try simp only [Act.put, nA, nB, nC])
              (with_reducible refine wpList_step ?_); intro K hK; rw [if_pos (by rfl)]; go_simp; (with_reducible refine hK _ _ ?_); clear hK K; try simp only [Act.put, nA, nB, nC]
              (with_reducible refine wpList_plain rfl ?_); intro K hK; go_simp; (with_reducible refine hK _ _ ?_); clear hK K; try simp only [Act.put, nA, nB, nC]
              (with_reducible refine wpList_plain rfl ?_); intro K hK; go_simp; (with_reducible refine hK _ _ ?_); clear hK K; try simp only [Act.put, nA, nB, nC]
              (with_reducible refine wpList_step ?_); intro K hK; rw [if_pos (by rfl)]; go_simp; (with_reducible refine hK _ _ ?_); clear hK K; try simp only [Act.put, nA, nB, nC]
              (with_reducible refine wpList_step ?_); intro K hK; rw [if_pos (by rfl)]; go_simp; (with_reducible refine hK _ _ ?_); clear hK K; try simp only [Act.put, nA, nB, nC]
              with_reducible refine wpList_step ?_
              intro K hK
              rw [if_pos (by rfl)]
              go_simp
              refine (same_eq _ _ AF w10b (RR.out.below bC) (V9.out.below bC)).mono ?_; rintro e w11 ⟨rfl, bD⟩
              first | with_reducible refine hK _ _ ?_ | refine hK _ _ ?_
              clear hK K
              (try simp only [Act.put, nA, nB, nC])
              (with_reducible refine wpList_plain rfl ?_); intro K hK; go_simp; (with_reducible refine hK _ _ ?_); clear hK K; try simp only [Act.put, nA, nB, nC]
              (with_reducible refine wpList_plain rfl ?_); intro K hK; go_simp; (with_reducible refine hK _ _ ?_); clear hK K; try simp only [Act.put, nA, nB, nC]
              have BE : Hid (Below N w w11) := B9.out.trans ((bC.mono hz9).trans (bD.mono (by have := bC.size; omega)))
              clear bC bD c0 c1 t3
              go_wp2_with fail
              go_ret
              exact ⟨rfl, BE.out⟩
            · have jj : ¬ (vn : Int) > 0 := by omega
              have jj2 : decide (0 < vn) = false := by simp; omega
              have HB2 := Lib.hid (HREAD.out 0 (by rw [h0]; rfl))
              clear h9 HREAD h0
              go_upto_region 29 with fail
              clear jj jj2
              with_reducible refine wp_region_list ?_
              (with_reducible refine wpList_plain rfl ?_); intro K hK; go_simp; (with_reducible refine hK _ _ ?_); clear hK K; try simp only [Act.put, nA, nB, nC]
              (with_reducible refine wpList_plain rfl ?_); intro K hK; go_simp; (with_reducible refine hK _ _ ?_); clear hK K; try simp only [Act.put, nA, nB, nC]
              (with_reducible refine wpList_plain rfl ?_); intro K hK; go_simp; (with_reducible refine hK _ _ ?_); clear hK K; try simp only [Act.put, nA, nB, nC]
              (with_reducible refine wpList_plain rfl ?_); intro K hK; go_simp; (with_reducible refine hK _ _ ?_); clear hK K; try simp only [Act.put, nA, nB, nC]
              (with_reducible refine wpList_plain rfl ?_); intro K hK; go_simp; (with_reducible refine hK _ _ ?_); clear hK K; try simp only [Act.put, nA, nB, nC]
              (with_reducible refine wpList_plain rfl ?_); intro K hK; go_simp; (with_reducible refine hK _ _ ?_); clear hK K; try simp only [Act.put, nA, nB, nC]
              with_reducible refine wpList_plain rfl ?_
              intro K hK
              go_simp
              refine HB2.out.mono ?_; rintro e w9 ⟨bR, vR, bsR, rfl, oR, dR⟩
              first | with_reducible refine hK _ _ ?_ | refine hK _ _ ?_
              clear hK K
              (try simp only [Act.put, nA, nB, nC])
              have rr := dR.row oR R4.out
              obtain ⟨xad, xc, hvR, hy9⟩ := rr.form
              rw [HVN.out] at hvR
              subst hvR
              (with_reducible refine wpList_plain rfl ?_); intro K hK; go_simp; (with_reducible refine hK _ _ ?_); clear hK K; try simp only [Act.put, nA, nB, nC]
              (with_reducible refine wpList_plain rfl ?_); intro K hK; go_simp; (with_reducible refine hK _ _ ?_); clear hK K; try simp only [Act.put, nA, nB, nC]
              (with_reducible refine wpList_plain rfl ?_); intro K hK; go_simp; (with_reducible refine hK _ _ ?_); clear hK K; try simp only [Act.put, nA, nB, nC]
              (with_reducible refine wpList_plain rfl ?_); intro K hK; go_simp; (with_reducible refine hK _ _ ?_); clear hK K; try simp only [Act.put, nA, nB, nC]
              (with_reducible refine wpList_plain rfl ?_); intro K hK; go_simp; (with_reducible refine hK _ _ ?_); clear hK K; try simp only [Act.put, nA, nB, nC]
              have RR := Lib.hid rr
              have c0 := heap_cell (heap_below KB.out bR hNB) (o := 0)
              have c1 := heap_cell (heap_below KB.out bR hNB) (o := 1)
              have t3 := heap_cell (heap_below TB2.out bR hTB) (o := 3)
              have V9 := Lib.hid (VB.out.below bR)
              have B9 : Hid (Below N w w9) := BB.out.trans (bR.mono (by omega))
              have hz9 : N ≤ w9.heap.size := by have := bR.size; omega
              have HCK : Hid (Calls Try.prog 39 #[.agg #[.int .i64 a, .int .i64 b], .slice xad vn xc, .int .u32 (pg : Int)] w9 fun e w' => e = .returned (.int .i64 0) ∧ Below w9.heap.size w9 w') := by
                have h := Check_any a b pg _ AF w9 hpg2 RR
                rw [Q7.out] at h
                exact h
              clear hy9 oR dR rr bR HB2 BB VB KB TB2
              go_upto_region 30 with fail
              with_reducible refine wp_region_list ?_
              (with_reducible refine wpList_plain rfl ?_); intro K hK; go_simp; (with_reducible refine hK _ _ ?_); clear hK K; try simp only [Act.put, nA, nB, nC]
              (with_reducible refine wpList_plain rfl ?_); intro K hK; go_simp; (with_reducible refine hK _ _ ?_); clear hK K; try simp only [Act.put, nA, nB, nC]
              (with_reducible refine wpList_plain rfl ?_); intro K hK; go_simp; (with_reducible refine hK _ _ ?_); clear hK K; try simp only [Act.put, nA, nB, nC]
              (with_reducible refine wpList_step ?_); intro K hK; rw [if_pos (by rfl)]; go_simp; (with_reducible refine hK _ _ ?_); clear hK K; try simp only [Act.put, nA, nB, nC]
              (with_reducible refine wpList_step ?_); intro K hK; rw [if_pos (by rfl)]; go_simp; (with_reducible refine hK _ _ ?_); clear hK K; try simp only [Act.put, nA, nB, nC]
              (with_reducible refine wpList_step ?_); intro K hK; rw [if_pos (by rfl)]; go_simp; (with_reducible refine hK _ _ ?_); clear hK K; try simp only [Act.put, nA, nB, nC]
              (with_reducible refine wpList_step ?_); intro K hK; rw [if_pos (by rfl)]; go_simp; (with_reducible refine hK _ _ ?_); clear hK K; try simp only [Act.put, nA, nB, nC]
              with_reducible refine wpList_step ?_
              intro K hK
              rw [if_pos (by rfl)]
              go_simp
              refine HCK.out.mono ?_; rintro e w10b ⟨rfl, bC⟩
              first | with_reducible refine hK _ _ ?_ | refine hK _ _ ?_
              clear hK K
              (try simp only [Act.put, nA, nB, nC])
              (with_reducible refine wpList_step ?_); intro K hK; rw [if_pos (by rfl)]; go_simp; (with_reducible refine hK _ _ ?_); clear hK K; try simp only [Act.put, nA, nB, nC]
              (with_reducible refine wpList_plain rfl ?_); intro K hK; go_simp; (with_reducible refine hK _ _ ?_); clear hK K; try simp only [Act.put, nA, nB, nC]
              (with_reducible refine wpList_plain rfl ?_); intro K hK; go_simp; (with_reducible refine hK _ _ ?_); clear hK K; try simp only [Act.put, nA, nB, nC]
              (with_reducible refine wpList_step ?_); intro K hK; rw [if_pos (by rfl)]; go_simp; (with_reducible refine hK _ _ ?_); clear hK K; try simp only [Act.put, nA, nB, nC]
              (with_reducible refine wpList_step ?_); intro K hK; rw [if_pos (by rfl)]; go_simp; (with_reducible refine hK _ _ ?_); clear hK K; try simp only [Act.put, nA, nB, nC]
              with_reducible refine wpList_step ?_
              intro K hK
              rw [if_pos (by rfl)]
              go_simp
              refine (same_eq _ _ AF w10b (RR.out.below bC) (V9.out.below bC)).mono ?_; rintro e w11 ⟨rfl, bD⟩
              first | with_reducible refine hK _ _ ?_ | refine hK _ _ ?_
              clear hK K
              (try simp only [Act.put, nA, nB, nC])
              (with_reducible refine wpList_plain rfl ?_); intro K hK; go_simp; (with_reducible refine hK _ _ ?_); clear hK K; try simp only [Act.put, nA, nB, nC]
              (with_reducible refine wpList_plain rfl ?_); intro K hK; go_simp; (with_reducible refine hK _ _ ?_); clear hK K; try simp only [Act.put, nA, nB, nC]
              have BE : Hid (Below N w w11) := B9.out.trans ((bC.mono hz9).trans (bD.mono (by have := bC.size; omega)))
              clear bC bD c0 c1 t3
              go_wp2_with fail
              go_ret
              exact ⟨rfl, BE.out⟩
end Go.Proofs.Ytkngmnfgdlnddaa

