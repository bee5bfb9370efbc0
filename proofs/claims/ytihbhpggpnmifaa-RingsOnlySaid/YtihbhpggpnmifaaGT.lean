/-
  The walk of the document's Climb.
-/
import Derived.Test.YtihbhpggpnmifaaGS
set_option linter.unusedSimpArgs false
set_option linter.unusedVariables false
namespace Go.Proofs.Ytihbhpggpnmifaa
open Go.RowKit Go.Lib Hw
set_option linter.unusedVariables false

theorem results_DTT {fn : Func} {tmps : Array Value} {a b c : Nat} {b2 : Nat} {l : List UInt8} {u e : Value} {w : World} (hr : fn.results = #[.cell a 23, .tmp b, .tmp c]) (ha : tmps.getD a undef = .pointer (some ⟨b2, 0, none⟩)) (hb : tmps.getD b undef = u) (hc : tmps.getD c undef = e) (hl : l.length = 32) (hd : DB w b2 l) :
    (results fn tmps).run Try.prog w = .ok (.tuple #[dv l, u, e]) w := by
  have h1 := hd.load hl
  unfold results
  rw [hr]
  have hb' : tmps[b]?.getD undef = u := by rw [← hb]; simp
  have ha' : tmps[a]?.getD undef = .pointer (some ⟨b2, 0, none⟩) := by rw [← ha]; simp
  have hc' : tmps[c]?.getD undef = e := by rw [← hc]; simp
  simp [ha', hb', hc', h1, asAddr, dv]
theorem wpList_loadRng {ops : Array Oper} {rest : List Oper} {o : Oper} {a : Act} {w : World} {Q : Exit → Act → World → Prop} (hg : o.guard = none) (x : Operand) (ho : o.op = .load 23 x) (b off : Nat) (hx : a.eval x = .pointer (some ⟨b, off, none⟩)) (m : Dg) (hm : m.length = 32) (hd : w.rangeAt b off (m.map bv))
    (h : wpList Try.prog ops Q rest (a.put o.dst (dv m)) w) : wpList Try.prog ops Q (o :: rest) a w := by
  have hml : (m.map bv).length = 32 := by rw [List.length_map, hm]
  exact wpList_load_mid hg 23 x ho b off hx (m.map bv) _ hd Try.underlying23 rfl (info_D.trans (congrArg some hml.symm)) h
/-- what the document's Climb holds ahead of its last region -/
structure RF (w : World) (N : Nat) (W : World) (P : Nat) (D LA : Dg) (sv : Value) (xs : List Dg) : Prop where
  z : DB W (N + 1) zeros32
  d : DB W P D
  la : DB W (N + 2) LA
  own : OwnQ W (N + 3) sv xs
  hb : Below N w W
  hP : N + 3 ≤ P
  lt : ∀ g, sv.ownBlock = some g → g < P
theorem RF.below {w : World} {N : Nat} {W W' : World} {P : Nat} {D LA : Dg} {sv : Value} {xs : List Dg} (h : RF w N W P D LA sv xs) (hb : Below W.heap.size W W') : RF w N W' P D LA sv xs := by
  have hp := heap_lt h.d
  have hs := h.hb.size
  have h1 := h.hP
  exact ⟨heap_below h.z hb (by omega), heap_below h.d hb hp, heap_below h.la hb (by omega), h.own.below hb (fun g hg => by have := h.lt g hg; omega), h.hb.trans (hb.mono (by omega)), h.hP, h.lt⟩
theorem RF.grown {w : World} {N : Nat} {W W' : World} {P : Nat} {D LA : Dg} {sv : Value} {xs : List Dg} (h : RF w N W P D LA sv xs) (hg : W.grownBy W' sv.ownBlock) : DB W' (N + 1) zeros32 ∧ DB W' P D ∧ DB W' (N + 2) LA ∧ Below N w W' := by
  have hp := heap_lt h.d
  have h1 := h.hP
  have hk : ∀ k o, W.heap[k]? = some o → sv.ownBlock ≠ some k → W'.heap[k]? = some o := fun k o hk hn => heap_grown hk hg (fun e => hn e.symm)
  exact ⟨hk _ _ h.z (fun e => by have := (h.own.lt _ e).1; omega), hk _ _ h.d (fun e => by have := h.lt _ e; omega), hk _ _ h.la (fun e => by have := (h.own.lt _ e).1; omega), h.hb.grown hg (by omega) (fun g e => by have := (h.own.lt g e).1; omega)⟩
theorem build_Q (ρ : Operand → Value) (o : Oper) (a b : Operand) (ho : o.op = .build 106 #[(0, a), (1, b)]) (x y : Dg) (hx : x.length = 32) (hy : y.length = 32) (ha : ρ a = dv x) (hb : ρ b = dv y) (w : World) : (execOp ρ o).run Try.prog w = .ok (.value (dv (x ++ y))) w := by
  unfold execOp
  have e : (#[(0, a), (1, b)] : Array (Nat × Operand)).map (fun (i, x) => (i, ρ x)) = #[(0, dv x), (1, dv y)] := by simp [ha, hb]
  simp only [ho, Sem.run_bind]
  rw [e]
  simp only [run_step x y hx hy w, Result.andThen_ok]
  rfl
def RCres (w : World) (r : Dg × List Dg × Bool) (e : Ending) (w' : World) : Prop :=
  ∃ sv, e = .returned (.tuple #[dv r.1, sv, .bool r.2.2]) ∧ OwnQ w' w.heap.size sv r.2.1 ∧ Below w.heap.size w w'
set_option maxHeartbeats 8000000 in
theorem rClimb_any (m : Nat) (h1m : 1 ≤ m) (hm : m ≤ 32) (leaf : Dg) (hl : Hid (leaf.length = 32)) : ∀ (n i : Nat) (v : Value) (t : List Dg) (w : World), Hid (DRow w w.heap.size v t) → i < n → n ≤ 1048576 →
    Calls Try.prog 48 #[.int .i64 (m : Int), .int .i64 (i : Int), .int .i64 (n : Int), dv leaf, v] w (RCres w (rclimb m leaf i n t)) := by
  intro n
  induction n using Nat.strongRecOn with
  | _ n ih =>
    intro i v t w hd hi hn
    have IH := Lib.hid ih
    clear ih
    obtain ⟨R, hR⟩ : ∃ R, rclimb m leaf i n t = R := ⟨_, rfl⟩
    rw [hR]
    have HR := Lib.hid hR
    clear hR
    obtain ⟨hA, ad, c, rfl, hc1, hc2, hrow⟩ := hd.out
    have HA := Lib.hid hA
    have HRow := Lib.hid hrow
    clear hA hrow
    obtain ⟨N, hN⟩ : ∃ N, w.heap.size = N := ⟨_, rfl⟩
    have HN := Lib.hid hN
    obtain ⟨T, hT⟩ : ∃ T, t.length = T := ⟨_, rfl⟩
    rw [hT] at hd hc1 ⊢
    have HT := Lib.hid hT
    go_enter Try.func48, Try.ntmps48
    go_upto_region 0 with fail
    refine wp_region_list ?_
    refine wpList_boxD rfl _ rfl leaf rfl N hN ?_
    intro w0 e0 b0 z0
    (try simp only [Act.put, nA, nB, nC])
    refine wpList_allocD rfl rfl (N + 1) z0 ?_
    intro w1 e1 b1 z1
    (try simp only [Act.put, nA, nB, nC])
    refine wpList_plain rfl (fun K hK => ?_)
    go_simp
    refine hK _ _ ?_
    clear hK K
    (try simp only [Act.put, nA, nB, nC])
    refine wpList_plain rfl (fun K hK => ?_)
    go_simp
    refine hK _ _ ?_
    clear hK K
    (try simp only [Act.put, nA, nB, nC])
    have L1 := Lib.hid (heap_below e0 b1 (by omega))
    have Z1 := Lib.hid e1
    have B1 := Lib.hid (b0.trans (b1.mono (by omega)))
    clear e0 b0 z0 e1 b1 hN
    have el : ((T : Int) == 0) = t.isEmpty := by rw [← hT]; cases t <;> simp <;> omega
    have el2 : (T == 0) = t.isEmpty := by rw [← hT]; cases t <;> simp
    clear hT
    by_cases h1 : n ≤ 1
    case pos =>
      have q1 : decide (n ≤ 1) = true := decide_eq_true h1
      have q2 : decide ((n : Int) ≤ 1) = true := decide_eq_true (by omega)
      have HR2 : Hid (R = (leaf, [], t.isEmpty)) := by
        show _ = _
        rw [← HR.out, rclimb_one m leaf i n t h1]
      obtain ⟨E, hE⟩ : ∃ E, t.isEmpty = E := ⟨_, rfl⟩
      rw [hE] at HR2 el el2
      clear hE
      go_upto_region 2 with fail
      refine wp_region_list ?_
      refine wpList_loadD rfl _ rfl N rfl leaf hl.out L1.out ?_
      (try simp only [Act.put, nA, nB, nC])
      refine wpList_plain rfl (fun K hK => ?_)
      go_simp
      refine hK _ _ ?_
      clear hK K
      (try simp only [Act.put, nA, nB, nC])
      refine wpList_plain rfl (fun K hK => ?_)
      go_simp
      refine hK _ _ ?_
      clear hK K
      (try simp only [Act.put, nA, nB, nC])
      refine wpList_plain rfl (fun K hK => ?_)
      go_simp
      refine hK _ _ ?_
      clear hK K
      (try simp only [Act.put, nA, nB, nC])
      refine wpList_storeD rfl _ _ rfl (N + 1) rfl zeros32 leaf rfl hl.out rfl Z1.out ?_
      intro w2 e2 b2 k2 z2
      (try simp only [Act.put, nA, nB, nC])
      refine wpList_plain rfl (fun K hK => ?_)
      go_simp
      refine hK _ _ ?_
      clear hK K
      (try simp only [Act.put, nA, nB, nC])
      refine wpList_plain rfl (fun K hK => ?_)
      go_simp
      refine hK _ _ ?_
      clear hK K
      (try simp only [Act.put, nA, nB, nC])
      have E2 := Lib.hid e2
      have B2 := Lib.hid (B1.out.trans (b2.mono (by omega)))
      clear e2 b2 k2 z2 el el2
      go_wp2_with fail
      rw [HR2.out]
      refine bodyPost_ret (v := .tuple #[dv leaf, .slice none 0 0, .bool E]) ?_ rfl ⟨_, rfl, OwnQ.nil _ _, by rw [HN.out]; exact B2.out⟩
      exact results_DTT Try.results48 rfl rfl rfl hl.out E2.out
    case neg =>
      have q1 : decide (n ≤ 1) = false := decide_eq_false h1
      have q2 : decide ((n : Int) ≤ 1) = false := decide_eq_false (by omega)
      rcases List.eq_nil_or_concat t with rfl | ⟨r, LA, ht⟩
      case inl =>
        have HR2 : Hid (R = (leaf, [], false)) := by
          show _ = _
          rw [← HR.out, rclimb_nil m leaf i n (by omega)]
        go_upto_region 4 with fail
        refine wp_region_list ?_
        refine wpList_loadD rfl _ rfl N rfl leaf hl.out L1.out ?_
        (try simp only [Act.put, nA, nB, nC])
        refine wpList_storeD rfl _ _ rfl (N + 1) rfl zeros32 leaf rfl hl.out rfl Z1.out ?_
        intro w2 e2 b2 k2 z2
        (try simp only [Act.put, nA, nB, nC])
        refine wpList_plain rfl (fun K hK => ?_)
        go_simp
        refine hK _ _ ?_
        clear hK K
        (try simp only [Act.put, nA, nB, nC])
        refine wpList_plain rfl (fun K hK => ?_)
        go_simp
        refine hK _ _ ?_
        clear hK K
        (try simp only [Act.put, nA, nB, nC])
        have E2 := Lib.hid e2
        have B2 := Lib.hid (B1.out.trans (b2.mono (by omega)))
        clear e2 b2 k2 z2 el el2
        go_wp2_with fail
        rw [HR2.out]
        refine bodyPost_ret (v := .tuple #[dv leaf, .slice none 0 0, .bool false]) ?_ rfl ⟨_, rfl, OwnQ.nil _ _, by rw [HN.out]; exact B2.out⟩
        exact results_DTT Try.results48 rfl rfl rfl hl.out E2.out
      case inr =>
        rw [List.concat_eq_append] at ht
        have hE : t.isEmpty = false := by rw [ht]; simp
        rw [hE] at el el2
        clear hE
        have hs := half_spec (n := n) (by omega)
        obtain ⟨k, hk⟩ : ∃ k, halfN n = k := ⟨_, rfl⟩
        rw [hk] at hs
        obtain ⟨hs1, hs2, hs3⟩ := hs
        have hln : T = r.length + 1 := by rw [← HT.out, ht, List.length_append, List.length_singleton]
        have htl := HT.out
        have hr0 : t.take r.length = r := by rw [ht, List.take_left' rfl]
        have hla : t[r.length]'(by omega) = LA := by subst ht; simp
        have hLAl : Hid (LA.length = 32) := by show _ = _; rw [← hla]; exact HA.out _ (List.getElem_mem _)
        have hd1 : Hid (DRow w1 w1.heap.size (.slice ad T c) t) := (hd.out.low (by rw [HN.out]; exact B1.out) (Nat.le_refl _)).mono B1.out.size
        obtain ⟨_, ad2, c2, e2, _, _, hr2⟩ := hd1.out
        have e3 : ad = ad2 := by simp only [Value.slice.injEq] at e2; exact e2.1
        obtain ⟨b, o, e4, _, hbw, hrng⟩ := hr2 (by omega)
        rw [← e3] at e4
        clear e2 e3 hr2
        subst e4
        have hrl := hrng r.length (by omega)
        rw [hla] at hrl
        have HRl := Lib.hid hrl
        have hd2 : Hid (DRow w1 w1.heap.size (.slice (some ⟨b, o, none⟩) r.length c) r) := by
          have := hd1.out.take r.length (by omega)
          rw [hr0] at this
          exact this
        have hR2 := HR.out
        rw [ht] at hR2
        have HR2 : Hid (rclimb m leaf i n (r ++ [LA]) = R) := hR2
        have HK := Lib.hid hk
        clear hrl hrng hla hd1 hr0 hR2 HR hk ht HA HRow htl
        obtain ⟨x, hx⟩ : ∃ x, r.length = x := ⟨_, rfl⟩
        rw [hx] at hd2 HRl hln
        have HX := Lib.hid hx
        clear hd hx
        have c1 : (T : Int) - 1 = (x : Int) := by omega
        have c2 : IntKind.i64.wrap (x : Int) = (x : Int) := IntWalk.i64_in _ (by omega)
        have c3 : (x : Int) < (T : Int) := by omega
        clear hln
        go_upto_region 5 with fail
        refine wp_region_list ?_
        refine wpList_plain rfl (fun K hK => ?_)
        go_simp
        refine hK _ _ ?_
        clear hK K
        (try simp only [Act.put, nA, nB, nC])
        refine wpList_plain rfl (fun K hK => ?_)
        go_simp
        refine (refHalf_any n _ (by omega) (by omega)).mono ?_; rintro e w2 ⟨rfl, rfl⟩; rw [HK.out]
        refine hK _ _ ?_
        clear hK K
        (try simp only [Act.put, nA, nB, nC])
        refine wpList_plain rfl (fun K hK => ?_)
        go_simp
        refine hK _ _ ?_
        clear hK K
        (try simp only [Act.put, nA, nB, nC])
        go_upto_region 6 with fail
        refine wp_region_list ?_
        refine wpList_plain rfl (fun K hK => ?_)
        go_simp
        refine hK _ _ ?_
        clear hK K
        (try simp only [Act.put, nA, nB, nC])
        refine wpList_plain rfl (fun K hK => ?_)
        go_simp
        refine hK _ _ ?_
        clear hK K
        (try simp only [Act.put, nA, nB, nC])
        refine wpList_plain rfl (fun K hK => ?_)
        go_simp
        refine hK _ _ ?_
        clear hK K
        (try simp only [Act.put, nA, nB, nC])
        refine wpList_plain rfl (fun K hK => ?_)
        go_simp
        refine hK _ _ ?_
        clear hK K
        (try simp only [Act.put, nA, nB, nC])
        refine wpList_plain rfl (fun K hK => ?_)
        go_simp
        refine hK _ _ ?_
        clear hK K
        (try simp only [Act.put, nA, nB, nC])
        set_option maxRecDepth 20000 in
        refine wpList_loadRng rfl _ rfl b (o + x * 32) rfl LA hLAl.out HRl.out ?_
        (try simp only [Act.put, nA, nB, nC])
        refine wpList_allocD rfl rfl (N + 2) z1 ?_
        intro w2 e2 b2 z2
        (try simp only [Act.put, nA, nB, nC])
        refine wpList_storeD rfl _ _ rfl (N + 2) rfl zeros32 LA rfl hLAl.out rfl e2 ?_
        intro w3 e3 b3 k3 z3
        (try simp only [Act.put, nA, nB, nC])
        have b13 : Below (N + 2) w1 w3 := b2.trans b3
        have L3 := Lib.hid (heap_below L1.out b13 (by omega))
        have Z3 := Lib.hid (heap_below Z1.out b13 (by omega))
        have A3 := Lib.hid e3
        have B3 := Lib.hid (B1.out.trans (b13.mono (by omega)))
        rw [z2] at z3
        have hd3 : Hid (DRow w3 w3.heap.size (.slice (some ⟨b, o, none⟩) x c) r) := by
          have := (hd2.out.low (by rw [z1]; exact b13) (Nat.le_refl _)).mono (lim' := w3.heap.size) (by omega)
          exact this
        clear e2 b2 z2 e3 b3 k3 b13 L1 Z1 B1 hd2 HRl z1
        go_upto_region 7 with fail
        go_upto_region 8 with fail
        clear c1 c2 c3 el el2 q1 q2
        by_cases hik : i < k
        case pos =>
          have d1 : decide (i < k) = true := decide_eq_true hik
          have d2 : decide ((i : Int) < (k : Int)) = true := decide_eq_true (by omega)
          have hi9 : i < k := by omega
          have hn9 : k < n := by omega
          obtain ⟨⟨D, xs, ok⟩, hr9⟩ : ∃ y, rclimb m leaf i k r = y := ⟨_, rfl⟩
          have hsh := rclimb_shape m leaf hl.out k i r hd3.out.1
          rw [hr9] at hsh
          obtain ⟨hDl, hX6, hXn⟩ := hsh
          dsimp only at hDl hX6 hXn
          have HDl := Lib.hid hDl
          have HX6 := Lib.hid hX6
          have HR3 : Hid (R = (knotD m D LA, xs ++ [D ++ LA], ok)) := by
            show _ = _
            rw [← HR2.out, rclimb_left m leaf i n r LA (by omega) (by rw [HK.out]; exact hik), HK.out, hr9]
          have HI : Hid (Calls Try.prog 48 #[.int .i64 (m : Int), .int .i64 (i : Int), .int .i64 (k : Int), dv leaf, .slice (some ⟨b, o, none⟩) x c] w3 (RCres w3 (D, xs, ok))) := by
            have h9 := IH.out k hn9 i (.slice (some ⟨b, o, none⟩) x c) r w3 hd3 hi9 (by omega)
            rw [hr9] at h9
            exact h9
          clear hr9 hDl hX6 IH hd3 HR2
          go_upto_region 9 with fail
          clear d1 d2
          refine wp_region_list ?_
          refine wpList_plain rfl (fun K hK => ?_)
          go_simp
          refine hK _ _ ?_
          clear hK K
          (try simp only [Act.put, nA, nB, nC])
          refine wpList_plain rfl (fun K hK => ?_)
          go_simp
          refine hK _ _ ?_
          clear hK K
          (try simp only [Act.put, nA, nB, nC])
          refine wpList_plain rfl (fun K hK => ?_)
          go_simp
          refine hK _ _ ?_
          clear hK K
          (try simp only [Act.put, nA, nB, nC])
          refine wpList_loadD rfl _ rfl N rfl leaf hl.out L3.out ?_
          (try simp only [Act.put, nA, nB, nC])
          refine wpList_plain rfl (fun K hK => ?_)
          go_simp
          refine hK _ _ ?_
          clear hK K
          (try simp only [Act.put, nA, nB, nC])
          refine wpList_plain rfl (fun K hK => ?_)
          go_simp
          refine HI.out.mono ?_; rintro e w4 ⟨sv, rfl, ho, hb4⟩; dsimp only at ho ⊢
          refine hK _ _ ?_
          clear hK K
          (try simp only [Act.put, nA, nB, nC])
          have z4 := hb4.size
          rw [z3] at ho hb4 z4
          have O4 := Lib.hid ho
          have Z4 := Lib.hid (heap_below Z3.out hb4 (by omega))
          have A4 := Lib.hid (heap_below A3.out hb4 (by omega))
          have B4 := Lib.hid (B3.out.trans (hb4.mono (by omega)))
          obtain ⟨ad9, cap9, hsv⟩ := ho.shape
          subst hsv
          clear ho hb4 HI L3 Z3 A3 B3
          refine wpList_plain rfl (fun K hK => ?_)
          go_simp
          refine hK _ _ ?_
          clear hK K
          (try simp only [Act.put, nA, nB, nC])
          refine wpList_plain rfl (fun K hK => ?_)
          go_simp
          refine hK _ _ ?_
          clear hK K
          (try simp only [Act.put, nA, nB, nC])
          refine wpList_plain rfl (fun K hK => ?_)
          go_simp
          refine hK _ _ ?_
          clear hK K
          (try simp only [Act.put, nA, nB, nC])
          refine wpList_plain rfl (fun K hK => ?_)
          go_simp
          refine hK _ _ ?_
          clear hK K
          (try simp only [Act.put, nA, nB, nC])
          obtain ⟨P, hP⟩ : ∃ P, w4.heap.size = P := ⟨_, rfl⟩
          rw [hP] at z4
          refine wpList_allocD rfl rfl P hP ?_
          intro w5 e5 b5 z5
          (try simp only [Act.put, nA, nB, nC])
          refine wpList_storeD rfl _ _ rfl P rfl zeros32 D rfl HDl.out rfl e5 ?_
          intro w6 e6 b6 k6 z6
          (try simp only [Act.put, nA, nB, nC])
          have b46 : Below P w4 w6 := b5.trans b6
          have hlt4 : ∀ g, (Value.slice ad9 xs.length cap9).ownBlock = some g → g < P := fun g hg => by have := (O4.out.lt g hg).2; omega
          have G6 : Hid (RF w N w6 P D LA (.slice ad9 xs.length cap9) xs) := ⟨heap_below Z4.out b46 (by omega), e6, heap_below A4.out b46 (by omega), O4.out.below b46 hlt4, B4.out.trans (b46.mono (by omega)), by omega, hlt4⟩
          clear e5 b5 z5 e6 b6 k6 z6 b46 hlt4 O4 Z4 A4 B4
          refine wpList_plain rfl (fun K hK => ?_)
          go_simp
          refine hK _ _ ?_
          clear hK K
          (try simp only [Act.put, nA, nB, nC])
          refine wpList_plain rfl (fun K hK => ?_)
          go_simp
          refine hK _ _ ?_
          clear hK K
          (try simp only [Act.put, nA, nB, nC])
          go_upto_region 10 with fail
          refine wp_region_held_drew (S := fun W => DB W P D ∧ DB W (N + 2) LA) (by kernel_rfl) ⟨G6.out.d, G6.out.la⟩ (fun hHeld => ?_)
          refine' wpAnyH_take (i := 0) (oi := ⟨some 58, .move (.tmp 0), 3, "ref.go:147", #[], none⟩) rfl (by kernel_rfl) (by kernel_rfl) (by kernel_rfl) (fun _ _ _ h => h) (Or.inl ⟨by rfl, _⟩) (by assumption) _
          rotate_left
          · (intro wS hSw; (try dsimp only at hSw); go_simp; try with_reducible rfl)
          try simp only [Act.put, nA, nB, nC]
          refine' wpAnyH_take (i := 1) (oi := ⟨some 59, .load 23 (.tmp 16), 23, "ref.go:147", #[], none⟩) rfl (by kernel_rfl) (by kernel_rfl) (by kernel_rfl) (fun _ _ _ h => h) (yieldsIf_loadD (by rfl) _ rfl (P) rfl (D) (HDl.out) (fun W hW => hW.1)) (by assumption) _
          try simp only [Act.put, nA, nB, nC]
          refine' wpAnyH_take (i := 2) (oi := ⟨some 60, .load 23 (.tmp 14), 23, "ref.go:147", #[], none⟩) rfl (by kernel_rfl) (by kernel_rfl) (by kernel_rfl) (fun _ _ _ h => h) (yieldsIf_loadD (by rfl) _ rfl ((N + 2)) rfl (LA) (hLAl.out) (fun W hW => hW.2)) (by assumption) _
          try simp only [Act.put, nA, nB, nC]
          refine' wpAnyH_take (i := 4) (oi := ⟨some 62, .move (.tmp 17), 51, "ref.go:147", #[], none⟩) rfl (by kernel_rfl) (by kernel_rfl) (by kernel_rfl) (fun _ _ _ h => h) (Or.inl ⟨by rfl, _⟩) (by assumption) _
          rotate_left
          · (intro wS hSw; (try dsimp only at hSw); go_simp; try with_reducible rfl)
          try simp only [Act.put, nA, nB, nC]
          refine' wpAnyH_take (i := 5) (oi := ⟨some 63, .load 23 (.tmp 16), 23, "ref.go:147", #[], none⟩) rfl (by kernel_rfl) (by kernel_rfl) (by kernel_rfl) (fun _ _ _ h => h) (yieldsIf_loadD (by rfl) _ rfl (P) rfl (D) (HDl.out) (fun W hW => hW.1)) (by assumption) _
          try simp only [Act.put, nA, nB, nC]
          refine' wpAnyH_take (i := 6) (oi := ⟨some 64, .load 23 (.tmp 14), 23, "ref.go:147", #[], none⟩) rfl (by kernel_rfl) (by kernel_rfl) (by kernel_rfl) (fun _ _ _ h => h) (yieldsIf_loadD (by rfl) _ rfl ((N + 2)) rfl (LA) (hLAl.out) (fun W hW => hW.2)) (by assumption) _
          try simp only [Act.put, nA, nB, nC]
          refine' wpAnyH_take (i := 7) (oi := ⟨some 65, .build 106 #[(0, .tmp 63), (1, .tmp 64)], 106, "ref.go:147", #[⟨5, .data⟩, ⟨6, .data⟩], none⟩) rfl (by kernel_rfl) (by kernel_rfl) (by kernel_rfl) (fun _ _ _ h => h) (Or.inl ⟨by rfl, _⟩) (by assumption) _
          rotate_left
          · intro wS hSw
            exact build_Q _ _ _ _ rfl D LA HDl.out hLAl.out rfl rfl wS
          (try simp only [Act.put, nA, nB, nC])
          refine' wpAnyH_take (i := 10) (oi := { dst := Option.some 68, op := Op.move (Operand.tmp 18), type := 4, pos := "ref.go:147", after := #[{ on := 12, ground := Ground.gcOnly Departure.lateStores }], guard := Option.none }) rfl (by kernel_rfl) (by kernel_rfl) (by kernel_rfl) (fun _ _ _ h => h) (Or.inl ⟨by rfl, _⟩) (by assumption) _
          rotate_left
          · (intro wS hSw; (try dsimp only at hSw); go_simp; try with_reducible rfl)
          try simp only [Act.put, nA, nB, nC]
          refine wpAnyH_ready (rs := [3, 8]) (by kernel_rfl) (by simp) ?_
          refine (AllReadyH.cons (o := ⟨some 61, .call ⟨.value (.func 60), #[.tmp 58, .tmp 59, .tmp 60], #[3, 23, 23]⟩, 23, "ref.go:147", #[⟨0, .data⟩, ⟨1, .data⟩, ⟨2, .data⟩], none⟩) rfl (fun K hK => ?_) (AllReadyH.cons (o := ⟨some 66, .buildSlice 51 1 #[(0, .tmp 65)], 51, "ref.go:147", #[⟨7, .data⟩], none⟩) rfl (fun K hK => ?_) AllReadyH.nil))
          · go_simp
            go_at_call 60
            refine (refKnot_any m D LA _ h1m hm HDl hLAl).mono ?_
            rintro e w7 ⟨rfl, hb⟩
            have hb2 : Below w6.heap.size w6 w7 := Below.trans (Below.refl _ _).drew hb
            have G7 := Lib.hid (G6.out.below hb2)
            have hz2 := hb2.size
            clear hb hb2 G6
            refine hK.out _ _ ?_ (fun hHeld => ?_)
            · exact ⟨G7.out.d, G7.out.la⟩
            clear hK K
            (try simp only [Act.put, nA, nB, nC])
            refine wpAnyH_ready (rs := [8]) (by kernel_rfl) (by simp) ?_
            refine (AllReadyH.cons (o := ⟨some 66, .buildSlice 51 1 #[(0, .tmp 65)], 51, "ref.go:147", #[⟨7, .data⟩], none⟩) rfl (fun K hK => ?_) AllReadyH.nil)
            obtain ⟨q, hq⟩ : ∃ q, w7.heap.size = q := ⟨_, rfl⟩
            set_option maxRecDepth 20000 in
            refine step_of rfl (wp_sliceQ _ rfl (D ++ LA) (by rw [List.length_append, HDl.out, hLAl.out]) rfl q hq ?_)
            intro w8 e9 b9 z9
            have hb2 : Below w7.heap.size w7 w8 := (by rw [hq]; exact b9)
            have G8 := Lib.hid (G7.out.below hb2)
            have Lit := Lib.hid e9
            clear e9 b9 hb2 G7 hq
            refine hK.out _ _ ?_ (fun hHeld => ?_)
            · exact ⟨G8.out.d, G8.out.la⟩
            clear hK K
            (try simp only [Act.put, nA, nB, nC])
            refine wpAnyH_ready (rs := [9]) (by kernel_rfl) (by simp) ?_
            refine (AllReadyH.cons (o := ⟨some 67, .call ⟨.builtin .append, #[.tmp 62, .tmp 66], #[51, 51]⟩, 51, "ref.go:147", #[⟨4, .data⟩, ⟨8, .data⟩, ⟨3, .chain⟩], none⟩) rfl (fun K hK => ?_) AllReadyH.nil)
            set_option maxRecDepth 20000 in
            refine step_of rfl (wp_appQ w8 (D ++ LA) (by rw [List.length_append, HDl.out, hLAl.out]) _ _ rfl (N + 3) (.slice ad9 xs.length cap9) xs rfl G8.out.own q 1 rfl Lit.out (by omega) (by have := G8.out.hP; have := heap_lt G8.out.d; omega) ?_)
            intro g2 cap2 w9 ho9 hg9 hs9
            obtain ⟨y1, y2, y3, y4⟩ := G8.out.grown hg9
            have Y1 := Lib.hid y1
            have Y4 := Lib.hid y4
            have O9 := Lib.hid ho9
            have hg2 : N + 3 ≤ g2 := (ho9.lt g2 rfl).1
            refine hK.out _ _ ?_ (fun hHeld => ?_)
            · exact ⟨y2, y3⟩
            clear hK K y1 y2 y3 y4 ho9 hg9 hs9 G8
            (try simp only [Act.put, nA, nB, nC])
            refine wpAnyH_ready (rs := [11]) (by kernel_rfl) (by simp) ?_
            refine (AllReadyH.cons (o := { dst := Option.none, op := Op.store 23 (Operand.tmp 10) (Operand.tmp 61), type := 0, pos := "ref.go:147", after := #[{ on := 3, ground := Ground.data }, { on := 9, ground := Ground.chain }, { on := 0, ground := Ground.phase }, { on := 1, ground := Ground.phase }, { on := 2, ground := Ground.phase }, { on := 3, ground := Ground.phase }, { on := 4, ground := Ground.textOnly Departure.lateStores }, { on := 5, ground := Ground.textOnly Departure.lateStores }, { on := 6, ground := Ground.textOnly Departure.lateStores }, { on := 7, ground := Ground.textOnly Departure.lateStores }, { on := 8, ground := Ground.textOnly Departure.lateStores }, { on := 9, ground := Ground.textOnly Departure.lateStoresUnsure }, { on := 10, ground := Ground.textOnly Departure.lateStores }], guard := Option.none }) rfl (fun K hK => ?_) AllReadyH.nil)
            obtain ⟨R1, hR1⟩ : ∃ y, knotD m D LA = y := ⟨_, rfl⟩
            have HR1 : Hid (R1.length = 32) := by show _ = _; rw [← hR1]; exact knotD_length _ _ _
            rw [hR1] at HR3 ⊢
            clear hR1
            refine step_of rfl (wp_storeD _ _ rfl (N + 1) rfl zeros32 R1 rfl HR1.out rfl Y1.out ?_)
            intro wa ea ba ka za
            have EA := Lib.hid ea
            have BA : Hid (Below N w wa) := Y4.out.trans (ba.mono (by omega))
            have OA := Lib.hid (O9.out.heap (fun g hg => ka.block g (O9.out.lt g hg).2 (fun e => by have := (O9.out.lt g hg).1; omega)))
            obtain ⟨hh1, hh2⟩ := hHeld
            refine hK.out _ _ ?_ (fun hHeld => ?_)
            · exact ⟨ka.heap hh1 (by omega), ka.heap hh2 (by omega)⟩
            clear hK K hh1 hh2 ea ba ka za Y1 Y4 O9
            (try simp only [Act.put, nA, nB, nC])
            refine' wpAnyH_take (i := 12) (oi := { dst := Option.some 11, op := Op.assign (Operand.tmp 67), type := 51, pos := "ref.go:147", after := #[{ on := 9, ground := Ground.data }, { on := 11, ground := Ground.chain }, { on := 0, ground := Ground.phase }, { on := 1, ground := Ground.phase }, { on := 2, ground := Ground.phase }, { on := 3, ground := Ground.phase }, { on := 4, ground := Ground.phase }, { on := 5, ground := Ground.phase }, { on := 6, ground := Ground.phase }, { on := 7, ground := Ground.phase }, { on := 8, ground := Ground.phase }, { on := 9, ground := Ground.phase }, { on := 10, ground := Ground.textOnly Departure.lateStores }, { on := 11, ground := Ground.phase }], guard := Option.none }) rfl (by kernel_rfl) (by kernel_rfl) (by kernel_rfl) (fun _ _ _ h => h) (Or.inl ⟨by rfl, _⟩) (by assumption) _
            rotate_left
            · (intro wS hSw; (try dsimp only at hSw); go_simp; try with_reducible rfl)
            try simp only [Act.put, nA, nB, nC]
            refine' wpAnyH_take (i := 13) (oi := ⟨some 12, .assign (.tmp 68), 4, "ref.go:147", #[⟨10, .data⟩, ⟨12, .chain⟩, ⟨0, .phase⟩, ⟨1, .phase⟩, ⟨2, .phase⟩, ⟨3, .phase⟩, ⟨4, .phase⟩, ⟨5, .phase⟩, ⟨6, .phase⟩, ⟨7, .phase⟩, ⟨8, .phase⟩, ⟨9, .phase⟩, ⟨10, .phase⟩, ⟨11, .phase⟩, ⟨12, .phase⟩], none⟩) rfl (by kernel_rfl) (by kernel_rfl) (by kernel_rfl) (fun _ _ _ h => h) (Or.inl ⟨by rfl, _⟩) (by assumption) _
            rotate_left
            · (intro wS hSw; (try dsimp only at hSw); go_simp; try with_reducible rfl)
            try simp only [Act.put, nA, nB, nC]
            refine wpAnyH_done (by kernel_rfl) ?_ _
            clear hHeld
            go_wp2_with fail
            rw [HR3.out]
            refine bodyPost_ret (v := .tuple #[dv R1, .slice (some ⟨g2, 0, none⟩) (xs.length + 1) cap2, .bool ok]) ?_ rfl ⟨_, rfl, by rw [HN.out]; exact OA.out.mono (by omega), by rw [HN.out]; exact BA.out⟩
            exact results_DTT Try.results48 rfl rfl rfl HR1.out EA.out
          · obtain ⟨q, hq⟩ : ∃ q, w6.heap.size = q := ⟨_, rfl⟩
            set_option maxRecDepth 20000 in
            refine step_of rfl (wp_sliceQ _ rfl (D ++ LA) (by rw [List.length_append, HDl.out, hLAl.out]) rfl q hq ?_)
            intro w7 e9 b9 z9
            have hb2 : Below w6.heap.size w6 w7 := Below.trans (Below.refl _ _).drew (by rw [hq]; exact b9)
            have G7 := Lib.hid (G6.out.below hb2)
            have Lit := Lib.hid e9
            clear e9 b9 hb2 G6 hq
            refine hK.out _ _ ?_ (fun hHeld => ?_)
            · exact ⟨G7.out.d, G7.out.la⟩
            clear hK K
            (try simp only [Act.put, nA, nB, nC])
            refine wpAnyH_ready (rs := [3]) (by kernel_rfl) (by simp) ?_
            refine (AllReadyH.cons (o := ⟨some 61, .call ⟨.value (.func 60), #[.tmp 58, .tmp 59, .tmp 60], #[3, 23, 23]⟩, 23, "ref.go:147", #[⟨0, .data⟩, ⟨1, .data⟩, ⟨2, .data⟩], none⟩) rfl (fun K hK => ?_) AllReadyH.nil)
            go_simp
            go_at_call 60
            refine (refKnot_any m D LA _ h1m hm HDl hLAl).mono ?_
            rintro e w8 ⟨rfl, hb⟩
            have hb2 : Below w7.heap.size w7 w8 := hb
            have G8 := Lib.hid (G7.out.below hb2)
            have Lit := Lib.hid (heap_below Lit.out hb2 (by omega))
            have hz2 := hb2.size
            clear hb hb2 G7
            refine hK.out _ _ ?_ (fun hHeld => ?_)
            · exact ⟨G8.out.d, G8.out.la⟩
            clear hK K
            (try simp only [Act.put, nA, nB, nC])
            refine wpAnyH_ready (rs := [9]) (by kernel_rfl) (by simp) ?_
            refine (AllReadyH.cons (o := ⟨some 67, .call ⟨.builtin .append, #[.tmp 62, .tmp 66], #[51, 51]⟩, 51, "ref.go:147", #[⟨4, .data⟩, ⟨8, .data⟩, ⟨3, .chain⟩], none⟩) rfl (fun K hK => ?_) AllReadyH.nil)
            set_option maxRecDepth 20000 in
            refine step_of rfl (wp_appQ w8 (D ++ LA) (by rw [List.length_append, HDl.out, hLAl.out]) _ _ rfl (N + 3) (.slice ad9 xs.length cap9) xs rfl G8.out.own q 1 rfl Lit.out (by omega) (by have := G8.out.hP; have := heap_lt G8.out.d; omega) ?_)
            intro g2 cap2 w9 ho9 hg9 hs9
            obtain ⟨y1, y2, y3, y4⟩ := G8.out.grown hg9
            have Y1 := Lib.hid y1
            have Y4 := Lib.hid y4
            have O9 := Lib.hid ho9
            have hg2 : N + 3 ≤ g2 := (ho9.lt g2 rfl).1
            refine hK.out _ _ ?_ (fun hHeld => ?_)
            · exact ⟨y2, y3⟩
            clear hK K y1 y2 y3 y4 ho9 hg9 hs9 G8
            (try simp only [Act.put, nA, nB, nC])
            refine wpAnyH_ready (rs := [11]) (by kernel_rfl) (by simp) ?_
            refine (AllReadyH.cons (o := { dst := Option.none, op := Op.store 23 (Operand.tmp 10) (Operand.tmp 61), type := 0, pos := "ref.go:147", after := #[{ on := 3, ground := Ground.data }, { on := 9, ground := Ground.chain }, { on := 0, ground := Ground.phase }, { on := 1, ground := Ground.phase }, { on := 2, ground := Ground.phase }, { on := 3, ground := Ground.phase }, { on := 4, ground := Ground.textOnly Departure.lateStores }, { on := 5, ground := Ground.textOnly Departure.lateStores }, { on := 6, ground := Ground.textOnly Departure.lateStores }, { on := 7, ground := Ground.textOnly Departure.lateStores }, { on := 8, ground := Ground.textOnly Departure.lateStores }, { on := 9, ground := Ground.textOnly Departure.lateStoresUnsure }, { on := 10, ground := Ground.textOnly Departure.lateStores }], guard := Option.none }) rfl (fun K hK => ?_) AllReadyH.nil)
            obtain ⟨R1, hR1⟩ : ∃ y, knotD m D LA = y := ⟨_, rfl⟩
            have HR1 : Hid (R1.length = 32) := by show _ = _; rw [← hR1]; exact knotD_length _ _ _
            rw [hR1] at HR3 ⊢
            clear hR1
            refine step_of rfl (wp_storeD _ _ rfl (N + 1) rfl zeros32 R1 rfl HR1.out rfl Y1.out ?_)
            intro wa ea ba ka za
            have EA := Lib.hid ea
            have BA : Hid (Below N w wa) := Y4.out.trans (ba.mono (by omega))
            have OA := Lib.hid (O9.out.heap (fun g hg => ka.block g (O9.out.lt g hg).2 (fun e => by have := (O9.out.lt g hg).1; omega)))
            obtain ⟨hh1, hh2⟩ := hHeld
            refine hK.out _ _ ?_ (fun hHeld => ?_)
            · exact ⟨ka.heap hh1 (by omega), ka.heap hh2 (by omega)⟩
            clear hK K hh1 hh2 ea ba ka za Y1 Y4 O9
            (try simp only [Act.put, nA, nB, nC])
            refine' wpAnyH_take (i := 12) (oi := { dst := Option.some 11, op := Op.assign (Operand.tmp 67), type := 51, pos := "ref.go:147", after := #[{ on := 9, ground := Ground.data }, { on := 11, ground := Ground.chain }, { on := 0, ground := Ground.phase }, { on := 1, ground := Ground.phase }, { on := 2, ground := Ground.phase }, { on := 3, ground := Ground.phase }, { on := 4, ground := Ground.phase }, { on := 5, ground := Ground.phase }, { on := 6, ground := Ground.phase }, { on := 7, ground := Ground.phase }, { on := 8, ground := Ground.phase }, { on := 9, ground := Ground.phase }, { on := 10, ground := Ground.textOnly Departure.lateStores }, { on := 11, ground := Ground.phase }], guard := Option.none }) rfl (by kernel_rfl) (by kernel_rfl) (by kernel_rfl) (fun _ _ _ h => h) (Or.inl ⟨by rfl, _⟩) (by assumption) _
            rotate_left
            · (intro wS hSw; (try dsimp only at hSw); go_simp; try with_reducible rfl)
            try simp only [Act.put, nA, nB, nC]
            refine' wpAnyH_take (i := 13) (oi := ⟨some 12, .assign (.tmp 68), 4, "ref.go:147", #[⟨10, .data⟩, ⟨12, .chain⟩, ⟨0, .phase⟩, ⟨1, .phase⟩, ⟨2, .phase⟩, ⟨3, .phase⟩, ⟨4, .phase⟩, ⟨5, .phase⟩, ⟨6, .phase⟩, ⟨7, .phase⟩, ⟨8, .phase⟩, ⟨9, .phase⟩, ⟨10, .phase⟩, ⟨11, .phase⟩, ⟨12, .phase⟩], none⟩) rfl (by kernel_rfl) (by kernel_rfl) (by kernel_rfl) (fun _ _ _ h => h) (Or.inl ⟨by rfl, _⟩) (by assumption) _
            rotate_left
            · (intro wS hSw; (try dsimp only at hSw); go_simp; try with_reducible rfl)
            try simp only [Act.put, nA, nB, nC]
            refine wpAnyH_done (by kernel_rfl) ?_ _
            clear hHeld
            go_wp2_with fail
            rw [HR3.out]
            refine bodyPost_ret (v := .tuple #[dv R1, .slice (some ⟨g2, 0, none⟩) (xs.length + 1) cap2, .bool ok]) ?_ rfl ⟨_, rfl, by rw [HN.out]; exact OA.out.mono (by omega), by rw [HN.out]; exact BA.out⟩
            exact results_DTT Try.results48 rfl rfl rfl HR1.out EA.out
        case neg =>
          have d1 : decide (i < k) = false := decide_eq_false hik
          have d2 : decide ((i : Int) < (k : Int)) = false := decide_eq_false (by omega)
          obtain ⟨i2, hi2⟩ : ∃ y, i - k = y := ⟨_, rfl⟩
          obtain ⟨n2, hn2⟩ : ∃ y, n - k = y := ⟨_, rfl⟩
          have f1 : (i : Int) - (k : Int) = (i2 : Int) := by omega
          have f2 : IntKind.i64.wrap (i2 : Int) = (i2 : Int) := IntWalk.i64_in _ (by omega)
          have f3 : (n : Int) - (k : Int) = (n2 : Int) := by omega
          have f4 : IntKind.i64.wrap (n2 : Int) = (n2 : Int) := IntWalk.i64_in _ (by omega)
          have hi9 : i2 < n2 := by omega
          have hn9 : n2 < n := by omega
          obtain ⟨⟨D, xs, ok⟩, hr9⟩ : ∃ y, rclimb m leaf i2 n2 r = y := ⟨_, rfl⟩
          have hsh := rclimb_shape m leaf hl.out n2 i2 r hd3.out.1
          rw [hr9] at hsh
          obtain ⟨hDl, hX6, hXn⟩ := hsh
          dsimp only at hDl hX6 hXn
          have HDl := Lib.hid hDl
          have HX6 := Lib.hid hX6
          have HR3 : Hid (R = (knotD m LA D, xs ++ [LA ++ D], ok)) := by
            show _ = _
            rw [← HR2.out, rclimb_right m leaf i n r LA (by omega) (by rw [HK.out]; exact hik), HK.out, hi2, hn2, hr9]
          have HI : Hid (Calls Try.prog 48 #[.int .i64 (m : Int), .int .i64 (i2 : Int), .int .i64 (n2 : Int), dv leaf, .slice (some ⟨b, o, none⟩) x c] w3 (RCres w3 (D, xs, ok))) := by
            have h9 := IH.out n2 hn9 i2 (.slice (some ⟨b, o, none⟩) x c) r w3 hd3 hi9 (by omega)
            rw [hr9] at h9
            exact h9
          clear hr9 hDl hX6 IH hd3 HR2 hi2 hn2
          go_upto_region 11 with fail
          clear d1 d2
          refine wp_region_list ?_
          refine wpList_plain rfl (fun K hK => ?_)
          go_simp
          refine hK _ _ ?_
          clear hK K
          (try simp only [Act.put, nA, nB, nC])
          refine wpList_plain rfl (fun K hK => ?_)
          go_simp
          refine hK _ _ ?_
          clear hK K
          (try simp only [Act.put, nA, nB, nC])
          refine wpList_plain rfl (fun K hK => ?_)
          go_simp
          refine hK _ _ ?_
          clear hK K
          (try simp only [Act.put, nA, nB, nC])
          refine wpList_plain rfl (fun K hK => ?_)
          go_simp
          refine hK _ _ ?_
          clear hK K
          (try simp only [Act.put, nA, nB, nC])
          refine wpList_plain rfl (fun K hK => ?_)
          go_simp
          refine hK _ _ ?_
          clear hK K
          (try simp only [Act.put, nA, nB, nC])
          refine wpList_plain rfl (fun K hK => ?_)
          go_simp
          refine hK _ _ ?_
          clear hK K
          (try simp only [Act.put, nA, nB, nC])
          refine wpList_plain rfl (fun K hK => ?_)
          go_simp
          refine hK _ _ ?_
          clear hK K
          (try simp only [Act.put, nA, nB, nC])
          refine wpList_loadD rfl _ rfl N rfl leaf hl.out L3.out ?_
          (try simp only [Act.put, nA, nB, nC])
          refine wpList_plain rfl (fun K hK => ?_)
          go_simp
          refine hK _ _ ?_
          clear hK K
          (try simp only [Act.put, nA, nB, nC])
          refine wpList_plain rfl (fun K hK => ?_)
          go_simp
          refine HI.out.mono ?_; rintro e w4 ⟨sv, rfl, ho, hb4⟩; dsimp only at ho ⊢
          refine hK _ _ ?_
          clear hK K
          (try simp only [Act.put, nA, nB, nC])
          have z4 := hb4.size
          rw [z3] at ho hb4 z4
          have O4 := Lib.hid ho
          have Z4 := Lib.hid (heap_below Z3.out hb4 (by omega))
          have A4 := Lib.hid (heap_below A3.out hb4 (by omega))
          have B4 := Lib.hid (B3.out.trans (hb4.mono (by omega)))
          obtain ⟨ad9, cap9, hsv⟩ := ho.shape
          subst hsv
          clear ho hb4 HI L3 Z3 A3 B3 f1 f2 f3 f4
          refine wpList_plain rfl (fun K hK => ?_)
          go_simp
          refine hK _ _ ?_
          clear hK K
          (try simp only [Act.put, nA, nB, nC])
          refine wpList_plain rfl (fun K hK => ?_)
          go_simp
          refine hK _ _ ?_
          clear hK K
          (try simp only [Act.put, nA, nB, nC])
          refine wpList_plain rfl (fun K hK => ?_)
          go_simp
          refine hK _ _ ?_
          clear hK K
          (try simp only [Act.put, nA, nB, nC])
          refine wpList_plain rfl (fun K hK => ?_)
          go_simp
          refine hK _ _ ?_
          clear hK K
          (try simp only [Act.put, nA, nB, nC])
          obtain ⟨P, hP⟩ : ∃ P, w4.heap.size = P := ⟨_, rfl⟩
          rw [hP] at z4
          refine wpList_allocD rfl rfl P hP ?_
          intro w5 e5 b5 z5
          (try simp only [Act.put, nA, nB, nC])
          refine wpList_storeD rfl _ _ rfl P rfl zeros32 D rfl HDl.out rfl e5 ?_
          intro w6 e6 b6 k6 z6
          (try simp only [Act.put, nA, nB, nC])
          have b46 : Below P w4 w6 := b5.trans b6
          have hlt4 : ∀ g, (Value.slice ad9 xs.length cap9).ownBlock = some g → g < P := fun g hg => by have := (O4.out.lt g hg).2; omega
          have G6 : Hid (RF w N w6 P D LA (.slice ad9 xs.length cap9) xs) := ⟨heap_below Z4.out b46 (by omega), e6, heap_below A4.out b46 (by omega), O4.out.below b46 hlt4, B4.out.trans (b46.mono (by omega)), by omega, hlt4⟩
          clear e5 b5 z5 e6 b6 k6 z6 b46 hlt4 O4 Z4 A4 B4
          refine wpList_plain rfl (fun K hK => ?_)
          go_simp
          refine hK _ _ ?_
          clear hK K
          (try simp only [Act.put, nA, nB, nC])
          refine wpList_plain rfl (fun K hK => ?_)
          go_simp
          refine hK _ _ ?_
          clear hK K
          (try simp only [Act.put, nA, nB, nC])
          go_upto_region 12 with fail
          refine wp_region_held_drew (S := fun W => DB W P D ∧ DB W (N + 2) LA) (by kernel_rfl) ⟨G6.out.d, G6.out.la⟩ (fun hHeld => ?_)
          refine' wpAnyH_take (i := 0) (oi := ⟨some 83, .move (.tmp 0), 3, "ref.go:150", #[], none⟩) rfl (by kernel_rfl) (by kernel_rfl) (by kernel_rfl) (fun _ _ _ h => h) (Or.inl ⟨by rfl, _⟩) (by assumption) _
          rotate_left
          · (intro wS hSw; (try dsimp only at hSw); go_simp; try with_reducible rfl)
          try simp only [Act.put, nA, nB, nC]
          refine' wpAnyH_take (i := 1) (oi := ⟨some 84, .load 23 (.tmp 14), 23, "ref.go:150", #[], none⟩) rfl (by kernel_rfl) (by kernel_rfl) (by kernel_rfl) (fun _ _ _ h => h) (yieldsIf_loadD (by rfl) _ rfl ((N + 2)) rfl (LA) (hLAl.out) (fun W hW => hW.2)) (by assumption) _
          try simp only [Act.put, nA, nB, nC]
          refine' wpAnyH_take (i := 2) (oi := ⟨some 85, .load 23 (.tmp 19), 23, "ref.go:150", #[], none⟩) rfl (by kernel_rfl) (by kernel_rfl) (by kernel_rfl) (fun _ _ _ h => h) (yieldsIf_loadD (by rfl) _ rfl (P) rfl (D) (HDl.out) (fun W hW => hW.1)) (by assumption) _
          try simp only [Act.put, nA, nB, nC]
          refine' wpAnyH_take (i := 4) (oi := ⟨some 87, .move (.tmp 20), 51, "ref.go:150", #[], none⟩) rfl (by kernel_rfl) (by kernel_rfl) (by kernel_rfl) (fun _ _ _ h => h) (Or.inl ⟨by rfl, _⟩) (by assumption) _
          rotate_left
          · (intro wS hSw; (try dsimp only at hSw); go_simp; try with_reducible rfl)
          try simp only [Act.put, nA, nB, nC]
          refine' wpAnyH_take (i := 5) (oi := ⟨some 88, .load 23 (.tmp 14), 23, "ref.go:150", #[], none⟩) rfl (by kernel_rfl) (by kernel_rfl) (by kernel_rfl) (fun _ _ _ h => h) (yieldsIf_loadD (by rfl) _ rfl ((N + 2)) rfl (LA) (hLAl.out) (fun W hW => hW.2)) (by assumption) _
          try simp only [Act.put, nA, nB, nC]
          refine' wpAnyH_take (i := 6) (oi := ⟨some 89, .load 23 (.tmp 19), 23, "ref.go:150", #[], none⟩) rfl (by kernel_rfl) (by kernel_rfl) (by kernel_rfl) (fun _ _ _ h => h) (yieldsIf_loadD (by rfl) _ rfl (P) rfl (D) (HDl.out) (fun W hW => hW.1)) (by assumption) _
          try simp only [Act.put, nA, nB, nC]
          refine' wpAnyH_take (i := 7) (oi := ⟨some 90, .build 106 #[(0, .tmp 88), (1, .tmp 89)], 106, "ref.go:150", #[⟨5, .data⟩, ⟨6, .data⟩], none⟩) rfl (by kernel_rfl) (by kernel_rfl) (by kernel_rfl) (fun _ _ _ h => h) (Or.inl ⟨by rfl, _⟩) (by assumption) _
          rotate_left
          · intro wS hSw
            exact build_Q _ _ _ _ rfl LA D hLAl.out HDl.out rfl rfl wS
          (try simp only [Act.put, nA, nB, nC])
          refine' wpAnyH_take (i := 10) (oi := { dst := Option.some 93, op := Op.move (Operand.tmp 21), type := 4, pos := "ref.go:150", after := #[{ on := 12, ground := Ground.gcOnly Departure.lateStores }], guard := Option.none }) rfl (by kernel_rfl) (by kernel_rfl) (by kernel_rfl) (fun _ _ _ h => h) (Or.inl ⟨by rfl, _⟩) (by assumption) _
          rotate_left
          · (intro wS hSw; (try dsimp only at hSw); go_simp; try with_reducible rfl)
          try simp only [Act.put, nA, nB, nC]
          refine wpAnyH_ready (rs := [3, 8]) (by kernel_rfl) (by simp) ?_
          refine (AllReadyH.cons (o := ⟨some 86, .call ⟨.value (.func 60), #[.tmp 83, .tmp 84, .tmp 85], #[3, 23, 23]⟩, 23, "ref.go:150", #[⟨0, .data⟩, ⟨1, .data⟩, ⟨2, .data⟩], none⟩) rfl (fun K hK => ?_) (AllReadyH.cons (o := ⟨some 91, .buildSlice 51 1 #[(0, .tmp 90)], 51, "ref.go:150", #[⟨7, .data⟩], none⟩) rfl (fun K hK => ?_) AllReadyH.nil))
          · go_simp
            go_at_call 60
            refine (refKnot_any m LA D _ h1m hm hLAl HDl).mono ?_
            rintro e w7 ⟨rfl, hb⟩
            have hb2 : Below w6.heap.size w6 w7 := Below.trans (Below.refl _ _).drew hb
            have G7 := Lib.hid (G6.out.below hb2)
            have hz2 := hb2.size
            clear hb hb2 G6
            refine hK.out _ _ ?_ (fun hHeld => ?_)
            · exact ⟨G7.out.d, G7.out.la⟩
            clear hK K
            (try simp only [Act.put, nA, nB, nC])
            refine wpAnyH_ready (rs := [8]) (by kernel_rfl) (by simp) ?_
            refine (AllReadyH.cons (o := ⟨some 91, .buildSlice 51 1 #[(0, .tmp 90)], 51, "ref.go:150", #[⟨7, .data⟩], none⟩) rfl (fun K hK => ?_) AllReadyH.nil)
            obtain ⟨q, hq⟩ : ∃ q, w7.heap.size = q := ⟨_, rfl⟩
            set_option maxRecDepth 20000 in
            refine step_of rfl (wp_sliceQ _ rfl (LA ++ D) (by rw [List.length_append, hLAl.out, HDl.out]) rfl q hq ?_)
            intro w8 e9 b9 z9
            have hb2 : Below w7.heap.size w7 w8 := (by rw [hq]; exact b9)
            have G8 := Lib.hid (G7.out.below hb2)
            have Lit := Lib.hid e9
            clear e9 b9 hb2 G7 hq
            refine hK.out _ _ ?_ (fun hHeld => ?_)
            · exact ⟨G8.out.d, G8.out.la⟩
            clear hK K
            (try simp only [Act.put, nA, nB, nC])
            refine wpAnyH_ready (rs := [9]) (by kernel_rfl) (by simp) ?_
            refine (AllReadyH.cons (o := ⟨some 92, .call ⟨.builtin .append, #[.tmp 87, .tmp 91], #[51, 51]⟩, 51, "ref.go:150", #[⟨4, .data⟩, ⟨8, .data⟩, ⟨3, .chain⟩], none⟩) rfl (fun K hK => ?_) AllReadyH.nil)
            set_option maxRecDepth 20000 in
            refine step_of rfl (wp_appQ w8 (LA ++ D) (by rw [List.length_append, hLAl.out, HDl.out]) _ _ rfl (N + 3) (.slice ad9 xs.length cap9) xs rfl G8.out.own q 1 rfl Lit.out (by omega) (by have := G8.out.hP; have := heap_lt G8.out.d; omega) ?_)
            intro g2 cap2 w9 ho9 hg9 hs9
            obtain ⟨y1, y2, y3, y4⟩ := G8.out.grown hg9
            have Y1 := Lib.hid y1
            have Y4 := Lib.hid y4
            have O9 := Lib.hid ho9
            have hg2 : N + 3 ≤ g2 := (ho9.lt g2 rfl).1
            refine hK.out _ _ ?_ (fun hHeld => ?_)
            · exact ⟨y2, y3⟩
            clear hK K y1 y2 y3 y4 ho9 hg9 hs9 G8
            (try simp only [Act.put, nA, nB, nC])
            refine wpAnyH_ready (rs := [11]) (by kernel_rfl) (by simp) ?_
            refine (AllReadyH.cons (o := { dst := Option.none, op := Op.store 23 (Operand.tmp 10) (Operand.tmp 86), type := 0, pos := "ref.go:150", after := #[{ on := 3, ground := Ground.data }, { on := 9, ground := Ground.chain }, { on := 0, ground := Ground.phase }, { on := 1, ground := Ground.phase }, { on := 2, ground := Ground.phase }, { on := 3, ground := Ground.phase }, { on := 4, ground := Ground.textOnly Departure.lateStores }, { on := 5, ground := Ground.textOnly Departure.lateStores }, { on := 6, ground := Ground.textOnly Departure.lateStores }, { on := 7, ground := Ground.textOnly Departure.lateStores }, { on := 8, ground := Ground.textOnly Departure.lateStores }, { on := 9, ground := Ground.textOnly Departure.lateStoresUnsure }, { on := 10, ground := Ground.textOnly Departure.lateStores }], guard := Option.none }) rfl (fun K hK => ?_) AllReadyH.nil)
            obtain ⟨R1, hR1⟩ : ∃ y, knotD m LA D = y := ⟨_, rfl⟩
            have HR1 : Hid (R1.length = 32) := by show _ = _; rw [← hR1]; exact knotD_length _ _ _
            rw [hR1] at HR3 ⊢
            clear hR1
            refine step_of rfl (wp_storeD _ _ rfl (N + 1) rfl zeros32 R1 rfl HR1.out rfl Y1.out ?_)
            intro wa ea ba ka za
            have EA := Lib.hid ea
            have BA : Hid (Below N w wa) := Y4.out.trans (ba.mono (by omega))
            have OA := Lib.hid (O9.out.heap (fun g hg => ka.block g (O9.out.lt g hg).2 (fun e => by have := (O9.out.lt g hg).1; omega)))
            obtain ⟨hh1, hh2⟩ := hHeld
            refine hK.out _ _ ?_ (fun hHeld => ?_)
            · exact ⟨ka.heap hh1 (by omega), ka.heap hh2 (by omega)⟩
            clear hK K hh1 hh2 ea ba ka za Y1 Y4 O9
            (try simp only [Act.put, nA, nB, nC])
            refine' wpAnyH_take (i := 12) (oi := { dst := Option.some 11, op := Op.assign (Operand.tmp 92), type := 51, pos := "ref.go:150", after := #[{ on := 9, ground := Ground.data }, { on := 11, ground := Ground.chain }, { on := 0, ground := Ground.phase }, { on := 1, ground := Ground.phase }, { on := 2, ground := Ground.phase }, { on := 3, ground := Ground.phase }, { on := 4, ground := Ground.phase }, { on := 5, ground := Ground.phase }, { on := 6, ground := Ground.phase }, { on := 7, ground := Ground.phase }, { on := 8, ground := Ground.phase }, { on := 9, ground := Ground.phase }, { on := 10, ground := Ground.textOnly Departure.lateStores }, { on := 11, ground := Ground.phase }], guard := Option.none }) rfl (by kernel_rfl) (by kernel_rfl) (by kernel_rfl) (fun _ _ _ h => h) (Or.inl ⟨by rfl, _⟩) (by assumption) _
            rotate_left
            · (intro wS hSw; (try dsimp only at hSw); go_simp; try with_reducible rfl)
            try simp only [Act.put, nA, nB, nC]
            refine' wpAnyH_take (i := 13) (oi := ⟨some 12, .assign (.tmp 93), 4, "ref.go:150", #[⟨10, .data⟩, ⟨12, .chain⟩, ⟨0, .phase⟩, ⟨1, .phase⟩, ⟨2, .phase⟩, ⟨3, .phase⟩, ⟨4, .phase⟩, ⟨5, .phase⟩, ⟨6, .phase⟩, ⟨7, .phase⟩, ⟨8, .phase⟩, ⟨9, .phase⟩, ⟨10, .phase⟩, ⟨11, .phase⟩, ⟨12, .phase⟩], none⟩) rfl (by kernel_rfl) (by kernel_rfl) (by kernel_rfl) (fun _ _ _ h => h) (Or.inl ⟨by rfl, _⟩) (by assumption) _
            rotate_left
            · (intro wS hSw; (try dsimp only at hSw); go_simp; try with_reducible rfl)
            try simp only [Act.put, nA, nB, nC]
            refine wpAnyH_done (by kernel_rfl) ?_ _
            clear hHeld
            go_wp2_with fail
            rw [HR3.out]
            refine bodyPost_ret (v := .tuple #[dv R1, .slice (some ⟨g2, 0, none⟩) (xs.length + 1) cap2, .bool ok]) ?_ rfl ⟨_, rfl, by rw [HN.out]; exact OA.out.mono (by omega), by rw [HN.out]; exact BA.out⟩
            exact results_DTT Try.results48 rfl rfl rfl HR1.out EA.out
          · obtain ⟨q, hq⟩ : ∃ q, w6.heap.size = q := ⟨_, rfl⟩
            set_option maxRecDepth 20000 in
            refine step_of rfl (wp_sliceQ _ rfl (LA ++ D) (by rw [List.length_append, hLAl.out, HDl.out]) rfl q hq ?_)
            intro w7 e9 b9 z9
            have hb2 : Below w6.heap.size w6 w7 := Below.trans (Below.refl _ _).drew (by rw [hq]; exact b9)
            have G7 := Lib.hid (G6.out.below hb2)
            have Lit := Lib.hid e9
            clear e9 b9 hb2 G6 hq
            refine hK.out _ _ ?_ (fun hHeld => ?_)
            · exact ⟨G7.out.d, G7.out.la⟩
            clear hK K
            (try simp only [Act.put, nA, nB, nC])
            refine wpAnyH_ready (rs := [3]) (by kernel_rfl) (by simp) ?_
            refine (AllReadyH.cons (o := ⟨some 86, .call ⟨.value (.func 60), #[.tmp 83, .tmp 84, .tmp 85], #[3, 23, 23]⟩, 23, "ref.go:150", #[⟨0, .data⟩, ⟨1, .data⟩, ⟨2, .data⟩], none⟩) rfl (fun K hK => ?_) AllReadyH.nil)
            go_simp
            go_at_call 60
            refine (refKnot_any m LA D _ h1m hm hLAl HDl).mono ?_
            rintro e w8 ⟨rfl, hb⟩
            have hb2 : Below w7.heap.size w7 w8 := hb
            have G8 := Lib.hid (G7.out.below hb2)
            have Lit := Lib.hid (heap_below Lit.out hb2 (by omega))
            have hz2 := hb2.size
            clear hb hb2 G7
            refine hK.out _ _ ?_ (fun hHeld => ?_)
            · exact ⟨G8.out.d, G8.out.la⟩
            clear hK K
            (try simp only [Act.put, nA, nB, nC])
            refine wpAnyH_ready (rs := [9]) (by kernel_rfl) (by simp) ?_
            refine (AllReadyH.cons (o := ⟨some 92, .call ⟨.builtin .append, #[.tmp 87, .tmp 91], #[51, 51]⟩, 51, "ref.go:150", #[⟨4, .data⟩, ⟨8, .data⟩, ⟨3, .chain⟩], none⟩) rfl (fun K hK => ?_) AllReadyH.nil)
            set_option maxRecDepth 20000 in
            refine step_of rfl (wp_appQ w8 (LA ++ D) (by rw [List.length_append, hLAl.out, HDl.out]) _ _ rfl (N + 3) (.slice ad9 xs.length cap9) xs rfl G8.out.own q 1 rfl Lit.out (by omega) (by have := G8.out.hP; have := heap_lt G8.out.d; omega) ?_)
            intro g2 cap2 w9 ho9 hg9 hs9
            obtain ⟨y1, y2, y3, y4⟩ := G8.out.grown hg9
            have Y1 := Lib.hid y1
            have Y4 := Lib.hid y4
            have O9 := Lib.hid ho9
            have hg2 : N + 3 ≤ g2 := (ho9.lt g2 rfl).1
            refine hK.out _ _ ?_ (fun hHeld => ?_)
            · exact ⟨y2, y3⟩
            clear hK K y1 y2 y3 y4 ho9 hg9 hs9 G8
            (try simp only [Act.put, nA, nB, nC])
            refine wpAnyH_ready (rs := [11]) (by kernel_rfl) (by simp) ?_
            refine (AllReadyH.cons (o := { dst := Option.none, op := Op.store 23 (Operand.tmp 10) (Operand.tmp 86), type := 0, pos := "ref.go:150", after := #[{ on := 3, ground := Ground.data }, { on := 9, ground := Ground.chain }, { on := 0, ground := Ground.phase }, { on := 1, ground := Ground.phase }, { on := 2, ground := Ground.phase }, { on := 3, ground := Ground.phase }, { on := 4, ground := Ground.textOnly Departure.lateStores }, { on := 5, ground := Ground.textOnly Departure.lateStores }, { on := 6, ground := Ground.textOnly Departure.lateStores }, { on := 7, ground := Ground.textOnly Departure.lateStores }, { on := 8, ground := Ground.textOnly Departure.lateStores }, { on := 9, ground := Ground.textOnly Departure.lateStoresUnsure }, { on := 10, ground := Ground.textOnly Departure.lateStores }], guard := Option.none }) rfl (fun K hK => ?_) AllReadyH.nil)
            obtain ⟨R1, hR1⟩ : ∃ y, knotD m LA D = y := ⟨_, rfl⟩
            have HR1 : Hid (R1.length = 32) := by show _ = _; rw [← hR1]; exact knotD_length _ _ _
            rw [hR1] at HR3 ⊢
            clear hR1
            refine step_of rfl (wp_storeD _ _ rfl (N + 1) rfl zeros32 R1 rfl HR1.out rfl Y1.out ?_)
            intro wa ea ba ka za
            have EA := Lib.hid ea
            have BA : Hid (Below N w wa) := Y4.out.trans (ba.mono (by omega))
            have OA := Lib.hid (O9.out.heap (fun g hg => ka.block g (O9.out.lt g hg).2 (fun e => by have := (O9.out.lt g hg).1; omega)))
            obtain ⟨hh1, hh2⟩ := hHeld
            refine hK.out _ _ ?_ (fun hHeld => ?_)
            · exact ⟨ka.heap hh1 (by omega), ka.heap hh2 (by omega)⟩
            clear hK K hh1 hh2 ea ba ka za Y1 Y4 O9
            (try simp only [Act.put, nA, nB, nC])
            refine' wpAnyH_take (i := 12) (oi := { dst := Option.some 11, op := Op.assign (Operand.tmp 92), type := 51, pos := "ref.go:150", after := #[{ on := 9, ground := Ground.data }, { on := 11, ground := Ground.chain }, { on := 0, ground := Ground.phase }, { on := 1, ground := Ground.phase }, { on := 2, ground := Ground.phase }, { on := 3, ground := Ground.phase }, { on := 4, ground := Ground.phase }, { on := 5, ground := Ground.phase }, { on := 6, ground := Ground.phase }, { on := 7, ground := Ground.phase }, { on := 8, ground := Ground.phase }, { on := 9, ground := Ground.phase }, { on := 10, ground := Ground.textOnly Departure.lateStores }, { on := 11, ground := Ground.phase }], guard := Option.none }) rfl (by kernel_rfl) (by kernel_rfl) (by kernel_rfl) (fun _ _ _ h => h) (Or.inl ⟨by rfl, _⟩) (by assumption) _
            rotate_left
            · (intro wS hSw; (try dsimp only at hSw); go_simp; try with_reducible rfl)
            try simp only [Act.put, nA, nB, nC]
            refine' wpAnyH_take (i := 13) (oi := ⟨some 12, .assign (.tmp 93), 4, "ref.go:150", #[⟨10, .data⟩, ⟨12, .chain⟩, ⟨0, .phase⟩, ⟨1, .phase⟩, ⟨2, .phase⟩, ⟨3, .phase⟩, ⟨4, .phase⟩, ⟨5, .phase⟩, ⟨6, .phase⟩, ⟨7, .phase⟩, ⟨8, .phase⟩, ⟨9, .phase⟩, ⟨10, .phase⟩, ⟨11, .phase⟩, ⟨12, .phase⟩], none⟩) rfl (by kernel_rfl) (by kernel_rfl) (by kernel_rfl) (fun _ _ _ h => h) (Or.inl ⟨by rfl, _⟩) (by assumption) _
            rotate_left
            · (intro wS hSw; (try dsimp only at hSw); go_simp; try with_reducible rfl)
            try simp only [Act.put, nA, nB, nC]
            refine wpAnyH_done (by kernel_rfl) ?_ _
            clear hHeld
            go_wp2_with fail
            rw [HR3.out]
            refine bodyPost_ret (v := .tuple #[dv R1, .slice (some ⟨g2, 0, none⟩) (xs.length + 1) cap2, .bool ok]) ?_ rfl ⟨_, rfl, by rw [HN.out]; exact OA.out.mono (by omega), by rw [HN.out]; exact BA.out⟩
            exact results_DTT Try.results48 rfl rfl rfl HR1.out EA.out
end Go.Proofs.Ytihbhpggpnmifaa

