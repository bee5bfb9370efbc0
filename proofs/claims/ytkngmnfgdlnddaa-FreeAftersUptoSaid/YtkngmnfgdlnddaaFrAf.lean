/-
  The walk of FreeAfters (arguments of a bulk of 1048576 at most).
-/
import Derived.Test.YtkngmnfgdlnddaaGS
import Derived.Test.YtkngmnfgdlnddaaGR
import Derived.Test.YtkngmnfgdlnddaaKptC
import Derived.Test.YtkngmnfgdlnddaaFrU
set_option linter.unusedSimpArgs false
set_option linter.unusedVariables false
namespace Go.Proofs.Ytkngmnfgdlnddaa
open Go.RowKit Go.Lib Hw Go.Maps
set_option linter.unusedSimpArgs false
set_option linter.unusedVariables false

theorem CRow.all4 {w : World} {v : Value} {cs : List (Nat × List Nat)} (h : CRow w v cs) {c : Nat × List Nat} (hc : c ∈ cs) : All4 c.2 := by
  obtain ⟨i, hi, rfl⟩ := List.mem_iff_getElem.1 hc
  obtain ⟨_, ad, cap, _, _, _, h3⟩ := h
  obtain ⟨b, o, _, _, h4⟩ := h3 (by omega)
  obtain ⟨nv, _, h5⟩ := h4 i hi
  exact h5.1
theorem LentC.form {w : World} {N : Nat} {v : Value} {cs : List (Nat × List Nat)} (h : LentC w N v cs) : ∃ ad n c, v = .slice ad n c := by
  obtain ⟨g, cap, bs, e, _⟩ := h
  exact ⟨_, _, _, e⟩
theorem LentC.mono {w : World} {N M : Nat} {v : Value} {cs : List (Nat × List Nat)} (h : LentC w N v cs) (hM : M ≤ N) : LentC w M v cs := by
  obtain ⟨g, cap, bs, e, h1, h2, h3⟩ := h
  exact ⟨g, cap, bs, e, h1.mono hM, h2, fun i hi => ⟨(h3 i hi).1, (h3 i hi).2.mono hM⟩⟩
theorem LentC.mod {w w' : World} {N T : Nat} {v : Value} {cs : List (Nat × List Nat)} (h : LentC w N v cs) (m : Mod (fun k => k = T) w w') (hT : T < N) : LentC w' N v cs := by
  obtain ⟨g, cap, bs, e, h1, h2, h3⟩ := h
  refine ⟨g, cap, bs, e, h1.mod m (fun q hq hs => by have := (h1.lt q hq).1; omega), h2, fun i hi => ⟨(h3 i hi).1, ?_⟩⟩
  obtain ⟨k0, k1, k2, k3, k4, k5⟩ := (h3 i hi).2
  exact ⟨k0, k1, k2, k3, k4, k5.mod m (fun q hq hs => by have := (k5.lt q hq).1; omega)⟩
theorem LentN.far {w w' : World} {N T : Nat} {v : Value} {l : List Nat} (h : LentN w N v l) (m : Mod (fun k => k = T) w w') (hT : T < N) : LentN w' N v l := by
  obtain ⟨k0, k1, k2, k3, k4, k5⟩ := h
  exact ⟨k0, k1, k2, k3, k4, k5.mod m (fun q hq hs => by have := (k5.lt q hq).1; omega)⟩
/-- the lent plan -/
structure LentPlan (w0 : World) (N T : Nat) (u1 u2 : Value) (ts : List Nat) (ls : List (Nat × List Nat)) (op : Int) (pg : Nat) (w : World) : Prop where
  t : w.heap[T]? = some (.cells #[u1, u2, .int .i64 op, .int .u32 (pg : Int)] 48 (0, 0))
  n : LentN w N u1 ts
  c : LentC w N u2 ls
  b : Below w0.heap.size w0 w
  l : w0.heap.size ≤ T
theorem wp_storeB {P : Program} {o : Oper} {a : Act} {w : World} {K : Act → World → Prop} {Q : Exit → Act → World → Prop} (ty : TypeId) (x y : Operand) (ho : o.op = .store ty x y)
    (g : Nat) (cells : Array Value) (hx : a.eval x = .pointer (some ⟨g, 0, none⟩)) (hy : a.eval y = .agg cells)
    (t : TypeId) (old : Array Value) (hg : w.heap[g]? = some (.cells old t (0, 0))) (hi : (P.info? ty).map (·.size) = some cells.size)
    (hold : old.size = cells.size) (h1 : cells.all (·.oneCell') = true)
    (h : ∀ W, W.heap[g]? = some (.cells cells t (0, 0)) → Mod (fun k => k = g) w W → K (a.put o.dst undef) W) : o.wp P a w K Q :=
  wp_store_row ty x y ho g cells hx hy t old hg hi hold h1 (h _ (setRow_heap w g old _ t _ hg) ⟨rfl, rfl, rfl, by simp, fun k hk hn => setRow_other w g k _ hn⟩)
theorem wp_allocB {P : Program} {o : Oper} {a : Act} {w : World} {K : Act → World → Prop} {Q : Exit → Act → World → Prop} (t : TypeId) (ho : o.op = .alloc t) (N : Nat) (hN : w.heap.size = N) (z : Value) (hz : ∀ w, (zeroValue t).run P w = .ok z w)
    (h : ∀ W, W.heap[N]? = some (.cells z.cells t (0, 0)) → Below N w W → W.heap.size = N + 1 → K (a.put o.dst (.pointer (some ⟨N, 0, none⟩))) W) : o.wp P a w K Q := by
  subst hN
  unfold Oper.wp execOp
  simp only [ho, Sem.run_bind, Instr.alloc, hz, newVar, newRow, run_newObj_alloc, Sem.run_pure, Result.andThen_ok]
  exact h _ (heap_new w _) ((Below.refl _ _).alloc (Nat.le_refl _) _) (by simp)
/-- what stands behind a region whose events have several orders -/
theorem tail_help {G : Prop} {C : Act → World → Prop} {F : Nat → Option Addr → Nat → Nat → Option Addr → Nat → Nat → World → Prop} (A : Nat → Option Addr → Nat → Nat → Option Addr → Nat → Nat → Act)
    (main : (∀ T a1 n1 k1 a2 n2 k2 wX, F T a1 n1 k1 a2 n2 k2 wX → C (A T a1 n1 k1 a2 n2 k2) wX) → G) (tail : ∀ T a1 n1 k1 a2 n2 k2 wX, F T a1 n1 k1 a2 n2 k2 wX → C (A T a1 n1 k1 a2 n2 k2) wX) : G := main tail
set_option maxRecDepth 5000 in
set_option maxHeartbeats 16000000 in
theorem FreeAfters_walk (cv pv : Value) (w : World) (hc : IsChainU w cv) (hp : IsPlanU w pv) : Calls Try.prog 12 #[cv, pv] w fun e w' => e = .returned (.bool true) ∧ Below w.heap.size w w' := by
  obtain ⟨cs, hcr, hcz1, hcz2⟩ := hc
  obtain ⟨tv, lv, ts, ls, op, pg, rfl, ⟨htr, htz⟩, ⟨hlr, hlz1, hlz2⟩, hpg, hop1, hop2⟩ := hp
  obtain ⟨cad, cc, hcv, hx1⟩ := hcr.form
  obtain ⟨lad, lc, hlv, hx2⟩ := hlr.form
  obtain ⟨tad, tc, htv, hx3, hx4⟩ := htr.form
  subst hcv hlv htv
  have HCR := Lib.hid hcr
  have HLR := Lib.hid hlr
  have HTR := Lib.hid htr
  obtain ⟨nc, hnc⟩ : ∃ k, cs.length = k := ⟨_, rfl⟩
  obtain ⟨nl, hnl⟩ : ∃ k, ls.length = k := ⟨_, rfl⟩
  obtain ⟨nt, hnt⟩ : ∃ k, ts.length = k := ⟨_, rfl⟩
  have HNC := Lib.hid hnc
  have HNL := Lib.hid hnl
  have HNT := Lib.hid hnt
  have HZ : Hid ((ls.length + cs.length) * 32 ≤ 140737488355328) := by show _ ≤ _; omega
  have HZ2 : Hid (∀ c ∈ ls ++ cs, c.2.length * 4 ≤ 140737488355328) := fun c h => by
    rcases List.mem_append.1 h with h | h
    · have := hlz2 c h; omega
    · have := hcz2 c h; omega
  have CZ1 : Hid (cs.length * 32 ≤ 140737488351232) := by show _ ≤ _; omega
  have CZ2 : Hid (∀ c ∈ cs, c.2.length * 4 ≤ 140737488351232) := fun c h => by have := hcz2 c h; omega
  have LZ1 : Hid (ls.length * 32 ≤ 140737488351232) := by show _ ≤ _; omega
  have LZ2 : Hid (∀ c ∈ ls, c.2.length * 4 ≤ 140737488351232) := fun c h => by have := hlz2 c h; omega
  have TZ : Hid (ts.length * 4 ≤ 140737488351232) := by show _ ≤ _; omega
  have HB20 : Hid (cs.length ≤ 1048576 ∧ (∀ c ∈ cs, c.2.length ≤ 1048576) ∧ ls.length ≤ 1048576 ∧ ∀ c ∈ ls, c.2.length ≤ 1048576) := ⟨hcz1, hcz2, hlz1, hlz2⟩
  rw [hnc] at HCR ⊢
  rw [hnl] at HLR ⊢
  rw [hnt] at HTR ⊢
  obtain ⟨N, hN⟩ : ∃ N, w.heap.size = N := ⟨_, rfl⟩
  have HN := Lib.hid hN
  rw [hN]
  clear hcr hlr htr hx1 hx2 hx3 hx4 hnc hnl hnt hcz1 hcz2 hlz1 hlz2 htz hN
  go_enter Try.func12, Try.ntmps12
  go_upto_region 0 with fail
  with_reducible refine wp_region_list ?_
  refine wpList_boxB rfl _ _ rfl N HN.out #[.slice tad nt tc, .slice lad nl lc, .int .i64 op, .int .u32 (pg : Int)] rfl ?_
  intro w1 e1 b1 z1
  (try simp only [Act.put, nA, nB, nC])
  with_reducible refine wpList_plain rfl ?_
  intro K hK
  go_simp
  first | with_reducible refine hK _ _ ?_ | refine hK _ _ ?_
  clear hK K
  (try simp only [Act.put, nA, nB, nC])
  have E1 := Lib.hid e1
  have B1 := Lib.hid b1
  have hz1 : N < w1.heap.size := heap_lt e1
  have c0 := heap_cell e1 (o := 0)
  have c1 := heap_cell e1 (o := 1)
  have c2 := heap_cell e1 (o := 2)
  have c3 := heap_cell e1 (o := 3)
  clear e1 b1 z1
  go_upto_region 1 with fail
  with_reducible refine wp_region_list ?_
  with_reducible refine wpList_plain rfl ?_
  intro K hK
  go_simp
  first | with_reducible refine hK _ _ ?_ | refine hK _ _ ?_
  clear hK K
  (try simp only [Act.put, nA, nB, nC])
  with_reducible refine wpList_plain rfl ?_
  intro K hK
  go_simp
  first | with_reducible refine hK _ _ ?_ | refine hK _ _ ?_
  clear hK K
  (try simp only [Act.put, nA, nB, nC])
  with_reducible refine wpList_plain rfl ?_
  intro K hK
  go_simp
  refine (refAfter_any (.slice lad nl lc) (.slice cad nc cc) (.slice tad nt tc) ls cs op (pg : Int) w1 (HLR.out.below (by rw [HN.out]; exact B1.out)) (HCR.out.below (by rw [HN.out]; exact B1.out)) HZ HZ2).mono ?_; rintro e w2 ⟨vw, rfl, bw, ow, dw, b2⟩; obtain ⟨wad, wc, hwv, hq1, hq2, hq3⟩ := ow.shape; obtain ⟨wn, hwn⟩ : ∃ n, bw.length = n := ⟨_, rfl⟩; rw [hwn] at hwv; subst hwv; clear hq1 hq2 hq3 hwn
  first | with_reducible refine hK _ _ ?_ | refine hK _ _ ?_
  clear hK K
  (try simp only [Act.put, nA, nB, nC])
  with_reducible refine wpList_plain rfl ?_
  intro K hK
  go_simp
  first | with_reducible refine hK _ _ ?_ | refine hK _ _ ?_
  clear hK K
  (try simp only [Act.put, nA, nB, nC])
  have B2 : Hid (Below N w w2) := B1.out.trans (b2.mono (by omega))
  have E2 := Lib.hid (heap_below E1.out b2 hz1)
  have hz2 : N < w2.heap.size := heap_lt E2.out
  have OW := Lib.hid ow
  have DW := Lib.hid dw
  clear b2 ow dw B1 E1 c0 c1 c2 c3
  go_upto_region 2 with fail
  with_reducible refine wp_region_list ?_
  with_reducible refine wpList_plain rfl ?_
  intro K hK
  go_simp
  first | with_reducible refine hK _ _ ?_ | refine hK _ _ ?_
  clear hK K
  (try simp only [Act.put, nA, nB, nC])
  with_reducible refine wpList_plain rfl ?_
  intro K hK
  go_simp
  refine (lentChain_any (.slice cad nc cc) cs w2 (HCR.out.below (by rw [HN.out]; exact B2.out)) CZ1 CZ2).mono ?_; rintro e w3 ⟨u, rfl, l3, b3⟩; obtain ⟨ug, ucap, ubs, hue, hl3, hl4⟩ := l3; rw [HNC.out] at hue; subst hue
  first | with_reducible refine hK _ _ ?_ | refine hK _ _ ?_
  clear hK K
  (try simp only [Act.put, nA, nB, nC])
  with_reducible refine wpList_plain rfl ?_
  intro K hK
  go_simp
  first | with_reducible refine hK _ _ ?_ | refine hK _ _ ?_
  clear hK K
  (try simp only [Act.put, nA, nB, nC])
  have LC3 : Hid (LentC w3 w2.heap.size (.slice (some ⟨ug, 0, none⟩) nc ucap) cs) := ⟨ug, ucap, ubs, by rw [HNC.out], hl3, hl4⟩
  have B3 : Hid (Below N w w3) := B2.out.trans (b3.mono (by omega))
  have e3 := heap_below E2.out b3 hz2
  have E3 := Lib.hid e3
  have hz3 : N < w3.heap.size := heap_lt e3
  have W3 : Hid (Below w2.heap.size w2 w3) := b3
  have c0 := heap_cell e3 (o := 0)
  have c1 := heap_cell e3 (o := 1)
  have c2 := heap_cell e3 (o := 2)
  have c3 := heap_cell e3 (o := 3)
  clear b3 hl3 hl4 B2 E2 e3
  go_upto_region 3 with fail
  rename_i Q0 K0 hK0
  refine' tail_help (C := Exit.then K0 Q0 Exit.normal) (F := fun T a1 n1 k1 a2 n2 k2 wX => LentPlan w3 w3.heap.size T (.slice a1 n1 k1) (.slice a2 n2 k2) ts ls op pg wX) _ (fun hTail => ?main) ?tail
  case main =>
    have hN3 : N < w3.drew.heap.size := hz3
    have hb3 : Below w3.heap.size w3 w3.drew := (Below.refl _ _).drew
    have HT : Hid (∀ W, Below w3.heap.size w3 W → Calls Try.prog 22 #[.slice tad nt tc] W fun e w' => ∃ u, e = .returned u ∧ LentN w' W.heap.size u ts ∧ Below W.heap.size W w') := fun W hW => lentNumbers_any _ ts W (HTR.out.below (by rw [HN.out]; exact B3.out.trans (hW.mono (by omega)))) TZ
    have HLL : Hid (∀ W, Below w3.heap.size w3 W → Calls Try.prog 38 #[.slice lad nl lc] W fun e w' => ∃ u, e = .returned u ∧ LentC w' W.heap.size u ls ∧ Below W.heap.size W w') := fun W hW => lentChain_any _ ls W (HLR.out.below (by rw [HN.out]; exact B3.out.trans (hW.mono (by omega)))) LZ1 LZ2
    refine wp_region_held_drew (S := fun W => W.cell? ⟨N, 0, none⟩ = some (.slice tad nt tc) ∧ W.cell? ⟨N, 1, none⟩ = some (.slice lad nl lc) ∧ W.cell? ⟨N, 2, none⟩ = some (.int .i64 op) ∧ W.cell? ⟨N, 3, none⟩ = some (.int .u32 (pg : Int))) (by kernel_rfl) ⟨c0, c1, c2, c3⟩ (fun hHeld => ?_)
    refine' wpAnyH_take (i := 0) (oi := ⟨some 15, .fieldAddr 48 (.tmp 3) 0, 0, "law.go:81", #[], none⟩) rfl (by kernel_rfl) (by kernel_rfl) (by kernel_rfl) (fun _ _ _ h => h) (Or.inl ⟨by rfl, _⟩) (by assumption) _
    rotate_left
    · (intro wS hSw; (try dsimp only at hSw); go_simp; try with_reducible rfl)
    try simp only [Act.put, nA, nB, nC]
    refine' wpAnyH_take (i := 1) (oi := ⟨some 16, .load 28 (.tmp 15), 28, "law.go:81", #[⟨0, .data⟩], none⟩) rfl (by kernel_rfl) (by kernel_rfl) (by kernel_rfl) (fun _ _ _ h => h) (Or.inl ⟨by rfl, _⟩) (by assumption) _
    rotate_left
    · (intro wS hSw; (try dsimp only at hSw); go_simp; try with_reducible rfl)
    try simp only [Act.put, nA, nB, nC]
    refine' wpAnyH_take (i := 3) (oi := ⟨some 18, .fieldAddr 48 (.tmp 3) 1, 0, "law.go:81", #[], none⟩) rfl (by kernel_rfl) (by kernel_rfl) (by kernel_rfl) (fun _ _ _ h => h) (Or.inl ⟨by rfl, _⟩) (by assumption) _
    rotate_left
    · (intro wS hSw; (try dsimp only at hSw); go_simp; try with_reducible rfl)
    try simp only [Act.put, nA, nB, nC]
    refine' wpAnyH_take (i := 4) (oi := ⟨some 19, .load 44 (.tmp 18), 44, "law.go:81", #[⟨3, .data⟩], none⟩) rfl (by kernel_rfl) (by kernel_rfl) (by kernel_rfl) (fun _ _ _ h => h) (Or.inl ⟨by rfl, _⟩) (by assumption) _
    rotate_left
    · (intro wS hSw; (try dsimp only at hSw); go_simp; try with_reducible rfl)
    try simp only [Act.put, nA, nB, nC]
    refine' wpAnyH_take (i := 6) (oi := ⟨some 21, .fieldAddr 48 (.tmp 3) 2, 0, "law.go:81", #[], none⟩) rfl (by kernel_rfl) (by kernel_rfl) (by kernel_rfl) (fun _ _ _ h => h) (Or.inl ⟨by rfl, _⟩) (by assumption) _
    rotate_left
    · (intro wS hSw; (try dsimp only at hSw); go_simp; try with_reducible rfl)
    try simp only [Act.put, nA, nB, nC]
    refine' wpAnyH_take (i := 7) (oi := ⟨some 22, .load 3 (.tmp 21), 3, "law.go:81", #[⟨6, .data⟩], none⟩) rfl (by kernel_rfl) (by kernel_rfl) (by kernel_rfl) (fun _ _ _ h => h) (Or.inl ⟨by rfl, _⟩) (by assumption) _
    rotate_left
    · (intro wS hSw; (try dsimp only at hSw); go_simp; try with_reducible rfl)
    try simp only [Act.put, nA, nB, nC]
    refine' wpAnyH_take (i := 8) (oi := ⟨some 23, .fieldAddr 48 (.tmp 3) 3, 0, "law.go:81", #[], none⟩) rfl (by kernel_rfl) (by kernel_rfl) (by kernel_rfl) (fun _ _ _ h => h) (Or.inl ⟨by rfl, _⟩) (by assumption) _
    rotate_left
    · (intro wS hSw; (try dsimp only at hSw); go_simp; try with_reducible rfl)
    try simp only [Act.put, nA, nB, nC]
    refine' wpAnyH_take (i := 9) (oi := ⟨some 24, .load 27 (.tmp 23), 27, "law.go:81", #[⟨8, .data⟩], none⟩) rfl (by kernel_rfl) (by kernel_rfl) (by kernel_rfl) (fun _ _ _ h => h) (Or.inl ⟨by rfl, _⟩) (by assumption) _
    rotate_left
    · (intro wS hSw; (try dsimp only at hSw); go_simp; try with_reducible rfl)
    try simp only [Act.put, nA, nB, nC]
    refine wpAnyH_ready (rs := [2, 11]) (by kernel_rfl) (by simp) ?_
    refine AllReadyH.cons (o := ⟨some 17, .call ⟨.value (.func 22), #[.tmp 16], #[28]⟩, 28, "law.go:81", #[⟨1, .data⟩], none⟩) rfl (fun K hK => ?_) (AllReadyH.cons (o := ⟨some 7, .alloc 48, 0, "law.go:81", #[], none⟩) rfl (fun K hK => ?_) AllReadyH.nil)
    · go_simp
      refine (HT.out _ hb3).mono ?_
      rintro e w4 ⟨u1, rfl, l4, b4⟩
      obtain ⟨a1, n1, k1, hu1⟩ := l4.form
      subst hu1
      have bw4 : Below w3.heap.size w3 w4 := hb3.trans b4
      have hz4 : N < w4.heap.size := Nat.lt_of_lt_of_le hz3 bw4.size
      refine hK.out _ _ ⟨(b4.cell (p := ⟨N, 0, none⟩) hN3).trans hHeld.1, (b4.cell (p := ⟨N, 1, none⟩) hN3).trans hHeld.2.1, (b4.cell (p := ⟨N, 2, none⟩) hN3).trans hHeld.2.2.1, (b4.cell (p := ⟨N, 3, none⟩) hN3).trans hHeld.2.2.2⟩ (fun hHeld => ?_)
      clear hK K
      (try simp only [Act.put, nA, nB, nC])
      refine wpAnyH_ready (rs := [5, 11]) (by kernel_rfl) (by simp) ?_
      refine AllReadyH.cons (o := ⟨some 20, .call ⟨.value (.func 38), #[.tmp 19], #[44]⟩, 44, "law.go:81", #[⟨4, .data⟩, ⟨2, .chain⟩], none⟩) rfl (fun K hK => ?_) (AllReadyH.cons (o := ⟨some 7, .alloc 48, 0, "law.go:81", #[], none⟩) rfl (fun K hK => ?_) AllReadyH.nil)
      · go_simp
        refine (HLL.out _ bw4).mono ?_
        rintro e w5 ⟨u2, rfl, l5, b5⟩
        obtain ⟨a2, n2, k2, hu2⟩ := l5.form
        subst hu2
        have bw5 : Below w3.heap.size w3 w5 := bw4.trans (b5.mono bw4.size)
        have L5 := l4.below b5
        refine hK.out _ _ ⟨(b5.cell (p := ⟨N, 0, none⟩) hz4).trans hHeld.1, (b5.cell (p := ⟨N, 1, none⟩) hz4).trans hHeld.2.1, (b5.cell (p := ⟨N, 2, none⟩) hz4).trans hHeld.2.2.1, (b5.cell (p := ⟨N, 3, none⟩) hz4).trans hHeld.2.2.2⟩ (fun hHeld => ?_)
        clear hK K
        (try simp only [Act.put, nA, nB, nC])
        refine' wpAnyH_take (i := 10) (oi := ⟨some 25, .build 48 #[(0, .tmp 17), (1, .tmp 20), (2, .tmp 22), (3, .tmp 24)], 48, "law.go:81", #[⟨2, .data⟩, ⟨5, .data⟩, ⟨7, .data⟩, ⟨9, .data⟩], none⟩) rfl (by kernel_rfl) (by kernel_rfl) (by kernel_rfl) (fun _ _ _ h => h) (Or.inl ⟨by rfl, _⟩) (by assumption) _
        rotate_left
        · (intro wS hSw; (try dsimp only at hSw); go_simp; try with_reducible rfl)
        try simp only [Act.put, nA, nB, nC]
        obtain ⟨T, hT⟩ : ∃ T, w5.heap.size = T := ⟨_, rfl⟩
        have hz5 := bw5.size
        have hsz5 := b5.size
        have hsz4 := bw4.size
        have hNT : N < T := by omega
        refine wpAnyH_ready (rs := [11]) (by kernel_rfl) (by simp) ?_
        refine AllReadyH.cons (o := ⟨some 7, .alloc 48, 0, "law.go:81", #[], none⟩) rfl (fun K hK => ?_) AllReadyH.nil
        refine step_of rfl (wp_allocB 48 rfl T hT (.agg #[.slice none 0 0, .slice none 0 0, .int .i64 0, .int .u32 0]) (fun _ => by kernel_rfl) ?_); intro w6 e6 b6 z6
        refine hK.out _ _ ?_ (fun hHeld => ?_)
        · exact ⟨(b6.cell (p := ⟨N, 0, none⟩) hNT).trans hHeld.1, (b6.cell (p := ⟨N, 1, none⟩) hNT).trans hHeld.2.1, (b6.cell (p := ⟨N, 2, none⟩) hNT).trans hHeld.2.2.1, (b6.cell (p := ⟨N, 3, none⟩) hNT).trans hHeld.2.2.2⟩
        clear hK K
        try simp only [Act.put, nA, nB, nC]
        have ET := e6
        refine wpAnyH_ready (rs := [12]) (by kernel_rfl) (by simp) ?_
        refine AllReadyH.cons (o := ⟨none, .store 48 (.tmp 7) (.tmp 25), 0, "law.go:81", #[⟨11, .data⟩, ⟨10, .data⟩, ⟨5, .chain⟩, ⟨0, .phase⟩, ⟨1, .phase⟩, ⟨2, .phase⟩, ⟨3, .phase⟩, ⟨4, .phase⟩, ⟨5, .phase⟩, ⟨6, .phase⟩, ⟨7, .phase⟩, ⟨8, .phase⟩, ⟨9, .phase⟩, ⟨10, .phase⟩, ⟨11, .phase⟩], none⟩) rfl (fun K hK => ?_) AllReadyH.nil
        refine step_of rfl (wp_storeB 48 _ _ rfl T #[.slice a1 n1 k1, .slice a2 n2 k2, .int .i64 op, .int .u32 (pg : Int)] rfl rfl 48 _ ET (by kernel_rfl) rfl (by simp [Value.oneCell']) ?_); intro w9 e9 m9
        refine hK.out _ _ ?_ (fun hHeld => ?_)
        · exact ⟨(m9.heapc (by omega) (fun e => by have e2 : N = T := e; omega)).trans hHeld.1, (m9.heapc (by omega) (fun e => by have e2 : N = T := e; omega)).trans hHeld.2.1, (m9.heapc (by omega) (fun e => by have e2 : N = T := e; omega)).trans hHeld.2.2.1, (m9.heapc (by omega) (fun e => by have e2 : N = T := e; omega)).trans hHeld.2.2.2⟩
        clear hK K
        try simp only [Act.put, nA, nB, nC]
        refine wpAnyH_done (by kernel_rfl) ?_ _
        refine hTail T a1 n1 k1 a2 n2 k2 w9 ⟨e9, ?_, ?_, ?_, by omega⟩
        · have h : Below w5.heap.size w5 w9 := by rw [hT]; exact b6.trans (m9.below (fun q hq hs => by omega) (by omega))
          exact (L5.below h).mono (by show w3.drew.heap.size ≥ _; exact Nat.le_refl _)
        · have h : Below w5.heap.size w5 w9 := by rw [hT]; exact b6.trans (m9.below (fun q hq hs => by omega) (by omega))
          exact (l5.below h).mono hsz4
        · have h : Below w5.heap.size w5 w9 := by rw [hT]; exact b6.trans (m9.below (fun q hq hs => by omega) (by omega))
          exact bw5.trans (h.mono hz5)
      · obtain ⟨T, hT⟩ : ∃ T, w4.heap.size = T := ⟨_, rfl⟩
        have hsz4 := bw4.size
        refine step_of rfl (wp_allocB 48 rfl T hT (.agg #[.slice none 0 0, .slice none 0 0, .int .i64 0, .int .u32 0]) (fun _ => by kernel_rfl) ?_)
        intro w6 e6 b6 z6
        have b6' : Below w4.heap.size w4 w6 := by rw [hT]; exact b6
        have bw6 : Below w3.heap.size w3 w6 := bw4.trans (b6'.mono hsz4)
        have hz6 : N < w6.heap.size := by omega
        refine hK.out _ _ ⟨(b6'.cell (p := ⟨N, 0, none⟩) hz4).trans hHeld.1, (b6'.cell (p := ⟨N, 1, none⟩) hz4).trans hHeld.2.1, (b6'.cell (p := ⟨N, 2, none⟩) hz4).trans hHeld.2.2.1, (b6'.cell (p := ⟨N, 3, none⟩) hz4).trans hHeld.2.2.2⟩ (fun hHeld => ?_)
        clear hK K
        (try simp only [Act.put, nA, nB, nC])
        refine wpAnyH_ready (rs := [5]) (by kernel_rfl) (by simp) ?_
        refine AllReadyH.cons (o := ⟨some 20, .call ⟨.value (.func 38), #[.tmp 19], #[44]⟩, 44, "law.go:81", #[⟨4, .data⟩, ⟨2, .chain⟩], none⟩) rfl (fun K hK => ?_) AllReadyH.nil
        go_simp
        (refine (HLL.out _ bw6).mono ?_; rintro e w5 ⟨u2, rfl, l5, b5⟩; obtain ⟨a2, n2, k2, hu2⟩ := l5.form; subst hu2)
        refine hK.out _ _ ?_ (fun hHeld => ?_)
        · exact ⟨(b5.cell (p := ⟨N, 0, none⟩) hz6).trans hHeld.1, (b5.cell (p := ⟨N, 1, none⟩) hz6).trans hHeld.2.1, (b5.cell (p := ⟨N, 2, none⟩) hz6).trans hHeld.2.2.1, (b5.cell (p := ⟨N, 3, none⟩) hz6).trans hHeld.2.2.2⟩
        clear hK K
        try simp only [Act.put, nA, nB, nC]
        refine' wpAnyH_take (i := 10) (oi := ⟨some 25, .build 48 #[(0, .tmp 17), (1, .tmp 20), (2, .tmp 22), (3, .tmp 24)], 48, "law.go:81", #[⟨2, .data⟩, ⟨5, .data⟩, ⟨7, .data⟩, ⟨9, .data⟩], none⟩) rfl (by kernel_rfl) (by kernel_rfl) (by kernel_rfl) (fun _ _ _ h => h) (Or.inl ⟨by rfl, _⟩) (by assumption) _
        rotate_left
        · (intro wS hSw; (try dsimp only at hSw); go_simp; try with_reducible rfl)
        try simp only [Act.put, nA, nB, nC]
        have hsz5 := b5.size
        have ET := heap_below e6 b5 (by omega)
        refine wpAnyH_ready (rs := [12]) (by kernel_rfl) (by simp) ?_
        refine AllReadyH.cons (o := ⟨none, .store 48 (.tmp 7) (.tmp 25), 0, "law.go:81", #[⟨11, .data⟩, ⟨10, .data⟩, ⟨5, .chain⟩, ⟨0, .phase⟩, ⟨1, .phase⟩, ⟨2, .phase⟩, ⟨3, .phase⟩, ⟨4, .phase⟩, ⟨5, .phase⟩, ⟨6, .phase⟩, ⟨7, .phase⟩, ⟨8, .phase⟩, ⟨9, .phase⟩, ⟨10, .phase⟩, ⟨11, .phase⟩], none⟩) rfl (fun K hK => ?_) AllReadyH.nil
        refine step_of rfl (wp_storeB 48 _ _ rfl T #[.slice a1 n1 k1, .slice a2 n2 k2, .int .i64 op, .int .u32 (pg : Int)] rfl rfl 48 _ ET (by kernel_rfl) rfl (by simp [Value.oneCell']) ?_); intro w9 e9 m9
        refine hK.out _ _ ?_ (fun hHeld => ?_)
        · exact ⟨(m9.heapc (by omega) (fun e => by have e2 : N = T := e; omega)).trans hHeld.1, (m9.heapc (by omega) (fun e => by have e2 : N = T := e; omega)).trans hHeld.2.1, (m9.heapc (by omega) (fun e => by have e2 : N = T := e; omega)).trans hHeld.2.2.1, (m9.heapc (by omega) (fun e => by have e2 : N = T := e; omega)).trans hHeld.2.2.2⟩
        clear hK K
        try simp only [Act.put, nA, nB, nC]
        refine wpAnyH_done (by kernel_rfl) ?_ _
        refine hTail T a1 n1 k1 a2 n2 k2 w9 ⟨e9, ?_, ?_, ?_, by omega⟩
        · have h : Below w4.heap.size w4 w9 := (b6'.trans (b5.mono (by omega))).trans (m9.below (fun q hq hs => by omega) (by omega))
          exact (l4.below h).mono (Nat.le_refl _)
        · exact (l5.mod m9 (by omega)).mono (by omega)
        · have h : Below w4.heap.size w4 w9 := (b6'.trans (b5.mono (by omega))).trans (m9.below (fun q hq hs => by omega) (by omega))
          exact bw4.trans (h.mono hsz4)
    · obtain ⟨T, hT⟩ : ∃ T, w3.drew.heap.size = T := ⟨_, rfl⟩
      have hT3 : w3.heap.size = T := hT
      refine step_of rfl (wp_allocB 48 rfl T hT (.agg #[.slice none 0 0, .slice none 0 0, .int .i64 0, .int .u32 0]) (fun _ => by kernel_rfl) ?_)
      intro w6 e6 b6 z6
      have b6' : Below w3.heap.size w3 w6 := hb3.trans (by rw [hT3]; exact b6)
      have hz6 : N < w6.heap.size := by omega
      have hzT : N < T := by omega
      refine hK.out _ _ ⟨(b6.cell (p := ⟨N, 0, none⟩) hzT).trans hHeld.1, (b6.cell (p := ⟨N, 1, none⟩) hzT).trans hHeld.2.1, (b6.cell (p := ⟨N, 2, none⟩) hzT).trans hHeld.2.2.1, (b6.cell (p := ⟨N, 3, none⟩) hzT).trans hHeld.2.2.2⟩ (fun hHeld => ?_)
      clear hK K
      (try simp only [Act.put, nA, nB, nC])
      refine wpAnyH_ready (rs := [2]) (by kernel_rfl) (by simp) ?_
      refine AllReadyH.cons (o := ⟨some 17, .call ⟨.value (.func 22), #[.tmp 16], #[28]⟩, 28, "law.go:81", #[⟨1, .data⟩], none⟩) rfl (fun K hK => ?_) AllReadyH.nil
      go_simp
      (refine (HT.out _ b6').mono ?_; rintro e w4 ⟨u1, rfl, l4, b4⟩; obtain ⟨a1, n1, k1, hu1⟩ := l4.form; subst hu1)
      refine hK.out _ _ ?_ (fun hHeld => ?_)
      · exact ⟨(b4.cell (p := ⟨N, 0, none⟩) hz6).trans hHeld.1, (b4.cell (p := ⟨N, 1, none⟩) hz6).trans hHeld.2.1, (b4.cell (p := ⟨N, 2, none⟩) hz6).trans hHeld.2.2.1, (b4.cell (p := ⟨N, 3, none⟩) hz6).trans hHeld.2.2.2⟩
      clear hK K
      try simp only [Act.put, nA, nB, nC]
      have bw4 : Below w3.heap.size w3 w4 := b6'.trans (b4.mono (by omega))
      have hsz4 := b4.size
      have hz4 : N < w4.heap.size := by omega
      refine wpAnyH_ready (rs := [5]) (by kernel_rfl) (by simp) ?_
      refine AllReadyH.cons (o := ⟨some 20, .call ⟨.value (.func 38), #[.tmp 19], #[44]⟩, 44, "law.go:81", #[⟨4, .data⟩, ⟨2, .chain⟩], none⟩) rfl (fun K hK => ?_) AllReadyH.nil
      go_simp
      (refine (HLL.out _ bw4).mono ?_; rintro e w5 ⟨u2, rfl, l5, b5⟩; obtain ⟨a2, n2, k2, hu2⟩ := l5.form; subst hu2)
      refine hK.out _ _ ?_ (fun hHeld => ?_)
      · exact ⟨(b5.cell (p := ⟨N, 0, none⟩) hz4).trans hHeld.1, (b5.cell (p := ⟨N, 1, none⟩) hz4).trans hHeld.2.1, (b5.cell (p := ⟨N, 2, none⟩) hz4).trans hHeld.2.2.1, (b5.cell (p := ⟨N, 3, none⟩) hz4).trans hHeld.2.2.2⟩
      clear hK K
      try simp only [Act.put, nA, nB, nC]
      refine' wpAnyH_take (i := 10) (oi := ⟨some 25, .build 48 #[(0, .tmp 17), (1, .tmp 20), (2, .tmp 22), (3, .tmp 24)], 48, "law.go:81", #[⟨2, .data⟩, ⟨5, .data⟩, ⟨7, .data⟩, ⟨9, .data⟩], none⟩) rfl (by kernel_rfl) (by kernel_rfl) (by kernel_rfl) (fun _ _ _ h => h) (Or.inl ⟨by rfl, _⟩) (by assumption) _
      rotate_left
      · (intro wS hSw; (try dsimp only at hSw); go_simp; try with_reducible rfl)
      try simp only [Act.put, nA, nB, nC]
      have hsz5 := b5.size
      have ET := heap_below (heap_below e6 b4 (by omega)) b5 (by omega)
      refine wpAnyH_ready (rs := [12]) (by kernel_rfl) (by simp) ?_
      refine AllReadyH.cons (o := ⟨none, .store 48 (.tmp 7) (.tmp 25), 0, "law.go:81", #[⟨11, .data⟩, ⟨10, .data⟩, ⟨5, .chain⟩, ⟨0, .phase⟩, ⟨1, .phase⟩, ⟨2, .phase⟩, ⟨3, .phase⟩, ⟨4, .phase⟩, ⟨5, .phase⟩, ⟨6, .phase⟩, ⟨7, .phase⟩, ⟨8, .phase⟩, ⟨9, .phase⟩, ⟨10, .phase⟩, ⟨11, .phase⟩], none⟩) rfl (fun K hK => ?_) AllReadyH.nil
      refine step_of rfl (wp_storeB 48 _ _ rfl T #[.slice a1 n1 k1, .slice a2 n2 k2, .int .i64 op, .int .u32 (pg : Int)] rfl rfl 48 _ ET (by kernel_rfl) rfl (by simp [Value.oneCell']) ?_); intro w9 e9 m9
      refine hK.out _ _ ?_ (fun hHeld => ?_)
      · exact ⟨(m9.heapc (by omega) (fun e => by have e2 : N = T := e; omega)).trans hHeld.1, (m9.heapc (by omega) (fun e => by have e2 : N = T := e; omega)).trans hHeld.2.1, (m9.heapc (by omega) (fun e => by have e2 : N = T := e; omega)).trans hHeld.2.2.1, (m9.heapc (by omega) (fun e => by have e2 : N = T := e; omega)).trans hHeld.2.2.2⟩
      clear hK K
      try simp only [Act.put, nA, nB, nC]
      refine wpAnyH_done (by kernel_rfl) ?_ _
      refine hTail T a1 n1 k1 a2 n2 k2 w9 ⟨e9, ?_, ?_, ?_, by omega⟩
      · exact ((l4.below b5).far m9 (by omega)).mono (by omega)
      · exact (l5.mod m9 (by omega)).mono (by omega)
      · exact (bw4.trans (b5.mono (by omega))).trans (m9.below (fun q hq hs => by omega) (by omega))
  case tail =>
    intro T a1 n1 k1 a2 n2 k2 w4 HF
    have hTr := HF.t
    have hTl := HF.l
    have B4 : Hid (Below N w w4) := B3.out.trans (HF.b.mono (by omega))
    have LC4 := Lib.hid (LC3.out.below HF.b)
    have TT4 := Lib.hid hTr
    have QN4 := Lib.hid HF.n
    have QC4 := Lib.hid HF.c
    have W4 : Hid (Below w2.heap.size w2 w4) := W3.out.trans (HF.b.mono W3.out.size)
    have E4 := Lib.hid (heap_below E3.out HF.b hz3)
    have hzT : T < w4.heap.size := heap_lt hTr
    have hzN : N < w4.heap.size := heap_lt E4.out
    have hz24 : w2.heap.size ≤ w4.heap.size := W4.out.size
    have hch := fun c h => HCR.out.1 c h
    have RL4 : Hid (CRow w4 (.slice (some ⟨ug, 0, none⟩) nc ucap) cs) := LC4.out.row (fun c h => hch c h)
    have RQ4 : Hid (CRow w4 (.slice a2 n2 k2) ls) := QC4.out.row (fun c h => HLR.out.1 c h)
    have WR4 : Hid (CRow w4 (.slice wad wn wc) (aftL cs op ls)) := by
      have h1 : CRow w2 (.slice wad wn wc) (aftL cs op ls) := DW.out.row OW.out (fun c hc => by
        unfold aftL at hc
        rcases List.mem_append.1 hc with h | h
        · exact ⟨HLR.out.1 c h, HLR.out.all4 h⟩
        · exact ⟨HCR.out.1 c (List.mem_of_mem_drop h), HCR.out.all4 (List.mem_of_mem_drop h)⟩)
      exact h1.below W4.out
    obtain ⟨AF, hAF⟩ : ∃ A, aftL cs op ls = A := ⟨_, rfl⟩
    have HAFl : Hid (AF.length ≤ 2097152 ∧ ∀ c ∈ AF, c.2.length ≤ 1048576 ∧ c.1 < 4294967296 ∧ All4 c.2) := by
      rw [← hAF]
      unfold aftL
      have h := HB20.out
      refine ⟨by rw [List.length_append, List.length_drop]; omega, fun c hc => ?_⟩
      rcases List.mem_append.1 hc with h2 | h2
      · exact ⟨h.2.2.2 c h2, HLR.out.1 c h2, HLR.out.all4 h2⟩
      · exact ⟨h.2.1 c (List.mem_of_mem_drop h2), HCR.out.1 c (List.mem_of_mem_drop h2), HCR.out.all4 (List.mem_of_mem_drop h2)⟩
    rw [hAF] at WR4
    have HAft : Hid (∀ W, Below w4.heap.size w4 W → Calls Try.prog 43 #[.slice (some ⟨ug, 0, none⟩) nc ucap, .agg #[.slice a1 n1 k1, .slice a2 n2 k2, .int .i64 op, .int .u32 (pg : Int)]] W fun e w' => ∃ v, e = .returned v ∧ ∃ bs, OwnC w' W.heap.size v bs ∧ Dealt w' W.heap.size v bs AF ∧ Below W.heap.size W w') := fun W hW => by
      have h := After_any (.slice a2 n2 k2) (.slice (some ⟨ug, 0, none⟩) nc ucap) (.slice a1 n1 k1) ls cs op (pg : Int) W (RQ4.out.below hW) (RL4.out.below hW) HZ HZ2
      rw [hAF] at h
      exact h
    have t0 := heap_cell hTr (o := 0)
    have t1 := heap_cell hTr (o := 1)
    have t2 := heap_cell hTr (o := 2)
    have t3 := heap_cell hTr (o := 3)
    clear HF hTr hTl hch hAF c0 c1 c2 c3 OW DW LC3 E3 W3 B3 hz3
    have hk := hK0
    refine hk _ _ ?_
    clear hk
    go_upto_region 4 with fail
    with_reducible refine wp_region_list ?_
    with_reducible refine wpList_plain rfl ?_
    intro K hK
    go_simp
    first | with_reducible refine hK _ _ ?_ | refine hK _ _ ?_
    clear hK K
    (try simp only [Act.put, nA, nB, nC])
    with_reducible refine wpList_plain rfl ?_
    intro K hK
    go_simp
    first | with_reducible refine hK _ _ ?_ | refine hK _ _ ?_
    clear hK K
    (try simp only [Act.put, nA, nB, nC])
    with_reducible refine wpList_plain rfl ?_
    intro K hK
    go_simp
    refine (HAft.out w4 (Below.refl _ _)).mono ?_; rintro e w5 ⟨va, rfl, ba, oa, da, b5⟩; obtain ⟨aad, ac, hav, hq1, hq2, hq3⟩ := oa.shape; obtain ⟨an, han⟩ : ∃ n, ba.length = n := ⟨_, rfl⟩; rw [han] at hav; subst hav; clear hq1 hq2 hq3 han
    first | with_reducible refine hK _ _ ?_ | refine hK _ _ ?_
    clear hK K
    (try simp only [Act.put, nA, nB, nC])
    with_reducible refine wpList_plain rfl ?_
    intro K hK
    go_simp
    first | with_reducible refine hK _ _ ?_ | refine hK _ _ ?_
    clear hK K
    (try simp only [Act.put, nA, nB, nC])
    have t0 := heap_below TT4.out b5 hzT
    have t1 := heap_cell t0 (o := 1)
    have t2 := heap_cell t0 (o := 2)
    have t3 := heap_cell t0 (o := 3)
    have t0 := heap_cell t0 (o := 0)
    have OA5 := Lib.hid oa
    have DA5 := Lib.hid da
    have B5 := Lib.hid b5
    clear oa da b5
    go_upto_region 5 with fail
    with_reducible refine wp_region_list ?_
    with_reducible refine wpList_plain rfl ?_
    intro K hK
    go_simp
    first | with_reducible refine hK _ _ ?_ | refine hK _ _ ?_
    clear hK K
    (try simp only [Act.put, nA, nB, nC])
    with_reducible refine wpList_plain rfl ?_
    intro K hK
    go_simp
    first | with_reducible refine hK _ _ ?_ | refine hK _ _ ?_
    clear hK K
    (try simp only [Act.put, nA, nB, nC])
    with_reducible refine wpList_plain rfl ?_
    intro K hK
    go_simp
    refine (HAft.out w5 B5.out).mono ?_; rintro e w6 ⟨vb, rfl, bb, ob, db, b6⟩; obtain ⟨bad, bc, hbv, hq1, hq2, hq3⟩ := ob.shape; obtain ⟨bn, hbn⟩ : ∃ n, bb.length = n := ⟨_, rfl⟩; rw [hbn] at hbv; subst hbv; clear hq1 hq2 hq3 hbn
    first | with_reducible refine hK _ _ ?_ | refine hK _ _ ?_
    clear hK K
    (try simp only [Act.put, nA, nB, nC])
    with_reducible refine wpList_plain rfl ?_
    intro K hK
    go_simp
    first | with_reducible refine hK _ _ ?_ | refine hK _ _ ?_
    clear hK K
    (try simp only [Act.put, nA, nB, nC])
    have hz5 : w4.heap.size ≤ w5.heap.size := B5.out.size
    have hz6 : w5.heap.size ≤ w6.heap.size := b6.size
    have B6 : Hid (Below w4.heap.size w4 w6) := B5.out.trans (b6.mono hz5)
    have OA6 := Lib.hid (OA5.out.below b6 (fun q hq => (OA5.out.lt q hq).2))
    have DA6 := Lib.hid (DA5.out.below b6)
    have OB6 := Lib.hid ob
    have DB6 := Lib.hid db
    have HLA : Hid (∀ z ∈ (Value.slice aad an ac) :: ba.map (·.2), ∀ g, z.ownBlock = some g → g < w5.heap.size) := fun z hz g hg => by
      rcases List.mem_cons.1 hz with rfl | hz
      · exact (OA5.out.lt g hg).2
      · obtain ⟨c, hc, rfl⟩ := List.mem_map.1 hz
        obtain ⟨j, hj, rfl⟩ := List.mem_iff_getElem.1 hc
        exact ((DA5.out.2.1 j (by have := DA5.out.1; omega)).2.1.lt g hg).2
    have RA6 : Hid (CRow w6 (.slice aad an ac) AF) := DA6.out.row OA6.out (fun c hc => (HAFl.out.2 c hc).2)
    have RB6 : Hid (CRow w6 (.slice bad bn bc) AF) := DB6.out.row OB6.out (fun c hc => (HAFl.out.2 c hc).2)
    have WR6 : Hid (CRow w6 (.slice wad wn wc) AF) := WR4.out.below B6.out
    clear b6 ob db t0 t1 t2 t3
    go_upto_region 6 with fail
    with_reducible refine wp_region_list ?_
    with_reducible refine wpList_plain rfl ?_
    intro K hK
    go_simp
    first | with_reducible refine hK _ _ ?_ | refine hK _ _ ?_
    clear hK K
    (try simp only [Act.put, nA, nB, nC])
    with_reducible refine wpList_plain rfl ?_
    intro K hK
    go_simp
    first | with_reducible refine hK _ _ ?_ | refine hK _ _ ?_
    clear hK K
    (try simp only [Act.put, nA, nB, nC])
    with_reducible refine wpList_plain rfl ?_
    intro K hK
    go_simp
    refine (Same_any _ _ AF AF w6 RA6 WR6).mono ?_; rintro e w7 ⟨rfl, b7⟩; rw [decide_eq_true rfl]
    first | with_reducible refine hK _ _ ?_ | refine hK _ _ ?_
    clear hK K
    (try simp only [Act.put, nA, nB, nC])
    with_reducible refine wpList_plain rfl ?_
    intro K hK
    go_simp
    first | with_reducible refine hK _ _ ?_ | refine hK _ _ ?_
    clear hK K
    (try simp only [Act.put, nA, nB, nC])
    with_reducible refine wpList_plain rfl ?_
    intro K hK
    go_simp
    first | with_reducible refine hK _ _ ?_ | refine hK _ _ ?_
    clear hK K
    (try simp only [Act.put, nA, nB, nC])
    with_reducible refine wpList_step ?_
    intro K hK
    rw [if_pos (by rfl)]
    go_simp
    first | with_reducible refine hK _ _ ?_ | refine hK _ _ ?_
    clear hK K
    (try simp only [Act.put, nA, nB, nC])
    with_reducible refine wpList_step ?_
    intro K hK
    rw [if_pos (by rfl)]
    go_simp
    first | with_reducible refine hK _ _ ?_ | refine hK _ _ ?_
    clear hK K
    (try simp only [Act.put, nA, nB, nC])
    with_reducible refine wpList_step ?_
    intro K hK
    rw [if_pos (by rfl)]
    go_simp
    refine (Same_any _ _ AF AF w7 (RB6.out.below b7) (WR6.out.below b7)).mono ?_; rintro e w8 ⟨rfl, b8⟩; rw [decide_eq_true rfl]
    first | with_reducible refine hK _ _ ?_ | refine hK _ _ ?_
    clear hK K
    (try simp only [Act.put, nA, nB, nC])
    with_reducible refine wpList_step ?_
    intro K hK
    rw [if_pos (by rfl)]
    go_simp
    first | with_reducible refine hK _ _ ?_ | refine hK _ _ ?_
    clear hK K
    (try simp only [Act.put, nA, nB, nC])
    with_reducible refine wpList_plain rfl ?_
    intro K hK
    go_simp
    first | with_reducible refine hK _ _ ?_ | refine hK _ _ ?_
    clear hK K
    (try simp only [Act.put, nA, nB, nC])
    with_reducible refine wpList_plain rfl ?_
    intro K hK
    go_simp
    first | with_reducible refine hK _ _ ?_ | refine hK _ _ ?_
    clear hK K
    (try simp only [Act.put, nA, nB, nC])
    with_reducible refine wpList_step ?_
    intro K hK
    rw [if_pos (by rfl)]
    go_simp
    first | with_reducible refine hK _ _ ?_ | refine hK _ _ ?_
    clear hK K
    (try simp only [Act.put, nA, nB, nC])
    have b68 : Below w6.heap.size w6 w8 := b7.trans (b8.mono b7.size)
    have B68 := Lib.hid b68
    have HFa : Hid (∀ b ∈ ba, ∃ ad n c, b.2 = .slice ad n c) := fun b hb => by
      obtain ⟨j, hj, rfl⟩ := List.mem_iff_getElem.1 hb
      obtain ⟨ad, cp, e, _⟩ := (DA5.out.2.1 j (by have := DA5.out.1; omega)).2.1.shape
      exact ⟨_, _, _, e⟩
    have HFb : Hid (∀ b ∈ bb, ∃ ad n c, b.2 = .slice ad n c) := fun b hb => by
      obtain ⟨j, hj, rfl⟩ := List.mem_iff_getElem.1 hb
      obtain ⟨ad, cp, e, _⟩ := (DB6.out.2.1 j (by have := DB6.out.1; omega)).2.1.shape
      exact ⟨_, _, _, e⟩
    have hla : ba.length ≤ 2097152 := by have := DA5.out.1; have := HAFl.out.1; omega
    have hlb : bb.length ≤ 2097152 := by have := DB6.out.1; have := HAFl.out.1; omega
    have RDa : Hid (ReadR 2 w8 (.slice aad an ac) ba.length (brow ba)) := (OA6.out.toR.read).below b68
    have RDb : Hid (ReadR 2 w8 (.slice bad bn bc) bb.length (brow bb)) := (OB6.out.toR.read).below b68
    clear b7 b8 b68
    with_reducible refine wpList_step ?_
    intro K hK
    rw [if_pos (by rfl)]
    go_simp
    refine (inner_any _ ba w8 RDa HFa (by show _ ≤ _; omega)).mono ?_; rintro e w9 ⟨v9, rfl, o9, b9⟩
    first | with_reducible refine hK _ _ ?_ | refine hK _ _ ?_
    clear hK K
    (try simp only [Act.put, nA, nB, nC])
    with_reducible refine wpList_step ?_
    intro K hK
    rw [if_pos (by rfl)]
    go_simp
    first | with_reducible refine hK _ _ ?_ | refine hK _ _ ?_
    clear hK K
    (try simp only [Act.put, nA, nB, nC])
    with_reducible refine wpList_step ?_
    intro K hK
    rw [if_pos (by rfl)]
    go_simp
    refine (inner_any _ bb w9 (RDb.out.below b9) HFb (by show _ ≤ _; omega)).mono ?_; rintro e w10 ⟨v10, rfl, o10, b10⟩
    first | with_reducible refine hK _ _ ?_ | refine hK _ _ ?_
    clear hK K
    (try simp only [Act.put, nA, nB, nC])
    have hz8 : w6.heap.size ≤ w8.heap.size := B68.out.size
    have O9 := o9.below b10
    obtain ⟨ti, hti, tz0, tz1, tz2⟩ := info_parts info_V
    with_reducible refine wpList_step ?_
    intro K hK
    rw [if_pos (by rfl)]
    refine wp_appR 42 28 ti _ 1 24 Try.underlying42 hti tz0 tz1 tz2 rfl (by decide) w10 _ _ rfl w8.heap.size _ _ _ rfl O9 _ rfl bb.length _ (src_read _ _ Try.underlying42 1 o10.read DB6.out.one) (by omega) (by have := b9.size; have := b10.size; omega) ?_
    intro v11 w11 o11 g11
    refine hK _ _ ?_
    clear hK K
    obtain ⟨xad, xc, hx11, hx12⟩ := o11.form
    obtain ⟨xn, hxn⟩ : ∃ n, ba.length + bb.length = n := ⟨_, rfl⟩
    rw [hxn] at hx11
    subst hx11
    (try simp only [Act.put, nA, nB, nC])
    with_reducible refine wpList_step ?_
    intro K hK
    rw [if_pos (by rfl)]
    go_simp
    first | with_reducible refine hK _ _ ?_ | refine hK _ _ ?_
    clear hK K
    (try simp only [Act.put, nA, nB, nC])
    with_reducible refine wpList_step ?_
    intro K hK
    rw [if_pos (by rfl)]
    go_simp
    first | with_reducible refine hK _ _ ?_ | refine hK _ _ ?_
    clear hK K
    (try simp only [Act.put, nA, nB, nC])
    with_reducible refine wpList_step ?_
    intro K hK
    rw [if_pos (by rfl)]
    go_simp
    first | with_reducible refine hK _ _ ?_ | refine hK _ _ ?_
    clear hK K
    (try simp only [Act.put, nA, nB, nC])
    obtain ⟨g, hg⟩ : ∃ g, w11.heap.size = g := ⟨_, rfl⟩
    obtain ⟨w12, hw12⟩ : ∃ W, w11.alloc (.cells #[.slice aad an ac, .slice bad bn bc] 44) = W := ⟨_, rfl⟩
    have b12 : Below w11.heap.size w11 w12 := by rw [← hw12]; exact (Below.refl _ _).alloc (Nat.le_refl _) _
    have r12 : w12.heap[g]? = some (.cells #[.slice aad an ac, .slice bad bn bc] 44 (0, 0)) := by rw [← hw12, ← hg]; exact heap_alloc_new w11 _
    have hs9 := b9.size
    have hs10 := b10.size
    have b11 : Below w8.heap.size w8 w11 := by
      refine (b9.trans (b10.mono hs9)).trans ?_
      rcases g11 with ⟨_, _, _, _, m5⟩ | ⟨b5, _⟩
      · exact m5.below (fun q hq hs => by have := (o9.lt q hs).1; omega) (by omega)
      · exact b5.mono (by omega)
    have hs11 := b11.size
    have b812 : Below w8.heap.size w8 w12 := b11.trans (b12.mono hs11)
    have B612 : Hid (Below w6.heap.size w6 w12) := B68.out.trans (b812.mono hz8)
    have OA12 := OA6.out.below B612.out (fun q hq => (OA6.out.lt q hq).2)
    have OB12 := OB6.out.below B612.out (fun q hq => (OB6.out.lt q hq).2)
    have DA12 := DA6.out.below B612.out
    have DB12 := DB6.out.below B612.out
    have HALL : ∀ z ∈ (ba.map (·.2) ++ bb.map (·.2)) ++ [.slice aad an ac, .slice bad bn bc], ∀ q, z.ownBlock = some q → w4.heap.size ≤ q ∧ q < w6.heap.size := fun z hz q hq => by
      rcases List.mem_append.1 hz with hz | hz
      · rcases List.mem_append.1 hz with hz | hz
        · exact DA6.out.lt z hz q hq
        · have := DB6.out.lt z hz q hq; omega
      · rcases List.mem_cons.1 hz with rfl | hz
        · exact OA6.out.lt q hq
        · rw [List.mem_singleton.1 hz] at hq
          have := OB6.out.lt q hq; omega
    have hvn : (ba.map (·.2) ++ bb.map (·.2)).length = xn := by rw [List.length_append, List.length_map, List.length_map, hxn]
    have HAP := Lib.hid (apart_own (.slice xad xn xc) (.slice (some ⟨g, 0, none⟩) 2 2) (ba.map (·.2) ++ bb.map (·.2)) [.slice aad an ac, .slice bad bn bc] w12 (by rw [hvn, ← hxn]; have h := o11.read.below b12; rw [hxn] at h ⊢; exact h) (readR_pair w12 g _ _ _ r12)
      (sep_two DA12 OA12 DB12 OB12 HLA.out)
      (fun q hq z hz e => by have := (HALL z hz q e).2; have := (o11.lt q (by exact hq)).1; omega)
      (fun q hq z hz e => by have := (HALL z hz q e).2; have e2 : g = q := Option.some.inj hq; omega)
      (fun z hz => by
        rcases List.mem_append.1 hz with hz | hz
        · exact DA12.ownR (fun c hc => by have := (HAFl.out.2 c hc).1; omega) z hz
        · exact DB12.ownR (fun c hc => by have := (HAFl.out.2 c hc).1; omega) z hz)
      (fun z hz => by
        rcases List.mem_cons.1 hz with rfl | hz
        · exact ⟨_, _, by omega, (OA12.toR).mono (Nat.zero_le _)⟩
        · rw [List.mem_singleton.1 hz]
          exact ⟨_, _, by omega, (OB12.toR).mono (Nat.zero_le _)⟩)
      (by rw [hvn]; omega) (by show 2 ≤ _; omega))
    rw [hw12, hg]
    with_reducible refine wpList_step ?_
    intro K hK
    rw [if_pos (by rfl)]
    go_simp
    refine HAP.out.mono ?_; rintro e w13 ⟨rfl, m13⟩
    first | with_reducible refine hK _ _ ?_ | refine hK _ _ ?_
    clear hK K
    (try simp only [Act.put, nA, nB, nC])
    with_reducible refine wpList_step ?_
    intro K hK
    rw [if_pos (by rfl)]
    go_simp
    first | with_reducible refine hK _ _ ?_ | refine hK _ _ ?_
    clear hK K
    (try simp only [Act.put, nA, nB, nC])
    with_reducible refine wpList_plain rfl ?_
    intro K hK
    go_simp
    first | with_reducible refine hK _ _ ?_ | refine hK _ _ ?_
    clear hK K
    (try simp only [Act.put, nA, nB, nC])
    have B13 : Hid (Below w4.heap.size w4 w13) := (B6.out.trans (B612.out.mono (by omega))).trans (m13.below (fun q hq hs => by obtain ⟨z, hz, e⟩ := hs; have := (HALL z hz q e).1; omega) (by have := B612.out.size; omega))
    clear HAP m13 HALL hvn hxn b12 r12 b11 b812 hs9 hs10 hs11 OA12 OB12 DA12 DB12 hw12 hg o11 g11 O9 o9 o10 b9 b10 hti tz0 tz1 tz2 RDa RDb hla hlb HFa HFb B68 RA6 RB6 WR6 HLA OA6 OB6 DA6 DB6 B6 B612 hz6 hz5 hz8 hx12 OA5 DA5 B5
    have hz13 : w4.heap.size ≤ w13.heap.size := B13.out.size
    have TT13 := heap_below TT4.out B13.out hzT
    have E13 := heap_below E4.out B13.out hzN
    have t0 := heap_cell TT13 (o := 0)
    have t1 := heap_cell TT13 (o := 1)
    have t2 := heap_cell TT13 (o := 2)
    have t3 := heap_cell TT13 (o := 3)
    have p0 := heap_cell E13 (o := 0)
    have p1 := heap_cell E13 (o := 1)
    clear TT13 E13
    go_upto_region 8 with fail
    with_reducible refine wp_region_list ?_
    with_reducible refine wpList_plain rfl ?_
    intro K hK
    go_simp
    first | with_reducible refine hK _ _ ?_ | refine hK _ _ ?_
    clear hK K
    (try simp only [Act.put, nA, nB, nC])
    with_reducible refine wpList_plain rfl ?_
    intro K hK
    go_simp
    first | with_reducible refine hK _ _ ?_ | refine hK _ _ ?_
    clear hK K
    (try simp only [Act.put, nA, nB, nC])
    with_reducible refine wpList_plain rfl ?_
    intro K hK
    go_simp
    refine (keptChain_any _ _ cs w2.heap.size w13 (LC4.out.below B13.out) (HCR.out.below (by rw [HN.out]; exact B4.out.trans (B13.out.mono (by omega)))) CZ1 CZ2).mono ?_; rintro e w14 ⟨rfl, b14⟩
    first | with_reducible refine hK _ _ ?_ | refine hK _ _ ?_
    clear hK K
    (try simp only [Act.put, nA, nB, nC])
    have C14 : Hid (Below w4.heap.size w4 w14) := B13.out.trans (b14.mono hz13)
    have hz14 : w4.heap.size ≤ w14.heap.size := C14.out.size
    have TT14 := heap_below TT4.out C14.out hzT
    have E14 := heap_below E4.out C14.out hzN
    have t1 := heap_cell TT14 (o := 1)
    have p1 := heap_cell E14 (o := 1)
    clear b14
    with_reducible refine wpList_plain rfl ?_
    intro K hK
    go_simp
    first | with_reducible refine hK _ _ ?_ | refine hK _ _ ?_
    clear hK K
    (try simp only [Act.put, nA, nB, nC])
    with_reducible refine wpList_step ?_
    intro K hK
    rw [if_pos (by rfl)]
    go_simp
    first | with_reducible refine hK _ _ ?_ | refine hK _ _ ?_
    clear hK K
    (try simp only [Act.put, nA, nB, nC])
    with_reducible refine wpList_step ?_
    intro K hK
    rw [if_pos (by rfl)]
    go_simp
    first | with_reducible refine hK _ _ ?_ | refine hK _ _ ?_
    clear hK K
    (try simp only [Act.put, nA, nB, nC])
    with_reducible refine wpList_step ?_
    intro K hK
    rw [if_pos (by rfl)]
    go_simp
    first | with_reducible refine hK _ _ ?_ | refine hK _ _ ?_
    clear hK K
    (try simp only [Act.put, nA, nB, nC])
    with_reducible refine wpList_step ?_
    intro K hK
    rw [if_pos (by rfl)]
    go_simp
    first | with_reducible refine hK _ _ ?_ | refine hK _ _ ?_
    clear hK K
    (try simp only [Act.put, nA, nB, nC])
    clear t1 p1
    with_reducible refine wpList_step ?_
    intro K hK
    rw [if_pos (by rfl)]
    go_simp
    refine (keptChain_any _ _ ls w3.heap.size w14 (QC4.out.below C14.out) (HLR.out.below (by rw [HN.out]; exact B4.out.trans (C14.out.mono (by omega)))) LZ1 LZ2).mono ?_; rintro e w15 ⟨rfl, b15⟩
    first | with_reducible refine hK _ _ ?_ | refine hK _ _ ?_
    clear hK K
    (try simp only [Act.put, nA, nB, nC])
    with_reducible refine wpList_plain rfl ?_
    intro K hK
    go_simp
    first | with_reducible refine hK _ _ ?_ | refine hK _ _ ?_
    clear hK K
    (try simp only [Act.put, nA, nB, nC])
    with_reducible refine wpList_plain rfl ?_
    intro K hK
    go_simp
    first | with_reducible refine hK _ _ ?_ | refine hK _ _ ?_
    clear hK K
    (try simp only [Act.put, nA, nB, nC])
    have C15 : Hid (Below w4.heap.size w4 w15) := C14.out.trans (b15.mono hz14)
    have hz15 : w4.heap.size ≤ w15.heap.size := C15.out.size
    have TT15 := heap_below TT4.out C15.out hzT
    have E15 := heap_below E4.out C15.out hzN
    have t0 := heap_cell TT15 (o := 0)
    have p0 := heap_cell E15 (o := 0)
    clear b15 TT14 E14 C14
    with_reducible refine wpList_step ?_
    intro K hK
    rw [if_pos (by rfl)]
    go_simp
    first | with_reducible refine hK _ _ ?_ | refine hK _ _ ?_
    clear hK K
    (try simp only [Act.put, nA, nB, nC])
    with_reducible refine wpList_step ?_
    intro K hK
    rw [if_pos (by rfl)]
    go_simp
    first | with_reducible refine hK _ _ ?_ | refine hK _ _ ?_
    clear hK K
    (try simp only [Act.put, nA, nB, nC])
    with_reducible refine wpList_step ?_
    intro K hK
    rw [if_pos (by rfl)]
    go_simp
    first | with_reducible refine hK _ _ ?_ | refine hK _ _ ?_
    clear hK K
    (try simp only [Act.put, nA, nB, nC])
    with_reducible refine wpList_step ?_
    intro K hK
    rw [if_pos (by rfl)]
    go_simp
    first | with_reducible refine hK _ _ ?_ | refine hK _ _ ?_
    clear hK K
    (try simp only [Act.put, nA, nB, nC])
    clear t0 p0
    with_reducible refine wpList_step ?_
    intro K hK
    rw [if_pos (by rfl)]
    go_simp
    refine (keptNumbers_any _ _ ts ts w3.heap.size w15 (QN4.out.below C15.out) (HTR.out.below (by rw [HN.out]; exact B4.out.trans (C15.out.mono (by omega)))) TZ).mono ?_; rintro e w16 ⟨rfl, b16⟩; rw [decide_eq_true rfl]
    first | with_reducible refine hK _ _ ?_ | refine hK _ _ ?_
    clear hK K
    (try simp only [Act.put, nA, nB, nC])
    with_reducible refine wpList_plain rfl ?_
    intro K hK
    go_simp
    first | with_reducible refine hK _ _ ?_ | refine hK _ _ ?_
    clear hK K
    (try simp only [Act.put, nA, nB, nC])
    with_reducible refine wpList_plain rfl ?_
    intro K hK
    go_simp
    first | with_reducible refine hK _ _ ?_ | refine hK _ _ ?_
    clear hK K
    (try simp only [Act.put, nA, nB, nC])
    have C16 : Hid (Below w4.heap.size w4 w16) := C15.out.trans (b16.mono hz15)
    have hz16 : w4.heap.size ≤ w16.heap.size := C16.out.size
    have TT16 := heap_below TT4.out C16.out hzT
    have t0 := heap_cell TT16 (o := 0)
    have t1 := heap_cell TT16 (o := 1)
    have t2 := heap_cell TT16 (o := 2)
    have t3 := heap_cell TT16 (o := 3)
    clear b16 TT15 E15 C15
    with_reducible refine wpList_step ?_
    intro K hK
    rw [if_pos (by rfl)]
    go_simp
    first | with_reducible refine hK _ _ ?_ | refine hK _ _ ?_
    clear hK K
    (try simp only [Act.put, nA, nB, nC])
    with_reducible refine wpList_step ?_
    intro K hK
    rw [if_pos (by rfl)]
    go_simp
    first | with_reducible refine hK _ _ ?_ | refine hK _ _ ?_
    clear hK K
    (try simp only [Act.put, nA, nB, nC])
    with_reducible refine wpList_step ?_
    intro K hK
    rw [if_pos (by rfl)]
    go_simp
    refine (HAft.out w16 C16.out).mono ?_; rintro e w17 ⟨vc, rfl, bcs, oc, dc, b17⟩; obtain ⟨ccad, ccc, hccv, hq1, hq2, hq3⟩ := oc.shape; obtain ⟨ccn, hccn⟩ : ∃ n, bcs.length = n := ⟨_, rfl⟩; rw [hccn] at hccv; subst hccv; clear hq1 hq2 hq3 hccn
    first | with_reducible refine hK _ _ ?_ | refine hK _ _ ?_
    clear hK K
    (try simp only [Act.put, nA, nB, nC])
    clear t0 t1 t2 t3 TT16
    with_reducible refine wpList_step ?_
    intro K hK
    rw [if_pos (by rfl)]
    go_simp
    first | with_reducible refine hK _ _ ?_ | refine hK _ _ ?_
    clear hK K
    (try simp only [Act.put, nA, nB, nC])
    have C17 : Hid (Below w4.heap.size w4 w17) := C16.out.trans (b17.mono hz16)
    have hz17 : w4.heap.size ≤ w17.heap.size := C17.out.size
    have RC17 := Lib.hid (dc.row oc (fun c hc => (HAFl.out.2 c hc).2))
    clear b17 C16 oc dc
    with_reducible refine wpList_step ?_
    intro K hK
    rw [if_pos (by rfl)]
    go_simp
    refine (Same_any _ _ AF AF w17 RC17 (WR4.out.below C17.out)).mono ?_; rintro e w18 ⟨rfl, b18⟩; rw [decide_eq_true rfl]
    first | with_reducible refine hK _ _ ?_ | refine hK _ _ ?_
    clear hK K
    (try simp only [Act.put, nA, nB, nC])
    with_reducible refine wpList_plain rfl ?_
    intro K hK
    go_simp
    first | with_reducible refine hK _ _ ?_ | refine hK _ _ ?_
    clear hK K
    (try simp only [Act.put, nA, nB, nC])
    with_reducible refine wpList_plain rfl ?_
    intro K hK
    go_simp
    first | with_reducible refine hK _ _ ?_ | refine hK _ _ ?_
    clear hK K
    (try simp only [Act.put, nA, nB, nC])
    have C18 : Hid (Below w4.heap.size w4 w18) := C17.out.trans (b18.mono hz17)
    have hz18 : w4.heap.size ≤ w18.heap.size := C18.out.size
    clear b18 RC17 C17
    with_reducible refine wpList_step ?_
    intro K hK
    rw [if_pos (by rfl)]
    go_simp
    refine (awake_any w18).mono ?_; rintro e w19 ⟨rfl, b19⟩
    first | with_reducible refine hK _ _ ?_ | refine hK _ _ ?_
    clear hK K
    (try simp only [Act.put, nA, nB, nC])
    with_reducible refine wpList_plain rfl ?_
    intro K hK
    go_simp
    first | with_reducible refine hK _ _ ?_ | refine hK _ _ ?_
    clear hK K
    (try simp only [Act.put, nA, nB, nC])
    with_reducible refine wpList_plain rfl ?_
    intro K hK
    go_simp
    first | with_reducible refine hK _ _ ?_ | refine hK _ _ ?_
    clear hK K
    (try simp only [Act.put, nA, nB, nC])
    have B19 : Hid (Below N w w19) := B4.out.trans ((C18.out.trans (b19.mono hz18)).mono (by omega))
    clear b19 C18
    go_wp2_with fail
    go_ret
    exact ⟨rfl, B19.out⟩
end Go.Proofs.Ytkngmnfgdlnddaa

