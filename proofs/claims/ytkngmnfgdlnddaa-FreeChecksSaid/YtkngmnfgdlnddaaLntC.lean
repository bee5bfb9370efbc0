/-
  Chains that are lent: with marks behind them.
-/
import Derived.Test.YtkngmnfgdlnddaaLntN
namespace Go.Proofs.Ytkngmnfgdlnddaa
open Go.RowKit Go.Lib Hw Go.Maps
set_option linter.unusedSimpArgs false
set_option linter.unusedVariables false

/-- append(bs, b), to the end of what a row may hold -/
theorem wp_appC2 {o : Oper} {a : Act} {K : Act → World → Prop} {Q : Exit → Act → World → Prop} (W : World) (b : Nat × Value) (hb1 : b.2.oneCell' = true) (s y : Operand) (ho : o.op = .call { callee := .builtin .append, args := #[s, y], argTypes := #[44, 44] })
    (B : Nat) (v : Value) (bs : List (Nat × Value)) (hs : a.eval s = v) (hown : OwnC W B v bs) (g c : Nat) (hy : a.eval y = .slice (some ⟨g, 0, none⟩) 1 c) (hn : W.heap[g]? = some (.cells (bpair b).toArray 64 (0, 0)))
    (hlen : (bs.length + 1) * 32 ≤ 140737488355328) (hB : B ≤ W.heap.size)
    (h : ∀ v' w', OwnC w' B v' (bs ++ [b]) → Mod (fun k => v.ownBlock = some k) W w' → From W v v' → K (a.put o.dst v') w') : o.wp Try.prog a W K Q := by
  obtain ⟨i, hi, hz0, hz1, hz2⟩ := info_parts info_C
  refine wp_append_lies W s y 44 ho B 64 i (.agg #[.int .u32 0, .slice none 0 0]) 2 32 Try.underlying44 hi hz0 hz1 hz2 rfl (by decide) v bs.length (brow bs) hs hown ⟨g, 0, none⟩ 1 c (bpair b) hy rfl ?_ (fun u hu => ?_) (by decide) (by rw [maxLen_eq]; omega) (by omega) hB W.heap.size rfl ?_
  · intro j u hu
    have hadd : (⟨g, 0, none⟩ : Addr).add j = ⟨g, j, none⟩ := by unfold Addr.add; split <;> simp_all
    rw [hadd, heap_cell hn, List.getElem?_toArray]
    exact hu
  · rcases List.mem_cons.1 hu with rfl | hu
    · rfl
    · rw [List.mem_singleton.1 hu]; exact hb1
  · intro g' cap w' h1 h2 h3 _
    refine h _ w' ?_ (Mod.grown h2 (fun k e => e)) (fun k hk => ?_)
    · unfold OwnC
      have e : brow (bs ++ [b]) = brow bs ++ bpair b := by simp [brow]
      rw [List.length_append, e]
      exact h1
    · have hk' : g' = k := by simpa [Value.ownBlock] using hk
      subst hk'
      exact h3.imp id (fun e => Nat.le_of_eq e.symm)
/-- the batches that stand behind a lent chain -/
def marksC (k : Nat) : List (Nat × Value) := (List.range k).map (fun i => (800000 + i, Value.slice none 0 0))
theorem marksC_succ (k : Nat) : marksC (k + 1) = marksC k ++ [(800000 + k, .slice none 0 0)] := by unfold marksC; rw [List.range_succ, List.map_append]; rfl
theorem marksC_len (k : Nat) : (marksC k).length = k := by unfold marksC; simp
/-- the batches told so far, each list lent -/
def LentB (w : World) (N : Nat) (bs : List (Nat × Value)) (cs : List (Nat × List Nat)) : Prop := ∃ h : bs.length = cs.length, ∀ i (hi : i < cs.length), (bs[i]).1 = cs[i].1 ∧ LentN w N (bs[i]).2 cs[i].2
theorem LentN.ne {w : World} {N B : Nat} {u lv : Value} {l : List Nat} {bs : List (Nat × Value)} (h : LentN w N u l) (hc : OwnC w B lv bs) : ∀ g, u.ownBlock = some g → lv.ownBlock ≠ some g := fun g hg hl => by
  obtain ⟨_, g1, o1, cap1, rfl, ho⟩ := h
  rcases ho with ⟨h1, _⟩ | ⟨g2, o2, cap2, cur, hv, _, h2, _⟩
  · cases h1
  · cases hv
    have e1 := Option.some.inj hg
    rcases hc.2 with ⟨rfl, _⟩ | ⟨g3, cap3, cur3, rfl, _, h3, _⟩
    · cases hl
    · have e2 := Option.some.inj hl
      simp only at e1 e2
      rw [e1] at h2
      rw [e2] at h3
      rw [h2] at h3
      injection h3 with h3
      injection h3 with _ h3 _
      exact absurd h3 (by decide)
theorem LentN.mod {w w' : World} {S : Nat → Prop} {N : Nat} {u : Value} {l : List Nat} (h : LentN w N u l) (m : Mod S w w') (hd : ∀ k, u.ownBlock = some k → ¬ S k) : LentN w' N u l := by
  obtain ⟨h0, g, o, cap, hv, ho⟩ := h
  subst hv
  exact ⟨h0, g, o, cap, rfl, ho.mod m (fun k hk => hd k hk)⟩
theorem LentN.mono {w : World} {N M : Nat} {u : Value} {l : List Nat} (h : LentN w N u l) (hM : M ≤ N) : LentN w M u l := by
  obtain ⟨h0, g, o, cap, hv, ho⟩ := h
  exact ⟨h0, g, o, cap, hv, ho.mono hM⟩
theorem LentN.form {w : World} {N : Nat} {u : Value} {l : List Nat} (h : LentN w N u l) : ∃ ad n c, u = .slice ad n c := by
  obtain ⟨h0, g, o, cap, hv, ho⟩ := h
  exact ⟨_, _, _, hv⟩
theorem LentB.below {w w' : World} {N : Nat} {bs : List (Nat × Value)} {cs : List (Nat × List Nat)} (h : LentB w N bs cs) (hb : Below w.heap.size w w') : LentB w' N bs cs := by
  obtain ⟨h0, h1⟩ := h
  exact ⟨h0, fun i hi => ⟨(h1 i hi).1, (h1 i hi).2.below hb⟩⟩
theorem LentB.snoc {w w' : World} {N B : Nat} {lv : Value} {bs bs' : List (Nat × Value)} {cs : List (Nat × List Nat)} {u : Value} {c : Nat × List Nat} (h : LentB w N bs cs) (hu : LentN w N u c.2) (hc : OwnC w B lv bs') (m : Mod (fun k => lv.ownBlock = some k) w w') : LentB w' N (bs ++ [(c.1, u)]) (cs ++ [c]) := by
  obtain ⟨h0, h1⟩ := h
  refine ⟨by simp [h0], fun i hi => ?_⟩
  by_cases e : i < cs.length
  · have e2 : i < bs.length := by omega
    rw [List.getElem_append_left e, List.getElem_append_left e2]
    exact ⟨(h1 i e).1, (h1 i e).2.mod m (fun k hk hs => (h1 i e).2.ne hc k hk hs)⟩
  · have e2 : i = cs.length := by rw [List.length_append, List.length_singleton] at hi; omega
    subst e2
    have e3 : (bs ++ [(c.1, u)])[cs.length]'(by simp [h0]) = (c.1, u) := by
      rw [List.getElem_append_right (by omega)]
      simp [h0]
    rw [e3]
    simp only [List.getElem_append_right (Nat.le_refl _), Nat.sub_self, List.getElem_singleton]
    exact ⟨trivial, hu.mod m (fun k hk hs => hu.ne hc k hk hs)⟩
def LentC (w : World) (N : Nat) (v : Value) (cs : List (Nat × List Nat)) : Prop := ∃ g cap bs, v = .slice (some ⟨g, 0, none⟩) cs.length cap ∧ OwnC w N (.slice (some ⟨g, 0, none⟩) (cs.length + 70) cap) (bs ++ marksC 70) ∧ LentB w N bs cs
set_option maxRecDepth 5000 in
set_option maxHeartbeats 8000000 in
theorem lentChain_any (v : Value) (cs : List (Nat × List Nat)) (w : World) (hv : Hid (CRow w v cs)) (hz : Hid (cs.length * 32 ≤ 140737488351232)) (hz2 : Hid (∀ c ∈ cs, c.2.length * 4 ≤ 140737488351232)) :
    Calls Try.prog 38 #[v] w fun e w' => ∃ u, e = .returned u ∧ LentC w' w.heap.size u cs ∧ Below w.heap.size w w' := by
  obtain ⟨cad, cc, hcv, hx1⟩ := hv.out.form
  clear hx1
  subst hcv
  obtain ⟨N, hN⟩ : ∃ N, w.heap.size = N := ⟨_, rfl⟩
  have HN := Lib.hid hN
  rw [hN]
  clear hN
  obtain ⟨nc, hnc⟩ : ∃ k, cs.length = k := ⟨_, rfl⟩
  have HNC := Lib.hid hnc
  rw [hnc] at hv ⊢
  clear hnc
  go_enter Try.func38, Try.ntmps38
  go_upto_region 3 with fail
  go_loopw [3, 4] (fun lv iv wr => ∃ (k : Nat) (va : Option Addr) (vn vc : Nat) (bs : List (Nat × Value)), k ≤ nc ∧ Hid (OwnC wr N (.slice va vn vc) bs) ∧ Hid (LentB wr N bs (cs.take k)) ∧ Hid (Below N w wr) ∧ N ≤ wr.heap.size ∧ lv = .slice va vn vc ∧ iv = .int .i64 (k : Int)) (fun _ iv _ => nc - (intOf iv).toNat)
  case atStart => exact ⟨0, none, 0, 0, [], Nat.zero_le _, OwnC.nil _ _, ⟨rfl, fun i hi => by simp at hi⟩, Below.refl _ _, by have := HN.out; omega, rfl, rfl⟩
  case round =>
    obtain ⟨k, va, vn, vc, bs, hk, HO, HL, HB, hzr, rfl, rfl⟩ := hrel
    by_cases hlt : k < nc
    case pos =>
      have ik : (k : Int) < (nc : Int) := by omega
      have hkx : k < cs.length := by have := HNC.out; omega
      have hzc := hz2.out _ (List.getElem_mem hkx)
      obtain ⟨b1, o1, nad, nn, e1, r1, u1, pp1⟩ := hv.out.at hkx
      subst e1
      have hbN : b1 < N := by rw [← HN.out]; exact World.block_lt_of_cell? w ⟨b1, o1 + k * 2 + 0, none⟩ (r1 0 _ rfl)
      have t1 : cs.take (k + 1) = cs.take k ++ [cs[k]] := List.take_succ_eq_append_getElem hkx
      obtain ⟨⟨pg, ys⟩, hx0⟩ : ∃ x, cs[k] = x := ⟨_, rfl⟩
      rw [hx0] at r1 u1 pp1 t1 hzc
      simp only at r1 u1 pp1 hzc
      have r9 := range_block r1 (HB.out.block b1 hbN)
      have f1 := r9 0 _ rfl
      have f2 := r9 1 _ rfl
      unfold uN at f1
      rw [Nat.add_zero] at f1
      obtain ⟨ny, hny⟩ : ∃ n, ys.length = n := ⟨_, rfl⟩
      rw [hny] at f2
      have hb1 : b1 < wr.heap.size := World.block_lt_of_cell? wr ⟨b1, o1 + k * 2, none⟩ f1
      obtain ⟨k9, hk9⟩ : ∃ k9 : Nat, k9 = k + 1 := ⟨_, rfl⟩
      have ew1 : (k : Int) + 1 = (k9 : Int) := by omega
      have ew2 : IntKind.i64.wrap (k9 : Int) = (k9 : Int) := IntWalk.i64_in _ (by have := hz.out; have := HNC.out; omega)
      have hk3 : k9 ≤ nc := by omega
      have hk4 : nc - k9 < nc - k := by omega
      rw [← hk9] at t1
      have T1 := Lib.hid t1
      have HLN := Lib.hid (lentNumbers_any (.slice nad ny nn) ys wr.drew (by rw [← hny]; exact (u1.below (by rw [HN.out]; exact HB.out)).drew) hzc)
      clear hk9 t1 hx0 r1 r9 u1 hny hkx hlt pp1 hzc
      go_upto_region 5 with fail
      refine wp_region_held_drew (S := fun W => W.cell? ⟨b1, o1 + k * 2, none⟩ = some (.int .u32 (pg : Int)) ∧ W.cell? ⟨b1, o1 + k * 2 + 1, none⟩ = some (.slice nad ny nn)) (by kernel_rfl) ⟨f1, f2⟩ (fun hHeld => ?_)
      refine' wpAnyH_take (i := 0) (oi := { dst := Option.some 12, op := Op.move (Operand.tmp 3), type := 44, pos := "memory.go:34", after := #[], guard := Option.none }) rfl (by kernel_rfl) (by kernel_rfl) (by kernel_rfl) (fun _ _ _ h => h) (Or.inl ⟨by rfl, _⟩) (by assumption) _
      rotate_left
      · (intro wS hSw; (try dsimp only at hSw); go_simp; try with_reducible rfl)
      try simp only [Act.put, List.setIfInBounds_toArray, List.set_cons_zero, List.set_cons_succ]
      refine' wpAnyH_take (i := 1) (oi := { dst := Option.some 13, op := Op.move (Operand.tmp 0), type := 44, pos := "memory.go:34", after := #[], guard := Option.none }) rfl (by kernel_rfl) (by kernel_rfl) (by kernel_rfl) (fun _ _ _ h => h) (Or.inl ⟨by rfl, _⟩) (by assumption) _
      rotate_left
      · (intro wS hSw; (try dsimp only at hSw); go_simp; try with_reducible rfl)
      try simp only [Act.put, List.setIfInBounds_toArray, List.set_cons_zero, List.set_cons_succ]
      refine' wpAnyH_take (i := 2) (oi := { dst := Option.some 14, op := Op.move (Operand.tmp 4), type := 3, pos := "memory.go:34", after := #[], guard := Option.none }) rfl (by kernel_rfl) (by kernel_rfl) (by kernel_rfl) (fun _ _ _ h => h) (Or.inl ⟨by rfl, _⟩) (by assumption) _
      rotate_left
      · (intro wS hSw; (try dsimp only at hSw); go_simp; try with_reducible rfl)
      try simp only [Act.put, List.setIfInBounds_toArray, List.set_cons_zero, List.set_cons_succ]
      refine' wpAnyH_take (i := 3) (oi := { dst := Option.some 15, op := Op.indexAddr 44 (Operand.tmp 13) (Operand.tmp 14), type := 0, pos := "memory.go:34", after := #[{ on := 1, ground := Ground.data }, { on := 2, ground := Ground.data }], guard := Option.none }) rfl (by kernel_rfl) (by kernel_rfl) (by kernel_rfl) (fun _ _ _ h => h) (Or.inl ⟨by rfl, _⟩) (by assumption) _
      rotate_left
      · (intro wS hSw; (try dsimp only at hSw); go_simp; try with_reducible rfl)
      try simp only [Act.put, List.setIfInBounds_toArray, List.set_cons_zero, List.set_cons_succ]
      refine' wpAnyH_take (i := 4) (oi := { dst := Option.some 16, op := Op.fieldAddr 64 (Operand.tmp 15) 0, type := 0, pos := "memory.go:34", after := #[{ on := 3, ground := Ground.data }], guard := Option.none }) rfl (by kernel_rfl) (by kernel_rfl) (by kernel_rfl) (fun _ _ _ h => h) (Or.inl ⟨by rfl, _⟩) (by assumption) _
      rotate_left
      · (intro wS hSw; (try dsimp only at hSw); go_simp; try with_reducible rfl)
      try simp only [Act.put, List.setIfInBounds_toArray, List.set_cons_zero, List.set_cons_succ]
      refine' wpAnyH_take (i := 5) (oi := { dst := Option.some 17, op := Op.load 27 (Operand.tmp 16), type := 27, pos := "memory.go:34", after := #[{ on := 4, ground := Ground.data }], guard := Option.none }) rfl (by kernel_rfl) (by kernel_rfl) (by kernel_rfl) (fun _ _ _ h => h) (Or.inl ⟨by rfl, _⟩) (by assumption) _
      rotate_left
      · (intro wS hSw; (try dsimp only at hSw); go_simp; try with_reducible rfl)
      try simp only [Act.put, List.setIfInBounds_toArray, List.set_cons_zero, List.set_cons_succ]
      refine' wpAnyH_take (i := 6) (oi := { dst := Option.some 18, op := Op.move (Operand.tmp 0), type := 44, pos := "memory.go:34", after := #[], guard := Option.none }) rfl (by kernel_rfl) (by kernel_rfl) (by kernel_rfl) (fun _ _ _ h => h) (Or.inl ⟨by rfl, _⟩) (by assumption) _
      rotate_left
      · (intro wS hSw; (try dsimp only at hSw); go_simp; try with_reducible rfl)
      try simp only [Act.put, List.setIfInBounds_toArray, List.set_cons_zero, List.set_cons_succ]
      refine' wpAnyH_take (i := 7) (oi := { dst := Option.some 19, op := Op.move (Operand.tmp 4), type := 3, pos := "memory.go:34", after := #[], guard := Option.none }) rfl (by kernel_rfl) (by kernel_rfl) (by kernel_rfl) (fun _ _ _ h => h) (Or.inl ⟨by rfl, _⟩) (by assumption) _
      rotate_left
      · (intro wS hSw; (try dsimp only at hSw); go_simp; try with_reducible rfl)
      try simp only [Act.put, List.setIfInBounds_toArray, List.set_cons_zero, List.set_cons_succ]
      refine' wpAnyH_take (i := 8) (oi := { dst := Option.some 20, op := Op.indexAddr 44 (Operand.tmp 18) (Operand.tmp 19), type := 0, pos := "memory.go:34", after := #[{ on := 6, ground := Ground.data }, { on := 7, ground := Ground.data }], guard := Option.none }) rfl (by kernel_rfl) (by kernel_rfl) (by kernel_rfl) (fun _ _ _ h => h) (Or.inl ⟨by rfl, _⟩) (by assumption) _
      rotate_left
      · (intro wS hSw; (try dsimp only at hSw); go_simp; try with_reducible rfl)
      try simp only [Act.put, List.setIfInBounds_toArray, List.set_cons_zero, List.set_cons_succ]
      refine' wpAnyH_take (i := 9) (oi := { dst := Option.some 21, op := Op.fieldAddr 64 (Operand.tmp 20) 1, type := 0, pos := "memory.go:34", after := #[{ on := 8, ground := Ground.data }], guard := Option.none }) rfl (by kernel_rfl) (by kernel_rfl) (by kernel_rfl) (fun _ _ _ h => h) (Or.inl ⟨by rfl, _⟩) (by assumption) _
      rotate_left
      · (intro wS hSw; (try dsimp only at hSw); go_simp; try with_reducible rfl)
      try simp only [Act.put, List.setIfInBounds_toArray, List.set_cons_zero, List.set_cons_succ]
      refine' wpAnyH_take (i := 10) (oi := { dst := Option.some 22, op := Op.load 28 (Operand.tmp 21), type := 28, pos := "memory.go:34", after := #[{ on := 9, ground := Ground.data }], guard := Option.none }) rfl (by kernel_rfl) (by kernel_rfl) (by kernel_rfl) (fun _ _ _ h => h) (Or.inl ⟨by rfl, _⟩) (by assumption) _
      rotate_left
      · (intro wS hSw; (try dsimp only at hSw); go_simp; try with_reducible rfl)
      try simp only [Act.put, List.setIfInBounds_toArray, List.set_cons_zero, List.set_cons_succ]
      refine wpAnyH_ready (rs := [11]) (by kernel_rfl) (by simp) ?_
      refine AllReadyH.cons (o := { dst := Option.some 23, op := Op.call { callee := Callee.value (Operand.func 22), args := #[Operand.tmp 22], argTypes := #[28] }, type := 28, pos := "memory.go:34", after := #[{ on := 10, ground := Ground.data }], guard := Option.none }) rfl (fun K hK => ?_) AllReadyH.nil
      go_simp
      (refine HLN.out.mono ?_; rintro e w3 ⟨u, rfl, l3, b3⟩; obtain ⟨uad, un, uc, hue⟩ := l3.form; subst hue)
      refine hK.out _ _ ?_ (fun hHeld => ?_)
      · exact ⟨(b3.cell (p := ⟨b1, o1 + k * 2, none⟩) hb1).trans hHeld.1, (b3.cell (p := ⟨b1, o1 + k * 2 + 1, none⟩) hb1).trans hHeld.2⟩
      clear hK K
      try simp only [Act.put, List.setIfInBounds_toArray, List.set_cons_zero, List.set_cons_succ]
      have L3 : Hid (LentN w3 N (.slice uad un uc) ys) := l3.mono hzr
      have b3' : Below wr.heap.size wr w3 := (Below.refl _ _).drew.trans b3
      have hz3 : wr.heap.size ≤ w3.heap.size := b3'.size
      have O3 := Lib.hid (HO.out.below b3' (fun g hg => (HO.out.lt g hg).2))
      have LB3 := Lib.hid (HL.out.below b3')
      have B3 : Hid (Below N w w3) := HB.out.trans (b3'.mono hzr)
      clear l3 b3 b3' HLN
      refine' wpAnyH_take (i := 12) (oi := { dst := Option.some 24, op := Op.build 64 #[(0, Operand.tmp 17), (1, Operand.tmp 23)], type := 64, pos := "memory.go:34", after := #[{ on := 5, ground := Ground.data }, { on := 11, ground := Ground.data }], guard := Option.none }) rfl (by kernel_rfl) (by kernel_rfl) (by kernel_rfl) (fun _ _ _ h => h) (Or.inl ⟨by rfl, _⟩) (by assumption) _
      rotate_left
      · (intro wS hSw; (try dsimp only at hSw); go_simp; try with_reducible rfl)
      try simp only [Act.put, List.setIfInBounds_toArray, List.set_cons_zero, List.set_cons_succ]
      have ba : ∀ (o : Obj), Below w3.heap.size w3 (w3.alloc o) := fun o => (Below.refl _ _).alloc (Nat.le_refl _) _
      have hb3 : b1 < w3.heap.size := by omega
      refine wpAnyH_ready (rs := [13]) (by kernel_rfl) (by simp) ?_
      refine AllReadyH.cons (o := { dst := Option.some 25, op := Op.buildSlice 44 1 #[(0, Operand.tmp 24)], type := 44, pos := "memory.go:34", after := #[{ on := 12, ground := Ground.data }], guard := Option.none }) rfl (fun K hK => ?_) AllReadyH.nil
      go_simp
      refine hK.out _ _ ?_ (fun hHeld => ?_)
      · exact ⟨((ba _).cell (p := ⟨b1, o1 + k * 2, none⟩) hb3).trans hHeld.1, ((ba _).cell (p := ⟨b1, o1 + k * 2 + 1, none⟩) hb3).trans hHeld.2⟩
      clear hK K
      try simp only [Act.put, List.setIfInBounds_toArray, List.set_cons_zero, List.set_cons_succ]
      obtain ⟨wa, hwa⟩ : ∃ W, w3.alloc (.cells #[.int .u32 (pg : Int), .slice uad un uc] 64) = W := ⟨_, rfl⟩
      have ba' : Below w3.heap.size w3 wa := by rw [← hwa]; exact ba _
      have ha : wa.heap[w3.heap.size]? = some (.cells (bpair (pg, .slice uad un uc)).toArray 64 (0, 0)) := by rw [← hwa]; exact heap_alloc_new w3 _
      have Oa := O3.out.below ba' (fun g hg => (O3.out.lt g hg).2)
      have La := L3.out.below ba'
      have LBa := LB3.out.below ba'
      have Ba := B3.out.trans (ba'.mono (by omega))
      have hza : N ≤ wa.heap.size := by have := ba'.size; omega
      have hbl : (bs.length + 1) * 32 ≤ 140737488355328 := by obtain ⟨hh, _⟩ := HL.out; rw [List.length_take] at hh; have := hz.out; omega
      rw [hwa] at hHeld ⊢
      refine wpAnyH_ready (rs := [14]) (by kernel_rfl) (by simp) ?_
      refine AllReadyH.cons (o := { dst := Option.some 26, op := Op.call { callee := Callee.builtin Builtin.append, args := #[Operand.tmp 12, Operand.tmp 25], argTypes := #[44, 44] }, type := 44, pos := "memory.go:34", after := #[{ on := 0, ground := Ground.data }, { on := 13, ground := Ground.data }, { on := 11, ground := Ground.chain }], guard := Option.none }) rfl (fun K hK => ?_) AllReadyH.nil
      refine step_of rfl (wp_appC2 wa (pg, .slice uad un uc) rfl _ _ rfl N (.slice va vn vc) bs rfl Oa w3.heap.size 1 rfl ha hbl hza ?_); intro v5 w5 O5 M5 F5; obtain ⟨ad5, cp5, hv5, hy1, hy2, hy3⟩ := O5.shape; clear hy1 hy2 hy3; rw [List.length_append, List.length_singleton] at hv5; subst hv5
      refine hK.out _ _ ?_ (fun hHeld => ?_)
      · exact ⟨(M5.heapc (by omega) (fun e => by have := (Oa.lt b1 e).1; omega)).trans hHeld.1, (M5.heapc (by omega) (fun e => by have := (Oa.lt b1 e).1; omega)).trans hHeld.2⟩
      clear hK K
      try simp only [Act.put, List.setIfInBounds_toArray, List.set_cons_zero, List.set_cons_succ]
      refine' wpAnyH_take (i := 15) (oi := { dst := Option.some 3, op := Op.assign (Operand.tmp 26), type := 44, pos := "memory.go:34", after := #[{ on := 14, ground := Ground.data }, { on := 14, ground := Ground.chain }, { on := 0, ground := Ground.phase }, { on := 1, ground := Ground.phase }, { on := 2, ground := Ground.phase }, { on := 3, ground := Ground.phase }, { on := 4, ground := Ground.phase }, { on := 5, ground := Ground.phase }, { on := 6, ground := Ground.phase }, { on := 7, ground := Ground.phase }, { on := 8, ground := Ground.phase }, { on := 9, ground := Ground.phase }, { on := 10, ground := Ground.phase }, { on := 11, ground := Ground.phase }, { on := 12, ground := Ground.phase }, { on := 13, ground := Ground.phase }, { on := 14, ground := Ground.phase }], guard := Option.none }) rfl (by kernel_rfl) (by kernel_rfl) (by kernel_rfl) (fun _ _ _ h => h) (Or.inl ⟨by rfl, _⟩) (by assumption) _
      rotate_left
      · (intro wS hSw; (try dsimp only at hSw); go_simp; try with_reducible rfl)
      try simp only [Act.put, List.setIfInBounds_toArray, List.set_cons_zero, List.set_cons_succ]
      refine wpAnyH_done (by kernel_rfl) ?_ _
      have HO5 := Lib.hid O5
      have HB5 : Hid (Below N w w5) := Ba.trans (M5.below (n := N) (fun j hj e => by have := (Oa.lt j e).1; omega) (by omega))
      have hz5 : N ≤ w5.heap.size := Nat.le_trans hza M5.size
      have HL5 : Hid (LentB w5 N (bs ++ [(pg, .slice uad un uc)]) (cs.take k9)) := by
        show LentB _ _ _ _
        rw [T1.out]
        exact LBa.snoc (c := (pg, ys)) La Oa M5
      clear O5 M5 F5 Oa La LBa Ba ba' ha ba hwa L3 O3 LB3 B3 HO HL HB hHeld f1 f2 hza hzr T1 hbl
      go_wp2_with fail
      exact ⟨⟨k9, ad5, bs.length + 1, cp5, _, hk3, HO5, HL5, HB5, hz5, rfl, rfl⟩, by simp only [intOf, Int.toNat_natCast]; exact hk4⟩
    case neg =>
      have ik : ¬ (k : Int) < (nc : Int) := by omega
      have HL2 : Hid (LentB wr N bs cs) := by
        have h := HL.out
        have ht : cs.take k = cs := List.take_of_length_le (by rw [HNC.out]; omega)
        rw [ht] at h
        exact h
      have hbs : bs.length = nc := by obtain ⟨hh, _⟩ := HL2.out; rw [hh]; exact HNC.out
      have HBS := Lib.hid hbs
      have HO0 : Hid (OwnC wr N (.slice va vn vc) (bs ++ marksC 0)) := by show OwnC _ _ _ _; have e : marksC 0 = [] := rfl; rw [e, List.append_nil]; exact HO.out
      clear hlt HL hbs HO hk
      go_upto_region 7 with fail
      clear ik
      go_loopw [3, 5] (fun lv iv wr2 => ∃ (k : Nat) (va : Option Addr) (vn vc : Nat), k ≤ 70 ∧ Hid (OwnC wr2 N (.slice va vn vc) (bs ++ marksC k)) ∧ Hid (LentB wr2 N bs cs) ∧ Hid (Below N w wr2) ∧ N ≤ wr2.heap.size ∧ lv = .slice va vn vc ∧ iv = .int .i64 (k : Int)) (fun _ iv _ => 70 - (intOf iv).toNat)
      case atStart => exact ⟨0, va, vn, vc, Nat.zero_le _, HO0, HL2, HB, hzr, rfl, rfl⟩
      case round =>
        clear HO0 HL2 HB hzr
        obtain ⟨k, va, vn, vc, hk, HO, HL, HB, hzr, rfl, rfl⟩ := hrel
        by_cases hlt : k < 70
        case pos =>
          have ik : (k : Int) < 70 := by omega
          obtain ⟨y, hy⟩ : ∃ y, 800000 + k = y := ⟨_, rfl⟩
          have ey : (800000 : Int) + (k : Int) = (y : Int) := by omega
          have ey2 : IntKind.i64.wrap (y : Int) = (y : Int) := IntWalk.i64_in _ (by omega)
          have ey3 : IntKind.u32.wrap (y : Int) = (y : Int) := IntWalk.u32_in (y : Int) (by omega)
          obtain ⟨k2, hk2⟩ : ∃ k2 : Nat, k2 = k + 1 := ⟨_, rfl⟩
          have ew1 : (k : Int) + 1 = (k2 : Int) := by omega
          have ew2 : IntKind.i64.wrap (k2 : Int) = (k2 : Int) := IntWalk.i64_in _ (by omega)
          have hk3 : k2 ≤ 70 := by omega
          have hk4 : 70 - k2 < 70 - k := by omega
          have HM : Hid (marksC k2 = marksC k ++ [(y, .slice none 0 0)]) := by show _ = _; rw [hk2, ← hy]; exact marksC_succ k
          clear hk2 hy hlt
          go_upto_region 9 with fail
          with_reducible refine wp_region_list ?_
          with_reducible refine wpList_plain rfl ?_
          intro K hK
          go_simp
          first | with_reducible refine hK _ _ ?_ | refine hK _ _ ?_
          clear hK K
          (try simp only [Act.put, List.setIfInBounds_toArray, List.set_cons_zero, List.set_cons_succ])
          with_reducible refine wpList_plain rfl ?_
          intro K hK
          go_simp
          first | with_reducible refine hK _ _ ?_ | refine hK _ _ ?_
          clear hK K
          (try simp only [Act.put, List.setIfInBounds_toArray, List.set_cons_zero, List.set_cons_succ])
          with_reducible refine wpList_plain rfl ?_
          intro K hK
          go_simp
          first | with_reducible refine hK _ _ ?_ | refine hK _ _ ?_
          clear hK K
          (try simp only [Act.put, List.setIfInBounds_toArray, List.set_cons_zero, List.set_cons_succ])
          with_reducible refine wpList_plain rfl ?_
          intro K hK
          go_simp
          first | with_reducible refine hK _ _ ?_ | refine hK _ _ ?_
          clear hK K
          (try simp only [Act.put, List.setIfInBounds_toArray, List.set_cons_zero, List.set_cons_succ])
          with_reducible refine wpList_plain rfl ?_
          intro K hK
          go_simp
          first | with_reducible refine hK _ _ ?_ | refine hK _ _ ?_
          clear hK K
          (try simp only [Act.put, List.setIfInBounds_toArray, List.set_cons_zero, List.set_cons_succ])
          with_reducible refine wpList_plain rfl ?_
          intro K hK
          go_simp
          first | with_reducible refine hK _ _ ?_ | refine hK _ _ ?_
          clear hK K
          (try simp only [Act.put, List.setIfInBounds_toArray, List.set_cons_zero, List.set_cons_succ])
          obtain ⟨wa, hwa⟩ : ∃ W, wr.alloc (.cells #[.int .u32 (y : Int), .slice none 0 0] 64) = W := ⟨_, rfl⟩
          have ba' : Below wr.heap.size wr wa := by rw [← hwa]; exact (Below.refl _ _).alloc (Nat.le_refl _) _
          have ha : wa.heap[wr.heap.size]? = some (.cells (bpair (y, .slice none 0 0)).toArray 64 (0, 0)) := by rw [← hwa]; exact heap_alloc_new wr _
          have Oa := HO.out.below ba' (fun g hg => (HO.out.lt g hg).2)
          have LBa := HL.out.below ba'
          have Ba := HB.out.trans (ba'.mono hzr)
          have hza : N ≤ wa.heap.size := by have := ba'.size; omega
          have hbl : ((bs ++ marksC k).length + 1) * 32 ≤ 140737488355328 := by rw [List.length_append, marksC_len]; have := hz.out; have := HBS.out; have := HNC.out; omega
          rw [hwa]
          with_reducible refine wpList_plain rfl ?_
          intro K hK
          refine wp_appC2 wa (y, .slice none 0 0) rfl _ _ rfl N (.slice va vn vc) (bs ++ marksC k) rfl Oa wr.heap.size 1 rfl ha hbl hza ?_
          intro v5 w5 O5 M5 F5
          refine hK _ _ ?_
          clear hK K
          rw [List.append_assoc, ← HM.out] at O5
          obtain ⟨ad5, cp5, hv5, hy1, hy2, hy3⟩ := O5.shape
          clear hy1 hy2 hy3
          obtain ⟨n5, hn5⟩ : ∃ n, (bs ++ marksC k2).length = n := ⟨_, rfl⟩
          rw [hn5] at hv5
          subst hv5
          clear hn5
          (try simp only [Act.put, List.setIfInBounds_toArray, List.set_cons_zero, List.set_cons_succ])
          with_reducible refine wpList_plain rfl ?_
          intro K hK
          go_simp
          first | with_reducible refine hK _ _ ?_ | refine hK _ _ ?_
          clear hK K
          (try simp only [Act.put, List.setIfInBounds_toArray, List.set_cons_zero, List.set_cons_succ])
          have HO5 := Lib.hid O5
          have HB5 : Hid (Below N w w5) := Ba.trans (M5.below (n := N) (fun j hj e => by have := (Oa.lt j e).1; omega) (by omega))
          have hz5 : N ≤ w5.heap.size := Nat.le_trans hza M5.size
          have HL5 : Hid (LentB w5 N bs cs) := ⟨LBa.1, fun i hi => ⟨(LBa.2 i hi).1, (LBa.2 i hi).2.mod M5 (fun j hj hs => (LBa.2 i hi).2.ne Oa j hj hs)⟩⟩
          clear O5 M5 F5 Oa LBa Ba ba' ha hwa HO HL HB hza hzr HM hbl ey ey2 ey3
          go_wp2_with fail
          exact ⟨⟨k2, ad5, n5, cp5, hk3, HO5, HL5, HB5, hz5, rfl, rfl⟩, by simp only [intOf, Int.toNat_natCast]; exact hk4⟩
        case neg =>
          have ik : ¬ (k : Int) < 70 := by omega
          obtain rfl : k = 70 := by omega
          clear hlt hk
          obtain ⟨ad3, cp3, hv3, hq1, hq2, hq3⟩ := HO.out.shape
          obtain ⟨g3, hg3⟩ := hq3 (by rw [List.length_append, marksC_len]; omega)
          subst hg3
          cases hv3
          rw [List.length_append, marksC_len] at hq1
          have hle : nc ≤ vc := by have := HBS.out; omega
          clear hq3
          go_upto_region 10 with fail
          with_reducible refine wp_region_list ?_
          with_reducible refine wpList_plain rfl ?_
          intro K hK
          go_simp
          first | with_reducible refine hK _ _ ?_ | refine hK _ _ ?_
          clear hK K
          (try simp only [Act.put, List.setIfInBounds_toArray, List.set_cons_zero, List.set_cons_succ])
          with_reducible refine wpList_plain rfl ?_
          intro K hK
          go_simp
          first | with_reducible refine hK _ _ ?_ | refine hK _ _ ?_
          clear hK K
          (try simp only [Act.put, List.setIfInBounds_toArray, List.set_cons_zero, List.set_cons_succ])
          with_reducible refine wpList_plain rfl ?_
          intro K hK
          go_simp
          first | with_reducible refine hK _ _ ?_ | refine hK _ _ ?_
          clear hK K
          (try simp only [Act.put, List.setIfInBounds_toArray, List.set_cons_zero, List.set_cons_succ])
          with_reducible refine wpList_plain rfl ?_
          intro K hK
          go_simp
          first | with_reducible refine hK _ _ ?_ | refine hK _ _ ?_
          clear hK K
          (try simp only [Act.put, List.setIfInBounds_toArray, List.set_cons_zero, List.set_cons_succ])
          with_reducible refine wpList_plain rfl ?_
          intro K hK
          go_simp
          first | with_reducible refine hK _ _ ?_ | refine hK _ _ ?_
          clear hK K
          (try simp only [Act.put, List.setIfInBounds_toArray, List.set_cons_zero, List.set_cons_succ])
          have hle2 : (bs ++ marksC 70).length = cs.length + 70 := by rw [List.length_append, marksC_len]; have := HBS.out; have := HNC.out; omega
          have HF : Hid (LentC wr N (.slice (some ⟨g3, 0, none⟩) nc vc) cs) := by
            refine ⟨g3, vc, bs, by rw [HNC.out], ?_, HL.out⟩
            have h := HO.out
            rw [hle2] at h
            exact h
          clear hle hle2 hq1 hq2 HO HL
          go_wp2_with fail
          go_ret
          exact ⟨_, rfl, HF.out, HB.out⟩
end Go.Proofs.Ytkngmnfgdlnddaa
