/-
  The walk of FreeChecks.
-/
import Derived.Test.YtkngmnfgdlnddaaChkW
import Derived.Test.YtkngmnfgdlnddaaFrV
namespace Go.Proofs.Ytkngmnfgdlnddaa
open Go.RowKit Go.Lib Hw Go.Maps
set_option linter.unusedSimpArgs false
set_option linter.unusedVariables false

set_option maxRecDepth 5000 in
set_option maxHeartbeats 8000000 in
theorem FreeChecks_walk (v cv nv : Value) (w : World) (hv : IsFrame v) (hc : IsChain w cv) (hn : IsU32 nv) : Calls Try.prog 11 #[v, cv, nv] w fun e w' => e = .returned (.bool true) ∧ Below w.heap.size w w' := by
  obtain ⟨a, b, rfl, ha, hb⟩ := hv
  obtain ⟨nx0, rfl, hn0, hn1⟩ := hn
  obtain ⟨cs, hrow, hz1, hz2⟩ := hc
  obtain ⟨pages, hnx⟩ : ∃ k : Nat, (k : Int) = nx0 := ⟨nx0.toNat, by omega⟩
  subst hnx
  have hpg : pages < 4294967296 := by omega
  have HR := Lib.hid hrow
  have HZ1 := Lib.hid hz1
  have HZ2 := Lib.hid hz2
  obtain ⟨ad, c, hv1, hx1⟩ := hrow.form
  clear hx1 ha hb hn0 hn1 hrow hz1 hz2
  subst hv1
  obtain ⟨k, hk⟩ : ∃ k, chkI a b cs pages = k := ⟨_, rfl⟩
  have HK := Lib.hid hk
  obtain ⟨n, hnn⟩ : ∃ n, cs.length = n := ⟨_, rfl⟩
  have HL := Lib.hid hnn
  rw [hnn] at HR ⊢
  obtain ⟨N, hN⟩ : ∃ N, w.heap.size = N := ⟨_, rfl⟩
  have HN := Lib.hid hN
  rw [hN]
  clear hN hnn hk
  go_enter Try.func11, Try.ntmps11
  go_upto_region 0 with fail
  with_reducible refine wp_region_list ?_
  refine wpList_boxB rfl _ _ rfl N HN.out #[.int .i64 a, .int .i64 b] rfl ?_
  intro w1 e1 b1 z1
  (try simp only [Act.put, List.setIfInBounds_toArray, List.set_cons_zero, List.set_cons_succ])
  with_reducible refine wpList_plain rfl ?_
  intro K hK
  go_simp
  first | with_reducible refine hK _ _ ?_ | refine hK _ _ ?_
  clear hK K
  (try simp only [Act.put, List.setIfInBounds_toArray, List.set_cons_zero, List.set_cons_succ])
  have B1 := Lib.hid b1
  have E1 := Lib.hid e1
  have hz1 : N < w1.heap.size := heap_lt e1
  clear b1 e1 z1
  go_upto_region 1 with fail
  with_reducible refine wp_region_list ?_
  with_reducible refine wpList_plain rfl ?_
  intro K hK
  go_simp
  first | with_reducible refine hK _ _ ?_ | refine hK _ _ ?_
  clear hK K
  (try simp only [Act.put, List.setIfInBounds_toArray, List.set_cons_zero, List.set_cons_succ])
  with_reducible refine wpList_plain rfl ?_
  intro K hK
  go_simp
  refine (lentChain_any (.slice ad n c) cs w1 (HR.out.below (by rw [HN.out]; exact B1.out)) HZ1 HZ2).mono ?_; rintro e w2 ⟨u, rfl, l2, b2⟩
  first | with_reducible refine hK _ _ ?_ | refine hK _ _ ?_
  clear hK K
  (try simp only [Act.put, List.setIfInBounds_toArray, List.set_cons_zero, List.set_cons_succ])
  have hr2 := l2.row HR.out.1
  obtain ⟨uad, uc, hu1, hu2⟩ := hr2.form
  clear hu2
  rw [HL.out] at hu1
  subst hu1
  with_reducible refine wpList_plain rfl ?_
  intro K hK
  go_simp
  first | with_reducible refine hK _ _ ?_ | refine hK _ _ ?_
  clear hK K
  (try simp only [Act.put, List.setIfInBounds_toArray, List.set_cons_zero, List.set_cons_succ])
  have B2 : Hid (Below N w w2) := B1.out.trans (b2.mono (by omega))
  have E2 := Lib.hid (heap_below E1.out b2 hz1)
  have hz2 : N < w2.heap.size := heap_lt E2.out
  have HR2 := Lib.hid hr2
  have L2 := Lib.hid l2
  have f0 := heap_cell E2.out (o := 0)
  have f1 := heap_cell E2.out (o := 1)
  clear b2 B1 E1 hz1 hr2 l2
  have e1 : ((k : Int) == (k : Int)) = true := by simp
  go_upto_region 2 with fail
  refine wp_region_held_drew (S := fun W => W.cell? ⟨N, 0, none⟩ = some (.int .i64 a) ∧ W.cell? ⟨N, 1, none⟩ = some (.int .i64 b)) (by kernel_rfl) ⟨f0, f1⟩ (fun hHeld => ?_)
  refine' wpAnyH_take (i := 0) (oi := { dst := Option.some 10, op := Op.load 23 (Operand.tmp 3), type := 23, pos := "law.go:50", after := #[], guard := Option.none }) rfl (by kernel_rfl) (by kernel_rfl) (by kernel_rfl) (fun _ _ _ h => h) (Or.inl ⟨by rfl, _⟩) (by assumption) _
  rotate_left
  · (intro wS hSw; (try dsimp only at hSw); go_simp; try with_reducible rfl)
  try simp only [Act.put, List.setIfInBounds_toArray, List.set_cons_zero, List.set_cons_succ]
  refine' wpAnyH_take (i := 1) (oi := { dst := Option.some 11, op := Op.move (Operand.tmp 7), type := 44, pos := "law.go:50", after := #[], guard := Option.none }) rfl (by kernel_rfl) (by kernel_rfl) (by kernel_rfl) (fun _ _ _ h => h) (Or.inl ⟨by rfl, _⟩) (by assumption) _
  rotate_left
  · (intro wS hSw; (try dsimp only at hSw); go_simp; try with_reducible rfl)
  try simp only [Act.put, List.setIfInBounds_toArray, List.set_cons_zero, List.set_cons_succ]
  refine' wpAnyH_take (i := 2) (oi := { dst := Option.some 12, op := Op.move (Operand.tmp 2), type := 27, pos := "law.go:50", after := #[], guard := Option.none }) rfl (by kernel_rfl) (by kernel_rfl) (by kernel_rfl) (fun _ _ _ h => h) (Or.inl ⟨by rfl, _⟩) (by assumption) _
  rotate_left
  · (intro wS hSw; (try dsimp only at hSw); go_simp; try with_reducible rfl)
  try simp only [Act.put, List.setIfInBounds_toArray, List.set_cons_zero, List.set_cons_succ]
  refine' wpAnyH_take (i := 4) (oi := { dst := Option.some 14, op := Op.load 23 (Operand.tmp 3), type := 23, pos := "law.go:50", after := #[], guard := Option.none }) rfl (by kernel_rfl) (by kernel_rfl) (by kernel_rfl) (fun _ _ _ h => h) (Or.inl ⟨by rfl, _⟩) (by assumption) _
  rotate_left
  · (intro wS hSw; (try dsimp only at hSw); go_simp; try with_reducible rfl)
  try simp only [Act.put, List.setIfInBounds_toArray, List.set_cons_zero, List.set_cons_succ]
  refine' wpAnyH_take (i := 5) (oi := { dst := Option.some 15, op := Op.move (Operand.tmp 1), type := 44, pos := "law.go:50", after := #[], guard := Option.none }) rfl (by kernel_rfl) (by kernel_rfl) (by kernel_rfl) (fun _ _ _ h => h) (Or.inl ⟨by rfl, _⟩) (by assumption) _
  rotate_left
  · (intro wS hSw; (try dsimp only at hSw); go_simp; try with_reducible rfl)
  try simp only [Act.put, List.setIfInBounds_toArray, List.set_cons_zero, List.set_cons_succ]
  refine' wpAnyH_take (i := 6) (oi := { dst := Option.some 16, op := Op.move (Operand.tmp 2), type := 27, pos := "law.go:50", after := #[], guard := Option.none }) rfl (by kernel_rfl) (by kernel_rfl) (by kernel_rfl) (fun _ _ _ h => h) (Or.inl ⟨by rfl, _⟩) (by assumption) _
  rotate_left
  · (intro wS hSw; (try dsimp only at hSw); go_simp; try with_reducible rfl)
  try simp only [Act.put, List.setIfInBounds_toArray, List.set_cons_zero, List.set_cons_succ]
  refine wpAnyH_ready (rs := [3]) (by kernel_rfl) (by simp) ?_
  refine AllReadyH.cons (o := { dst := Option.some 13, op := Op.call { callee := Callee.value (Operand.func 39), args := #[Operand.tmp 10, Operand.tmp 11, Operand.tmp 12], argTypes := #[23, 44, 27] }, type := 32, pos := "law.go:50", after := #[{ on := 0, ground := Ground.data }, { on := 1, ground := Ground.data }, { on := 2, ground := Ground.data }], guard := Option.none }) rfl (fun K hK => ?_) AllReadyH.nil
  go_simp
  (refine (Check_any a b pages (.slice uad n uc) cs w2.drew hpg (HR2.out.below ((Below.refl _ _).drew))).mono ?_; rintro e w3 ⟨rfl, b3⟩; rw [HK.out])
  refine hK.out _ _ ?_ (fun hHeld => ?_)
  · exact ⟨(b3.cell (p := ⟨N, 0, none⟩) hz2).trans hHeld.1, (b3.cell (p := ⟨N, 1, none⟩) hz2).trans hHeld.2⟩
  clear hK K
  try simp only [Act.put, List.setIfInBounds_toArray, List.set_cons_zero, List.set_cons_succ]
  have b3' : Below w2.heap.size w2 w3 := (Below.refl _ _).drew.trans b3
  have B3 : Hid (Below N w w3) := B2.out.trans (b3'.mono (by omega))
  have hz3 : N < w3.heap.size := Nat.lt_of_lt_of_le hz2 b3'.size
  refine wpAnyH_ready (rs := [7]) (by kernel_rfl) (by simp) ?_
  refine AllReadyH.cons (o := { dst := Option.some 17, op := Op.call { callee := Callee.value (Operand.func 40), args := #[Operand.tmp 14, Operand.tmp 15, Operand.tmp 16], argTypes := #[23, 44, 27] }, type := 3, pos := "law.go:50", after := #[{ on := 4, ground := Ground.data }, { on := 5, ground := Ground.data }, { on := 6, ground := Ground.data }, { on := 3, ground := Ground.chain }], guard := Option.none }) rfl (fun K hK => ?_) AllReadyH.nil
  go_simp
  (refine (refCheck_any a b pages (.slice ad n c) cs w3 (HR.out.below (by rw [HN.out]; exact B3.out))).mono ?_; rintro e w4 ⟨rfl, b4⟩; rw [HK.out])
  refine hK.out _ _ ?_ (fun hHeld => ?_)
  · exact ⟨(b4.cell (p := ⟨N, 0, none⟩) hz3).trans hHeld.1, (b4.cell (p := ⟨N, 1, none⟩) hz3).trans hHeld.2⟩
  clear hK K
  try simp only [Act.put, List.setIfInBounds_toArray, List.set_cons_zero, List.set_cons_succ]
  have b4' : Below w2.heap.size w2 w4 := b3'.trans (b4.mono b3'.size)
  have B4 : Hid (Below N w w4) := B2.out.trans (b4'.mono (by omega))
  have hz4 : N < w4.heap.size := Nat.lt_of_lt_of_le hz2 b4'.size
  refine' wpAnyH_take (i := 8) (oi := { dst := Option.some 18, op := Op.binOp BinOp.eql 3 (Operand.tmp 13) (Operand.tmp 17) 3, type := 4, pos := "law.go:50", after := #[{ on := 3, ground := Ground.data }, { on := 7, ground := Ground.data }], guard := Option.none }) rfl (by kernel_rfl) (by kernel_rfl) (by kernel_rfl) (fun _ _ _ h => h) (Or.inl ⟨by rfl, _⟩) (by assumption) _
  rotate_left
  · (intro wS hSw; (try dsimp only at hSw); go_simp; try with_reducible rfl)
  try simp only [Act.put, List.setIfInBounds_toArray, List.set_cons_zero, List.set_cons_succ]
  refine' wpAnyH_take (i := 9) (oi := { dst := Option.some 19, op := Op.move (Operand.tmp 18), type := 4, pos := "law.go:50", after := #[{ on := 8, ground := Ground.data }, { on := 7, ground := Ground.chain }], guard := Option.none }) rfl (by kernel_rfl) (by kernel_rfl) (by kernel_rfl) (fun _ _ _ h => h) (Or.inl ⟨by rfl, _⟩) (by assumption) _
  rotate_left
  · (intro wS hSw; (try dsimp only at hSw); go_simp; try with_reducible rfl)
  try simp only [Act.put, List.setIfInBounds_toArray, List.set_cons_zero, List.set_cons_succ]
  refine' wpAnyH_take (i := 10) (oi := { dst := Option.some 20, op := Op.move (Operand.tmp 7), type := 44, pos := "law.go:50", after := #[{ on := 9, ground := Ground.guard }], guard := Option.some (9, Bool.true) }) rfl (by kernel_rfl) (by kernel_rfl) (by kernel_rfl) (fun _ _ _ h => h) (Or.inl ⟨by rfl, _⟩) (by assumption) _
  rotate_left
  · (intro wS hSw; (try dsimp only at hSw); go_simp; try with_reducible rfl)
  try simp only [Act.put, List.setIfInBounds_toArray, List.set_cons_zero, List.set_cons_succ]
  refine' wpAnyH_take (i := 11) (oi := { dst := Option.some 21, op := Op.move (Operand.tmp 1), type := 44, pos := "law.go:50", after := #[{ on := 9, ground := Ground.guard }], guard := Option.some (9, Bool.true) }) rfl (by kernel_rfl) (by kernel_rfl) (by kernel_rfl) (fun _ _ _ h => h) (Or.inl ⟨by rfl, _⟩) (by assumption) _
  rotate_left
  · (intro wS hSw; (try dsimp only at hSw); go_simp; try with_reducible rfl)
  try simp only [Act.put, List.setIfInBounds_toArray, List.set_cons_zero, List.set_cons_succ]
  refine wpAnyH_ready (rs := [12]) (by kernel_rfl) (by simp) ?_
  refine AllReadyH.cons (o := { dst := Option.some 22, op := Op.call { callee := Callee.value (Operand.func 41), args := #[Operand.tmp 20, Operand.tmp 21], argTypes := #[44, 44] }, type := 4, pos := "law.go:50", after := #[{ on := 10, ground := Ground.data }, { on := 11, ground := Ground.data }, { on := 9, ground := Ground.chain }, { on := 9, ground := Ground.guard }], guard := Option.some (9, Bool.true) }) rfl (fun K hK => ?_) AllReadyH.nil
  go_simp
  (refine (keptChain_any (.slice uad n uc) (.slice ad n c) cs _ w4 (L2.out.below b4') (HR.out.below (by rw [HN.out]; exact B4.out)) HZ1 HZ2).mono ?_; rintro e w5 ⟨rfl, b5⟩)
  refine hK.out _ _ ?_ (fun hHeld => ?_)
  · exact ⟨(b5.cell (p := ⟨N, 0, none⟩) hz4).trans hHeld.1, (b5.cell (p := ⟨N, 1, none⟩) hz4).trans hHeld.2⟩
  clear hK K
  try simp only [Act.put, List.setIfInBounds_toArray, List.set_cons_zero, List.set_cons_succ]
  have B5 : Hid (Below N w w5) := B4.out.trans (b5.mono (by omega))
  have hz5 : N < w5.heap.size := Nat.lt_of_lt_of_le hz4 b5.size
  refine' wpAnyH_take (i := 13) (oi := { dst := Option.some 23, op := Op.pick (Operand.tmp 19) (Operand.tmp 22) (Operand.const (Value.bool Bool.false)), type := 4, pos := "law.go:50", after := #[{ on := 9, ground := Ground.data }, { on := 12, ground := Ground.data }], guard := Option.none }) rfl (by kernel_rfl) (by kernel_rfl) (by kernel_rfl) (fun _ _ _ h => h) (Or.inl ⟨by rfl, _⟩) (by assumption) _
  rotate_left
  · (intro wS hSw; (try dsimp only at hSw); go_simp; try with_reducible rfl)
  try simp only [Act.put, List.setIfInBounds_toArray, List.set_cons_zero, List.set_cons_succ]
  refine' wpAnyH_take (i := 14) (oi := { dst := Option.some 24, op := Op.move (Operand.tmp 23), type := 4, pos := "law.go:50", after := #[{ on := 13, ground := Ground.data }, { on := 12, ground := Ground.chain }], guard := Option.none }) rfl (by kernel_rfl) (by kernel_rfl) (by kernel_rfl) (fun _ _ _ h => h) (Or.inl ⟨by rfl, _⟩) (by assumption) _
  rotate_left
  · (intro wS hSw; (try dsimp only at hSw); go_simp; try with_reducible rfl)
  try simp only [Act.put, List.setIfInBounds_toArray, List.set_cons_zero, List.set_cons_succ]
  refine wpAnyH_ready (rs := [15]) (by kernel_rfl) (by simp) ?_
  refine AllReadyH.cons (o := { dst := Option.some 25, op := Op.call { callee := Callee.value (Operand.func 20), args := #[], argTypes := #[] }, type := 4, pos := "law.go:50", after := #[{ on := 14, ground := Ground.chain }, { on := 14, ground := Ground.guard }], guard := Option.some (14, Bool.true) }) rfl (fun K hK => ?_) AllReadyH.nil
  go_simp
  (refine (awake_any w5).mono ?_; rintro e w6 ⟨rfl, b6⟩)
  refine hK.out _ _ ?_ (fun hHeld => ?_)
  · exact ⟨(b6.cell (p := ⟨N, 0, none⟩) hz5).trans hHeld.1, (b6.cell (p := ⟨N, 1, none⟩) hz5).trans hHeld.2⟩
  clear hK K
  try simp only [Act.put, List.setIfInBounds_toArray, List.set_cons_zero, List.set_cons_succ]
  refine' wpAnyH_take (i := 16) (oi := { dst := Option.some 26, op := Op.pick (Operand.tmp 24) (Operand.tmp 25) (Operand.const (Value.bool Bool.false)), type := 4, pos := "law.go:50", after := #[{ on := 14, ground := Ground.data }, { on := 15, ground := Ground.data }], guard := Option.none }) rfl (by kernel_rfl) (by kernel_rfl) (by kernel_rfl) (fun _ _ _ h => h) (Or.inl ⟨by rfl, _⟩) (by assumption) _
  rotate_left
  · (intro wS hSw; (try dsimp only at hSw); go_simp; try with_reducible rfl)
  try simp only [Act.put, List.setIfInBounds_toArray, List.set_cons_zero, List.set_cons_succ]
  refine' wpAnyH_take (i := 17) (oi := { dst := Option.some 6, op := Op.assign (Operand.tmp 26), type := 4, pos := "law.go:50", after := #[{ on := 16, ground := Ground.data }, { on := 15, ground := Ground.chain }, { on := 0, ground := Ground.phase }, { on := 1, ground := Ground.phase }, { on := 2, ground := Ground.phase }, { on := 3, ground := Ground.phase }, { on := 4, ground := Ground.phase }, { on := 5, ground := Ground.phase }, { on := 6, ground := Ground.phase }, { on := 7, ground := Ground.phase }, { on := 8, ground := Ground.phase }, { on := 9, ground := Ground.phase }, { on := 10, ground := Ground.phase }, { on := 11, ground := Ground.phase }, { on := 12, ground := Ground.phase }, { on := 13, ground := Ground.phase }, { on := 14, ground := Ground.phase }, { on := 15, ground := Ground.phase }, { on := 16, ground := Ground.phase }], guard := Option.none }) rfl (by kernel_rfl) (by kernel_rfl) (by kernel_rfl) (fun _ _ _ h => h) (Or.inl ⟨by rfl, _⟩) (by assumption) _
  rotate_left
  · (intro wS hSw; (try dsimp only at hSw); go_simp; try with_reducible rfl)
  try simp only [Act.put, List.setIfInBounds_toArray, List.set_cons_zero, List.set_cons_succ]
  refine wpAnyH_done (by kernel_rfl) ?_ _
  have B6 : Hid (Below N w w6) := B5.out.trans (b6.mono (by omega))
  clear b3 b3' b4 b4' b5 b6 B3 B4 B5 hHeld
  go_wp2_with fail
  go_ret
  exact ⟨rfl, B6.out⟩
end Go.Proofs.Ytkngmnfgdlnddaa
