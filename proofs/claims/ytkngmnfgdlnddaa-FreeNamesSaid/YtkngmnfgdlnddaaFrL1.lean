/-
  The walks of FreeEntries and FreeNames.
-/
import Derived.Test.YtkngmnfgdlnddaaAwkB
import Derived.Test.YtkngmnfgdlnddaaFrameA
namespace Go.Proofs.Ytkngmnfgdlnddaa
open Go.RowKit Go.Lib Hw Go.Maps
set_option linter.unusedVariables false

set_option maxHeartbeats 4000000 in
theorem FreeEntries_walk (v : Value) (w : World) (hv : IsFrame v) : Calls Try.prog 3 #[v] w fun e w' => e = .returned (.bool true) ∧ Below w.heap.size w w' := by
  obtain ⟨a, b, rfl, _, _⟩ := hv
  obtain ⟨N, hN⟩ : ∃ N, w.heap.size = N := ⟨_, rfl⟩
  have HN := Lib.hid hN
  rw [hN]
  obtain ⟨E, hE⟩ : ∃ E, entI a b = E := ⟨_, rfl⟩
  have HE := Lib.hid hE
  clear hN hE
  go_enter Try.func3, Try.ntmps3
  go_upto_region 0 with fail
  with_reducible refine wp_region_list ?_
  refine wpList_boxB rfl _ _ rfl N HN.out #[.int .i64 a, .int .i64 b] rfl ?_
  intro w1 e1 b1 z1
  (try simp only [Act.put, List.setIfInBounds_toArray, List.set_cons_zero, List.set_cons_succ])
  with_reducible refine wpList_plain rfl ?_
  intro K hK
  go_simp
  first | with_reducible refine hK _ _ ?_ | refine hK _ _ ?_
  clear hK K
  (try simp only [Act.put, List.setIfInBounds_toArray, List.set_cons_zero, List.set_cons_succ])
  have c0 := heap_cell e1 (o := 0)
  have c1 := heap_cell e1 (o := 1)
  have keep : ∀ W, Below w1.heap.size w1 W → (W.cell? ⟨N, 0, none⟩ = some (.int .i64 a) ∧ W.cell? ⟨N, 1, none⟩ = some (.int .i64 b)) := fun W hb => by
    have h := heap_below e1 hb (by omega)
    exact ⟨heap_cell h 0, heap_cell h 1⟩
  have KP := Lib.hid keep
  have B1 := Lib.hid b1
  have Z1 := Lib.hid z1
  clear keep b1 z1 e1
  go_upto_region 1 with fail
  refine wp_region_held_drew (S := fun W => W.cell? ⟨N, 0, none⟩ = some (.int .i64 a) ∧ W.cell? ⟨N, 1, none⟩ = some (.int .i64 b)) (by kernel_rfl) ⟨c0, c1⟩ (fun hHeld => ?_)
  refine' wpAnyH_take (i := 0) (oi := { dst := Option.some 3, op := Op.load 23 (Operand.tmp 1), type := 23, pos := "law.go:25", after := #[], guard := Option.none }) rfl (by kernel_rfl) (by kernel_rfl) (by kernel_rfl) (fun _ _ _ h => h) (Or.inl ⟨by rfl, _⟩) (by assumption) _
  rotate_left
  · (intro wS hSw; (try dsimp only at hSw); go_simp; try with_reducible rfl)
  try simp only [Act.put, List.setIfInBounds_toArray, List.set_cons_zero, List.set_cons_succ]
  refine' wpAnyH_take (i := 2) (oi := { dst := Option.some 5, op := Op.load 23 (Operand.tmp 1), type := 23, pos := "law.go:25", after := #[], guard := Option.none }) rfl (by kernel_rfl) (by kernel_rfl) (by kernel_rfl) (fun _ _ _ h => h) (Or.inl ⟨by rfl, _⟩) (by assumption) _
  rotate_left
  · (intro wS hSw; (try dsimp only at hSw); go_simp; try with_reducible rfl)
  try simp only [Act.put, List.setIfInBounds_toArray, List.set_cons_zero, List.set_cons_succ]
  refine wpAnyH_ready (rs := [1]) (by kernel_rfl) (by simp) ?_
  refine AllReadyH.cons (o := { dst := Option.some 4, op := Op.call { callee := Callee.value (Operand.func 18), args := #[Operand.tmp 3], argTypes := #[23] }, type := 3, pos := "law.go:25", after := #[{ on := 0, ground := Ground.data }], guard := Option.none }) rfl (fun K hK => ?_) AllReadyH.nil
  go_simp
  (refine (Entries_any a b w1.drew).mono ?_; rintro e w2 ⟨rfl, b2⟩; rw [HE.out]; have B2 : Hid (Below w1.heap.size w1 w2) := ((Below.refl _ _).drew).trans b2)
  refine hK.out _ _ ?_ (fun hHeld => ?_)
  · exact KP.out w2 B2.out
  clear hK K
  try simp only [Act.put, List.setIfInBounds_toArray, List.set_cons_zero, List.set_cons_succ]
  refine wpAnyH_ready (rs := [3]) (by kernel_rfl) (by simp) ?_
  refine AllReadyH.cons (o := { dst := Option.some 6, op := Op.call { callee := Callee.value (Operand.func 19), args := #[Operand.tmp 5], argTypes := #[23] }, type := 3, pos := "law.go:25", after := #[{ on := 2, ground := Ground.data }, { on := 1, ground := Ground.chain }], guard := Option.none }) rfl (fun K hK => ?_) AllReadyH.nil
  go_simp
  (refine (refEntries_any a b w2).mono ?_; rintro e w3 ⟨rfl, b3⟩; rw [HE.out]; have B3 : Hid (Below w1.heap.size w1 w3) := B2.out.trans (b3.mono (by have := B2.out.size; exact this)))
  refine hK.out _ _ ?_ (fun hHeld => ?_)
  · exact KP.out w3 B3.out
  clear hK K
  try simp only [Act.put, List.setIfInBounds_toArray, List.set_cons_zero, List.set_cons_succ]
  refine' wpAnyH_take (i := 4) (oi := { dst := Option.some 7, op := Op.binOp BinOp.eql 3 (Operand.tmp 4) (Operand.tmp 6) 3, type := 4, pos := "law.go:25", after := #[{ on := 1, ground := Ground.data }, { on := 3, ground := Ground.data }], guard := Option.none }) rfl (by kernel_rfl) (by kernel_rfl) (by kernel_rfl) (fun _ _ _ h => h) (Or.inl ⟨by rfl, _⟩) (by assumption) _
  rotate_left
  · (intro wS hSw; (try dsimp only at hSw); go_simp; try with_reducible rfl)
  try simp only [Act.put, List.setIfInBounds_toArray, List.set_cons_zero, List.set_cons_succ]
  refine' wpAnyH_take (i := 5) (oi := { dst := Option.some 8, op := Op.move (Operand.tmp 7), type := 4, pos := "law.go:25", after := #[{ on := 4, ground := Ground.data }, { on := 3, ground := Ground.chain }], guard := Option.none }) rfl (by kernel_rfl) (by kernel_rfl) (by kernel_rfl) (fun _ _ _ h => h) (Or.inl ⟨by rfl, _⟩) (by assumption) _
  rotate_left
  · (intro wS hSw; (try dsimp only at hSw); go_simp; try with_reducible rfl)
  try simp only [Act.put, List.setIfInBounds_toArray, List.set_cons_zero, List.set_cons_succ]
  refine wpAnyH_ready (rs := [6]) (by kernel_rfl) (by simp) ?_
  refine AllReadyH.cons (o := { dst := Option.some 9, op := Op.call { callee := Callee.value (Operand.func 20), args := #[], argTypes := #[] }, type := 4, pos := "law.go:25", after := #[{ on := 5, ground := Ground.chain }, { on := 5, ground := Ground.guard }], guard := Option.some (5, Bool.true) }) rfl (fun K hK => ?_) AllReadyH.nil
  go_simp
  (refine (awake_any w3).mono ?_; rintro e w4 ⟨rfl, b4⟩; have B4 : Hid (Below w1.heap.size w1 w4) := B3.out.trans (b4.mono (by have := B3.out.size; exact this)))
  refine hK.out _ _ ?_ (fun hHeld => ?_)
  · exact KP.out w4 B4.out
  clear hK K
  try simp only [Act.put, List.setIfInBounds_toArray, List.set_cons_zero, List.set_cons_succ]
  refine' wpAnyH_take (i := 7) (oi := { dst := Option.some 10, op := Op.pick (Operand.tmp 8) (Operand.tmp 9) (Operand.const (Value.bool Bool.false)), type := 4, pos := "law.go:25", after := #[{ on := 5, ground := Ground.data }, { on := 6, ground := Ground.data }], guard := Option.none }) rfl (by kernel_rfl) (by kernel_rfl) (by kernel_rfl) (fun _ _ _ h => h) (Or.inl ⟨by rfl, _⟩) (by assumption) _
  rotate_left
  · (intro wS hSw; (try dsimp only at hSw); go_simp; try with_reducible rfl)
  try simp only [Act.put, List.setIfInBounds_toArray, List.set_cons_zero, List.set_cons_succ]
  refine' wpAnyH_take (i := 8) (oi := { dst := Option.some 2, op := Op.assign (Operand.tmp 10), type := 4, pos := "law.go:25", after := #[{ on := 7, ground := Ground.data }, { on := 6, ground := Ground.chain }, { on := 0, ground := Ground.phase }, { on := 1, ground := Ground.phase }, { on := 2, ground := Ground.phase }, { on := 3, ground := Ground.phase }, { on := 4, ground := Ground.phase }, { on := 5, ground := Ground.phase }, { on := 6, ground := Ground.phase }, { on := 7, ground := Ground.phase }], guard := Option.none }) rfl (by kernel_rfl) (by kernel_rfl) (by kernel_rfl) (fun _ _ _ h => h) (Or.inl ⟨by rfl, _⟩) (by assumption) _
  rotate_left
  · (intro wS hSw; (try dsimp only at hSw); go_simp; try with_reducible rfl)
  try simp only [Act.put, List.setIfInBounds_toArray, List.set_cons_zero, List.set_cons_succ]
  refine wpAnyH_done (by kernel_rfl) ?_ _
  go_wp2_with fail
  go_ret
  exact ⟨rfl, B1.out.trans (B4.out.mono (by have := Z1.out; omega))⟩
theorem ent_8192 : entI 8192 1 = 2038 := by decide
theorem FreeNames_walk (w : World) : Calls Try.prog 10 #[] w fun e w' => e = .returned (.bool true) ∧ Below w.heap.size w w' := by
  go_enter Try.func10, Try.ntmps10
  go_upto_region 1 with fail
  with_reducible refine wp_region_list ?_
  with_reducible refine wpList_plain rfl ?_
  intro K hK
  go_simp
  first | with_reducible refine hK _ _ ?_ | refine hK _ _ ?_
  clear hK K
  (try simp only [Act.put, List.setIfInBounds_toArray, List.set_cons_zero, List.set_cons_succ])
  with_reducible refine wpList_step ?_
  intro K hK
  rw [if_pos (by rfl)]
  go_simp
  first | with_reducible refine hK _ _ ?_ | refine hK _ _ ?_
  clear hK K
  (try simp only [Act.put, List.setIfInBounds_toArray, List.set_cons_zero, List.set_cons_succ])
  with_reducible refine wpList_step ?_
  intro K hK
  rw [if_pos (by rfl)]
  go_simp
  refine (Entries_any 8192 1 w).mono ?_; rintro e w2 ⟨rfl, b2⟩; rw [ent_8192]
  first | with_reducible refine hK _ _ ?_ | refine hK _ _ ?_
  clear hK K
  (try simp only [Act.put, List.setIfInBounds_toArray, List.set_cons_zero, List.set_cons_succ])
  with_reducible refine wpList_step ?_
  intro K hK
  rw [if_pos (by rfl)]
  go_simp
  first | with_reducible refine hK _ _ ?_ | refine hK _ _ ?_
  clear hK K
  (try simp only [Act.put, List.setIfInBounds_toArray, List.set_cons_zero, List.set_cons_succ])
  with_reducible refine wpList_plain rfl ?_
  intro K hK
  go_simp
  first | with_reducible refine hK _ _ ?_ | refine hK _ _ ?_
  clear hK K
  (try simp only [Act.put, List.setIfInBounds_toArray, List.set_cons_zero, List.set_cons_succ])
  with_reducible refine wpList_plain rfl ?_
  intro K hK
  go_simp
  first | with_reducible refine hK _ _ ?_ | refine hK _ _ ?_
  clear hK K
  (try simp only [Act.put, List.setIfInBounds_toArray, List.set_cons_zero, List.set_cons_succ])
  with_reducible refine wpList_step ?_
  intro K hK
  rw [if_pos (by rfl)]
  go_simp
  refine (awake_any w2).mono ?_; rintro e w3 ⟨rfl, b3⟩
  first | with_reducible refine hK _ _ ?_ | refine hK _ _ ?_
  clear hK K
  (try simp only [Act.put, List.setIfInBounds_toArray, List.set_cons_zero, List.set_cons_succ])
  with_reducible refine wpList_plain rfl ?_
  intro K hK
  go_simp
  first | with_reducible refine hK _ _ ?_ | refine hK _ _ ?_
  clear hK K
  (try simp only [Act.put, List.setIfInBounds_toArray, List.set_cons_zero, List.set_cons_succ])
  with_reducible refine wpList_plain rfl ?_
  intro K hK
  go_simp
  first | with_reducible refine hK _ _ ?_ | refine hK _ _ ?_
  clear hK K
  (try simp only [Act.put, List.setIfInBounds_toArray, List.set_cons_zero, List.set_cons_succ])
  go_wp2_with fail
  go_ret
  exact ⟨rfl, b2.trans (b3.mono b2.size)⟩
end Go.Proofs.Ytkngmnfgdlnddaa
