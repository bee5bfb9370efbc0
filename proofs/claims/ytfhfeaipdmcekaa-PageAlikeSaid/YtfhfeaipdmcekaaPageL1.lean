/-
  The walks of the laws PageNames, PageCheck.
-/
import Derived.Test.YtfhfeaipdmcekaaAwake
namespace Go.Proofs.Ytfhfeaipdmcekaa
open Go.RowKit Hw
set_option linter.unusedVariables false

/-- two arguments in their boxes: a frame and a page -/
structure TB (w W : World) (a b k n r : Int) (s : ByteArray) : Prop where
  f : W.heap[w.heap.size]? = some (.cells #[.int .i64 a, .int .i64 b] 23 (0, 0))
  p : W.heap[w.heap.size + 1]? = some (.cells #[.int .u8 k, .int .u32 n, .int .u64 r, .string s] 28 (0, 0))
  bel : Below w.heap.size w W
section
variable {w W W' : World} {a b k n r : Int} {s : ByteArray}
theorem TB.size (h : TB w W a b k n r s) : w.heap.size + 1 < W.heap.size := heap_lt h.p
theorem TB.alloc (h : TB w W a b k n r s) (o : Obj) : TB w (W.alloc o) a b k n r s := ⟨heap_alloc h.f, heap_alloc h.p, h.bel.alloc (by have := h.size; omega) _⟩
theorem TB.drew (h : TB w W a b k n r s) : TB w W.drew a b k n r s := ⟨h.f, h.p, h.bel.drew⟩
theorem TB.below {B : Nat} (h : TB w W a b k n r s) (hb : Below B W W') (hB : w.heap.size + 1 < B) : TB w W' a b k n r s :=
  ⟨heap_below h.f hb (by omega), heap_below h.p hb hB, h.bel.trans (hb.mono (by omega))⟩
theorem TB.call (h : TB w W a b k n r s) (hb : Below W.heap.size W W') : TB w W' a b k n r s := h.below hb h.size
theorem TB.full (h : TB w W a b k n r s) : W.cell? ⟨w.heap.size, 0, none⟩ = some (.int .i64 a) ∧ W.cell? ⟨w.heap.size, 1, none⟩ = some (.int .i64 b) ∧ W.cell? ⟨w.heap.size + 1, 0, none⟩ = some (.int .u8 k) ∧
    W.cell? ⟨w.heap.size + 1, 1, none⟩ = some (.int .u32 n) ∧ W.cell? ⟨w.heap.size + 1, 2, none⟩ = some (.int .u64 r) ∧ W.cell? ⟨w.heap.size + 1, 3, none⟩ = some (.string s) ∧ TB w W a b k n r s := by
  refine ⟨?_, ?_, ?_, ?_, ?_, ?_, h⟩
  · rw [heap_cell h.f]; rfl
  · rw [heap_cell h.f]; rfl
  · rw [heap_cell h.p]; rfl
  · rw [heap_cell h.p]; rfl
  · rw [heap_cell h.p]; rfl
  · rw [heap_cell h.p]; rfl
end
theorem TB.start (w : World) (a b k n r : Int) (s : ByteArray) : TB w ((w.alloc (.cells #[.int .i64 a, .int .i64 b] 23)).alloc (.cells #[.int .u8 k, .int .u32 n, .int .u64 r, .string s] 28)) a b k n r s := by
  refine ⟨heap_alloc (heap_new _ _), ?_, ((Below.refl _ _).alloc (Nat.le_refl _) _).alloc (by simp) _⟩
  have := heap_new (w.alloc (.cells #[.int .i64 a, .int .i64 b] 23)) (.cells #[.int .u8 k, .int .u32 n, .int .u64 r, .string s] 28)
  simpa only [World.size_alloc] using this

set_option maxHeartbeats 1000000 in
theorem PageNames_walk (w : World) : Calls Try.prog 4 #[] w fun e w' => e = .returned (.bool true) ∧ Below w.heap.size w w' := by
  go_enter Try.func4, Try.ntmps4
  go_wp2_with fail
  refine (awake_any _).mono ?_
  rintro e w1 ⟨rfl, hb⟩
  go_wp2_with fail
  go_ret
  exact ⟨rfl, hb⟩

set_option maxHeartbeats 2000000 in
theorem PageCheck_walk (v0 v1 : Value) (w : World) (h0 : ∃ a b, v0 = .agg #[.int .i64 a, .int .i64 b] ∧ (-9223372036854775808 ≤ a ∧ a ≤ 9223372036854775807) ∧ (-9223372036854775808 ≤ b ∧ b ≤ 9223372036854775807))
    (h1 : ∃ k n r s, v1 = .agg #[.int .u8 k, .int .u32 n, .int .u64 r, .string s] ∧ (0 ≤ k ∧ k < 256) ∧ (0 ≤ n ∧ n < 4294967296) ∧ (0 ≤ r ∧ r < 18446744073709551616) ∧ s.size ≤ 9223372036854775807) :
    Calls Try.prog 5 #[v0, v1] w fun e w' => e = .returned (.bool true) ∧ Below w.heap.size w w' := by
  obtain ⟨a, b, rfl, ha, hb⟩ := h0
  obtain ⟨k, n, r, s, rfl, hk, hn, hr, hs⟩ := h1
  have T0 := Lib.hid (TB.start w a b k n r s)
  have HC1 := Lib.hid (Check_any a b k n r s)
  have HC2 := Lib.hid (refCheck_any a b k n r s)
  go_enter Try.func5, Try.ntmps5
  go_wp2_with fail
  obtain ⟨c, hc⟩ : ∃ c, checkI a b k n r s.size = c := ⟨_, rfl⟩
  rw [hc] at HC1 HC2
  clear hc
  refine wp_region_held_drew (S := (fun W => W.cell? ⟨w.heap.size, 0, none⟩ = some (.int .i64 a) ∧ W.cell? ⟨w.heap.size, 1, none⟩ = some (.int .i64 b) ∧ W.cell? ⟨w.heap.size + 1, 0, none⟩ = some (.int .u8 k) ∧ W.cell? ⟨w.heap.size + 1, 1, none⟩ = some (.int .u32 n) ∧ W.cell? ⟨w.heap.size + 1, 2, none⟩ = some (.int .u64 r) ∧ W.cell? ⟨w.heap.size + 1, 3, none⟩ = some (.string s) ∧ TB w W a b k n r s)) (by kernel_rfl) T0.out.drew.full (fun hHeld => ?_)
  refine' wpAnyH_take (i := 0) (oi := { dst := Option.some 5, op := Op.load 23 (Operand.tmp 2), type := 23, pos := "law.go:39", after := #[], guard := Option.none }) rfl (by kernel_rfl) (by kernel_rfl) (by kernel_rfl) (fun _ _ _ h => h) (Or.inl ⟨by rfl, _⟩) (by assumption) _
  rotate_left
  · (intro wS hSw; (try dsimp only at hSw); go_simp; try with_reducible rfl)
  try simp only [Act.put, List.setIfInBounds_toArray, List.set_cons_zero, List.set_cons_succ]
  refine' wpAnyH_take (i := 1) (oi := { dst := Option.some 6, op := Op.load 28 (Operand.tmp 3), type := 28, pos := "law.go:39", after := #[], guard := Option.none }) rfl (by kernel_rfl) (by kernel_rfl) (by kernel_rfl) (fun _ _ _ h => h) (Or.inl ⟨by rfl, _⟩) (by assumption) _
  rotate_left
  · (intro wS hSw; (try dsimp only at hSw); go_simp; try with_reducible rfl)
  try simp only [Act.put, List.setIfInBounds_toArray, List.set_cons_zero, List.set_cons_succ]
  refine' wpAnyH_take (i := 3) (oi := { dst := Option.some 8, op := Op.load 23 (Operand.tmp 2), type := 23, pos := "law.go:39", after := #[], guard := Option.none }) rfl (by kernel_rfl) (by kernel_rfl) (by kernel_rfl) (fun _ _ _ h => h) (Or.inl ⟨by rfl, _⟩) (by assumption) _
  rotate_left
  · (intro wS hSw; (try dsimp only at hSw); go_simp; try with_reducible rfl)
  try simp only [Act.put, List.setIfInBounds_toArray, List.set_cons_zero, List.set_cons_succ]
  refine' wpAnyH_take (i := 4) (oi := { dst := Option.some 9, op := Op.load 28 (Operand.tmp 3), type := 28, pos := "law.go:39", after := #[], guard := Option.none }) rfl (by kernel_rfl) (by kernel_rfl) (by kernel_rfl) (fun _ _ _ h => h) (Or.inl ⟨by rfl, _⟩) (by assumption) _
  rotate_left
  · (intro wS hSw; (try dsimp only at hSw); go_simp; try with_reducible rfl)
  try simp only [Act.put, List.setIfInBounds_toArray, List.set_cons_zero, List.set_cons_succ]
  refine wpAnyH_ready (rs := [2]) (by kernel_rfl) (by simp) ?_
  refine AllReadyH.cons (o := { dst := Option.some 7, op := Op.call { callee := Callee.value (Operand.func 18), args := #[Operand.tmp 5, Operand.tmp 6], argTypes := #[23, 28] }, type := 33, pos := "law.go:39", after := #[{ on := 0, ground := Ground.data }, { on := 1, ground := Ground.data }], guard := Option.none }) rfl (fun K hK => ?_) AllReadyH.nil
  go_simp
  (go_at_call 18; refine (HC1.out _ ha hk hn hr hs).mono ?_; rintro e w12 ⟨rfl, hb12⟩)
  refine hK.out _ _ ?_ (fun hHeld => ?_)
  · exact (hHeld.2.2.2.2.2.2.call hb12).full
  clear hK K
  try simp only [Act.put, List.setIfInBounds_toArray, List.set_cons_zero, List.set_cons_succ]
  refine wpAnyH_ready (rs := [5]) (by kernel_rfl) (by simp) ?_
  refine AllReadyH.cons (o := { dst := Option.some 10, op := Op.call { callee := Callee.value (Operand.func 19), args := #[Operand.tmp 8, Operand.tmp 9], argTypes := #[23, 28] }, type := 33, pos := "law.go:39", after := #[{ on := 3, ground := Ground.data }, { on := 4, ground := Ground.data }, { on := 2, ground := Ground.chain }], guard := Option.none }) rfl (fun K hK => ?_) AllReadyH.nil
  go_simp
  (go_at_call 19; refine (HC2.out _ ha hk hn hr hs).mono ?_; rintro e w12 ⟨rfl, hb12⟩)
  refine hK.out _ _ ?_ (fun hHeld => ?_)
  · exact (hHeld.2.2.2.2.2.2.call hb12).full
  clear hK K
  try simp only [Act.put, List.setIfInBounds_toArray, List.set_cons_zero, List.set_cons_succ]
  refine' wpAnyH_take (i := 6) (oi := { dst := Option.some 11, op := Op.binOp BinOp.eql 33 (Operand.tmp 7) (Operand.tmp 10) 33, type := 4, pos := "law.go:39", after := #[{ on := 2, ground := Ground.data }, { on := 5, ground := Ground.data }], guard := Option.none }) rfl (by kernel_rfl) (by kernel_rfl) (by kernel_rfl) (fun _ _ _ h => h) (Or.inl ⟨by rfl, _⟩) (by assumption) _
  rotate_left
  · (intro wS hSw; (try dsimp only at hSw); go_simp; try with_reducible rfl)
  try simp only [Act.put, List.setIfInBounds_toArray, List.set_cons_zero, List.set_cons_succ]
  refine' wpAnyH_take (i := 7) (oi := { dst := Option.some 12, op := Op.move (Operand.tmp 11), type := 4, pos := "law.go:39", after := #[{ on := 6, ground := Ground.data }, { on := 5, ground := Ground.chain }], guard := Option.none }) rfl (by kernel_rfl) (by kernel_rfl) (by kernel_rfl) (fun _ _ _ h => h) (Or.inl ⟨by rfl, _⟩) (by assumption) _
  rotate_left
  · (intro wS hSw; (try dsimp only at hSw); go_simp; try with_reducible rfl)
  try simp only [Act.put, List.setIfInBounds_toArray, List.set_cons_zero, List.set_cons_succ]
  refine wpAnyH_ready (rs := [8]) (by kernel_rfl) (by simp) ?_
  refine AllReadyH.cons (o := { dst := Option.some 13, op := Op.call { callee := Callee.value (Operand.func 17), args := #[], argTypes := #[] }, type := 4, pos := "law.go:39", after := #[{ on := 7, ground := Ground.chain }, { on := 7, ground := Ground.guard }], guard := Option.some (7, Bool.true) }) rfl (fun K hK => ?_) AllReadyH.nil
  go_simp
  (go_at_call 17; refine (awake_any _).mono ?_; rintro e w12 ⟨rfl, hb12⟩)
  refine hK.out _ _ ?_ (fun hHeld => ?_)
  · exact (hHeld.2.2.2.2.2.2.call hb12).full
  clear hK K
  try simp only [Act.put, List.setIfInBounds_toArray, List.set_cons_zero, List.set_cons_succ]
  refine' wpAnyH_take (i := 9) (oi := { dst := Option.some 14, op := Op.pick (Operand.tmp 12) (Operand.tmp 13) (Operand.const (Value.bool Bool.false)), type := 4, pos := "law.go:39", after := #[{ on := 7, ground := Ground.data }, { on := 8, ground := Ground.data }], guard := Option.none }) rfl (by kernel_rfl) (by kernel_rfl) (by kernel_rfl) (fun _ _ _ h => h) (Or.inl ⟨by rfl, _⟩) (by assumption) _
  rotate_left
  · (intro wS hSw; (try dsimp only at hSw); go_simp; try with_reducible rfl)
  try simp only [Act.put, List.setIfInBounds_toArray, List.set_cons_zero, List.set_cons_succ]
  refine' wpAnyH_take (i := 10) (oi := { dst := Option.some 4, op := Op.assign (Operand.tmp 14), type := 4, pos := "law.go:39", after := #[{ on := 9, ground := Ground.data }, { on := 8, ground := Ground.chain }, { on := 0, ground := Ground.phase }, { on := 1, ground := Ground.phase }, { on := 2, ground := Ground.phase }, { on := 3, ground := Ground.phase }, { on := 4, ground := Ground.phase }, { on := 5, ground := Ground.phase }, { on := 6, ground := Ground.phase }, { on := 7, ground := Ground.phase }, { on := 8, ground := Ground.phase }, { on := 9, ground := Ground.phase }], guard := Option.none }) rfl (by kernel_rfl) (by kernel_rfl) (by kernel_rfl) (fun _ _ _ h => h) (Or.inl ⟨by rfl, _⟩) (by assumption) _
  rotate_left
  · (intro wS hSw; (try dsimp only at hSw); go_simp; try with_reducible rfl)
  try simp only [Act.put, List.setIfInBounds_toArray, List.set_cons_zero, List.set_cons_succ]
  refine wpAnyH_done (by kernel_rfl) ?_ _
  have T9 := Lib.hid hHeld.2.2.2.2.2.2
  clear hHeld
  go_wp2
  go_ret
  exact ⟨rfl, T9.out.bel⟩
end Go.Proofs.Ytfhfeaipdmcekaa
