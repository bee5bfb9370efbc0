/-
  The walk of page.Read.
-/
import Derived.Test.YtfhfeaipdmcekaaPageW4
import Derived.Test.YtfhfeaipdmcekaaReadW
namespace Go.Proofs.Ytfhfeaipdmcekaa
open Go.RowKit Hw
set_option linter.unusedVariables false
attribute [local go_sem] bstr_size be_length

/-- what page.Read works on: its frame, its result, the page that it fills -/
structure RS (w W : World) (a b k n r : Int) (t : ByteArray) : Prop where
  f : W.heap[w.heap.size]? = some (.cells #[.int .i64 a, .int .i64 b] 23 (0, 0))
  res : W.heap[w.heap.size + 1]? = some (.cells #[.int .u8 0, .int .u32 0, .int .u64 0, .string ⟨#[]⟩] 28 (0, 0))
  p : W.heap[w.heap.size + 1 + 1]? = some (.cells #[.int .u8 k, .int .u32 n, .int .u64 r, .string t] 28 (0, 0))
  bel : Below w.heap.size w W

section
variable {w W W' : World} {a b k n r : Int} {t : ByteArray}
theorem RS.size (h : RS w W a b k n r t) : w.heap.size + 1 + 1 < W.heap.size := heap_lt h.p
theorem RS.alloc (h : RS w W a b k n r t) (o : Obj) : RS w (W.alloc o) a b k n r t :=
  ⟨heap_alloc h.f, heap_alloc h.res, heap_alloc h.p, h.bel.alloc (by have := h.size; omega) _⟩
theorem RS.drew (h : RS w W a b k n r t) : RS w W.drew a b k n r t := ⟨h.f, h.res, h.p, h.bel.drew⟩
theorem RS.below {B : Nat} (h : RS w W a b k n r t) (hb : Below B W W') (hB : w.heap.size + 1 + 1 < B) : RS w W' a b k n r t :=
  ⟨heap_below h.f hb (by omega), heap_below h.res hb (by omega), heap_below h.p hb hB, h.bel.trans (hb.mono (by omega))⟩
theorem RS.set0 (h : RS w W a b k n r t) (k' : Int) : RS w (W.setCell ⟨w.heap.size + 1 + 1, 0, none⟩ (.int .u8 k')) a b k' n r t :=
  ⟨heap_setOther h.f (show w.heap.size ≠ w.heap.size + 1 + 1 by omega) _, heap_setOther h.res (show w.heap.size + 1 ≠ w.heap.size + 1 + 1 by omega) _, heap_set h.p _, h.bel.setCell (show w.heap.size ≤ w.heap.size + 1 + 1 by omega) _⟩
theorem RS.set1 (h : RS w W a b k n r t) (k' : Int) : RS w (W.setCell ⟨w.heap.size + 1 + 1, 1, none⟩ (.int .u32 k')) a b k k' r t :=
  ⟨heap_setOther h.f (show w.heap.size ≠ w.heap.size + 1 + 1 by omega) _, heap_setOther h.res (show w.heap.size + 1 ≠ w.heap.size + 1 + 1 by omega) _, heap_set h.p _, h.bel.setCell (show w.heap.size ≤ w.heap.size + 1 + 1 by omega) _⟩
theorem RS.set2 (h : RS w W a b k n r t) (k' : Int) : RS w (W.setCell ⟨w.heap.size + 1 + 1, 2, none⟩ (.int .u64 k')) a b k n k' t :=
  ⟨heap_setOther h.f (show w.heap.size ≠ w.heap.size + 1 + 1 by omega) _, heap_setOther h.res (show w.heap.size + 1 ≠ w.heap.size + 1 + 1 by omega) _, heap_set h.p _, h.bel.setCell (show w.heap.size ≤ w.heap.size + 1 + 1 by omega) _⟩
theorem RS.set3 (h : RS w W a b k n r t) (t' : ByteArray) : RS w (W.setCell ⟨w.heap.size + 1 + 1, 3, none⟩ (.string t')) a b k n r t' :=
  ⟨heap_setOther h.f (show w.heap.size ≠ w.heap.size + 1 + 1 by omega) _, heap_setOther h.res (show w.heap.size + 1 ≠ w.heap.size + 1 + 1 by omega) _, heap_set h.p _, h.bel.setCell (show w.heap.size ≤ w.heap.size + 1 + 1 by omega) _⟩
/-- the result, stored cell by cell -/
theorem RS.done (h : RS w W a b k n r t) (k' n' r' : Int) (t' : ByteArray) {W4 : World}
    (e : W4 = (((W.setCell ⟨w.heap.size + 1, 0, none⟩ (.int .u8 k')).setCell ⟨w.heap.size + 1, 1, none⟩ (.int .u32 n')).setCell ⟨w.heap.size + 1, 2, none⟩ (.int .u64 r')).setCell ⟨w.heap.size + 1, 3, none⟩ (.string t')) :
    W4.cell? ⟨w.heap.size + 1, 0, none⟩ = some (.int .u8 k') ∧ W4.cell? ⟨w.heap.size + 1, 1, none⟩ = some (.int .u32 n') ∧ W4.cell? ⟨w.heap.size + 1, 2, none⟩ = some (.int .u64 r') ∧ W4.cell? ⟨w.heap.size + 1, 3, none⟩ = some (.string t') ∧ Below w.heap.size w W4 := by
  have h1 := heap_set (o := 0) h.res (.int .u8 k')
  have h2 := heap_set (o := 1) h1 (.int .u32 n')
  have h3 := heap_set (o := 2) h2 (.int .u64 r')
  have h4 := heap_set (o := 3) h3 (.string t')
  rw [← e] at h4
  refine ⟨by rw [heap_cell h4]; rfl, by rw [heap_cell h4]; rfl, by rw [heap_cell h4]; rfl, by rw [heap_cell h4]; rfl, ?_⟩
  rw [e]
  exact (((h.bel.setCell (Nat.le_succ _) _).setCell (Nat.le_succ _) _).setCell (Nat.le_succ _) _).setCell (Nat.le_succ _) _
/-- its cells, as the walk reads them -/
theorem RS.cells (h : RS w W a b k n r t) :
    w.heap.size + 1 + 1 < W.heap.size ∧ W.cell? ⟨w.heap.size, 0, none⟩ = some (.int .i64 a) ∧ W.cell? ⟨w.heap.size, 1, none⟩ = some (.int .i64 b) ∧
    W.cell? ⟨w.heap.size + 1 + 1, 0, none⟩ = some (.int .u8 k) ∧ W.cell? ⟨w.heap.size + 1 + 1, 1, none⟩ = some (.int .u32 n) ∧ W.cell? ⟨w.heap.size + 1 + 1, 2, none⟩ = some (.int .u64 r) ∧ W.cell? ⟨w.heap.size + 1 + 1, 3, none⟩ = some (.string t) ∧
    W.frozen? ⟨w.heap.size + 1 + 1, 0, none⟩ = false ∧ W.frozen? ⟨w.heap.size + 1 + 1, 1, none⟩ = false ∧ W.frozen? ⟨w.heap.size + 1 + 1, 2, none⟩ = false ∧ W.frozen? ⟨w.heap.size + 1 + 1, 3, none⟩ = false ∧
    W.cell? ⟨w.heap.size + 1, 0, none⟩ = some (.int .u8 0) ∧ W.cell? ⟨w.heap.size + 1, 1, none⟩ = some (.int .u32 0) ∧ W.cell? ⟨w.heap.size + 1, 2, none⟩ = some (.int .u64 0) ∧ W.cell? ⟨w.heap.size + 1, 3, none⟩ = some (.string ⟨#[]⟩) ∧
    W.frozen? ⟨w.heap.size + 1, 0, none⟩ = false ∧ W.frozen? ⟨w.heap.size + 1, 1, none⟩ = false ∧ W.frozen? ⟨w.heap.size + 1, 2, none⟩ = false ∧ W.frozen? ⟨w.heap.size + 1, 3, none⟩ = false := by
  refine ⟨h.size, ?_, ?_, ?_, ?_, ?_, ?_, heap_free h.p 0, heap_free h.p 1, heap_free h.p 2, heap_free h.p 3, ?_, ?_, ?_, ?_, heap_free h.res 0, heap_free h.res 1, heap_free h.res 2, heap_free h.res 3⟩
  · rw [heap_cell h.f]; rfl
  · rw [heap_cell h.f]; rfl
  · rw [heap_cell h.p]; rfl
  · rw [heap_cell h.p]; rfl
  · rw [heap_cell h.p]; rfl
  · rw [heap_cell h.p]; rfl
  · rw [heap_cell h.res]; rfl
  · rw [heap_cell h.res]; rfl
  · rw [heap_cell h.res]; rfl
  · rw [heap_cell h.res]; rfl
end
theorem RS.start (w : World) (a b : Int) : RS w (((w.alloc (.cells #[.int .i64 a, .int .i64 b] 23)).alloc (.cells #[.int .u8 0, .int .u32 0, .int .u64 0, .string ⟨#[]⟩] 28)).alloc (.cells #[.int .u8 0, .int .u32 0, .int .u64 0, .string ⟨#[]⟩] 28)) a b 0 0 0 ⟨#[]⟩ := by
  refine ⟨heap_alloc (heap_alloc (heap_new _ _)), heap_alloc ?_, ?_, (((Below.refl _ _).alloc (Nat.le_refl _) _).alloc (by simp) _).alloc (by simp only [World.size_alloc]; omega) _⟩
  · have := heap_new (w.alloc (.cells #[.int .i64 a, .int .i64 b] 23)) (.cells #[.int .u8 0, .int .u32 0, .int .u64 0, .string ⟨#[]⟩] 28)
    simpa only [World.size_alloc] using this
  · have := heap_new ((w.alloc (.cells #[.int .i64 a, .int .i64 b] 23)).alloc (.cells #[.int .u8 0, .int .u32 0, .int .u64 0, .string ⟨#[]⟩] 28)) (.cells #[.int .u8 0, .int .u32 0, .int .u64 0, .string ⟨#[]⟩] 28)
    simpa only [World.size_alloc] using this

theorem beq_str_true {x y : ByteArray} (h : x = y) : (x.toList == y.toList) = true := by rw [h]; simp
theorem beq_str_false {x y : ByteArray} (h : x ≠ y) : (x.toList == y.toList) = false := by
  rw [beq_eq_false_iff_ne]
  intro e
  rw [ByteArray.toList_eq, ByteArray.toList_eq] at e
  exact h (ByteArray.ext (Array.toList_inj.1 e))

/-- what the four bytes of the sum should be -/
def sumOf (s : ByteArray) : List UInt8 := be 4 (crcOf ((s.extract 0 28).data.toList ++ (s.extract 32 s.size).data.toList)).toNat
def rdK (s : ByteArray) : Nat := told (piece s 5 1)
def rdL (s : ByteArray) : Nat := told (piece s 6 2)
def rdN (s : ByteArray) : Nat := told (piece s 8 4)
def rdR (s : ByteArray) : Nat := told (piece s 16 8)
def rdB (s : ByteArray) : ByteArray := s.extract 32 (32 + rdL s)
/-- page.Read's error -/
def readC (a b : Int) (s : ByteArray) : Int :=
  if mayB a b = false then 2 else if (s.size : Int) ≠ a then 51 else if bstr (sumOf s) ≠ s.extract 28 32 then 52 else if a - 32 < (rdL s : Int) then 53 else
  if writeS a b (rdK s) (rdN s) (rdR s) (rdB s) ≠ s then 53 else 0
def readV (a b : Int) (s : ByteArray) : Value :=
  .tuple #[if readC a b s = 0 then .agg #[.int .u8 (rdK s), .int .u32 (rdN s), .int .u64 (rdR s), .string (rdB s)] else .agg #[.int .u8 0, .int .u32 0, .int .u64 0, .string ⟨#[]⟩], .int .i64 (readC a b s)]

theorem wpDone {P : Program} {F : Func} {R : Ending → World → Prop} {x : Exit} {a : Act} {W : World} (h : ∀ W', W' = W → bodyPost P F R x a W') : bodyPost P F R x a W := h W rfl

set_option maxHeartbeats 4000000 in
theorem Read_any (a b : Int) (s : ByteArray) (w : World) (ha : -9223372036854775808 ≤ a ∧ a ≤ 9223372036854775807) (hs : s.size ≤ 9223372036854775807) :
    Calls Try.prog 20 #[.agg #[.int .i64 a, .int .i64 b], .string s] w fun e w' => e = .returned (readV a b s) ∧ Below w.heap.size w w' := by
  have R0 := RS.start w a b
  go_enter Try.func20, Try.ntmps20
  go_wp2_with fail
  refine (May_any _ _ _).mono ?_
  rintro e w1 ⟨rfl, hb1⟩
  have R1 := Lib.hid (R0.below hb1 (by simp only [World.size_alloc]; omega))
  clear hb1 R0
  obtain ⟨hz, f0, f1, p0, p1, p2, p3, g0, g1, g2, g3, q0, q1, q2, q3, k0, k1, k2, k3⟩ := R1.out.cells
  cases hm : mayB a b
  · have hC : Hid (readV a b s = .tuple #[.agg #[.int .u8 0, .int .u32 0, .int .u64 0, .string ⟨#[]⟩], .int .i64 2]) := by
      show _ = _; simp [readV, readC, hm]
    clear hm
    go_wp2_with fail
    refine wpDone (fun W4 e4 => ?_)
    obtain ⟨z0, z1, z2, z3, hB⟩ := R1.out.done 0 0 0 ⟨#[]⟩ e4
    exact bodyPost_ret (v := .tuple #[.agg #[.int .u8 0, .int .u32 0, .int .u64 0, .string ⟨#[]⟩], .int .i64 2]) (by simp [results, Try.results20, go_sem, z0, z1, z2, z3]) rfl ⟨by rw [hC.out], hB⟩
  · have hp := mayB_page hm
    have hp1 : 1024 ≤ a ∧ a ≤ 8192 := by omega
    have HM := Lib.hid hm
    clear hm hp
    by_cases hsa : (s.size : Int) = a
    · have e1 : ((s.size : Int) != a) = false := by rw [hsa]; simp
      go_wp2_with fail
      have l1 : (28 : Int) ≤ (s.size : Int) := by omega
      have l2 : (32 : Int) ≤ (s.size : Int) := by omega
      have l3 : 28 ≤ s.size := by omega
      have l4 : 32 ≤ s.size := by omega
      have l5 : s.size ≤ 8192 := by omega
      have Hsa := Lib.hid hsa
      clear hsa
      clear f0 f1 p0 p1 p2 p3 g0 g1 g2 g3 q0 q1 q2 q3 k0 k1 k2 k3
      obtain ⟨X, hX⟩ : ∃ X, crcOf ((s.extract 0 28).data.toList ++ (s.extract 32 s.size).data.toList) = X := ⟨_, rfl⟩
      have HX := Lib.hid hX
      have hsum : bstr (sumOf s) = bstr (be 4 (toU X).toNat) := by
        have ht : (toU X).toNat = X.toNat := by unfold toU; exact Int.toNat_natCast _
        rw [sumOf, hX, ht]
      clear hX
      by_cases hcmp : bstr (be 4 (toU X).toNat) = s.extract 28 32
      · have b1 := beq_str_true hcmp
        have HC := Lib.hid (hsum.trans hcmp)
        clear hsum hcmp
        refine wp_region_held_drew (S := fun W => RS w W a b 0 0 0 ⟨#[]⟩) (by kernel_rfl) R1.out.drew (fun hHeld => ?_)
        refine' wpAnyH_take (i := 0) (oi := { dst := Option.some 21, op := Op.move (Operand.tmp 1), type := 9, pos := "page.go:87", after := #[], guard := Option.none }) rfl (by kernel_rfl) (by kernel_rfl) (by kernel_rfl) (fun _ _ _ h => h) (Or.inl ⟨by rfl, _⟩) (by assumption) _
        rotate_left
        · (intro wS hSw; (try dsimp only at hSw); go_simp; try with_reducible rfl)
        try simp only [Act.put, List.setIfInBounds_toArray, List.set_cons_zero, List.set_cons_succ]
        refine' wpAnyH_take (i := 1) (oi := { dst := Option.some 22, op := Op.slice 9 (Operand.tmp 21) Option.none (Option.some (Operand.const (Value.int IntKind.i64 28))) Option.none, type := 9, pos := "page.go:87", after := #[{ on := 0, ground := Ground.data }], guard := Option.none }) rfl (by kernel_rfl) (by kernel_rfl) (by kernel_rfl) (fun _ _ _ h => h) (Or.inl ⟨by rfl, _⟩) (by assumption) _
        rotate_left
        · (intro wS hSw; (try dsimp only at hSw); go_simp; try with_reducible rfl)
        try simp only [Act.put, List.setIfInBounds_toArray, List.set_cons_zero, List.set_cons_succ]
        refine' wpAnyH_take (i := 2) (oi := { dst := Option.some 23, op := Op.move (Operand.tmp 1), type := 9, pos := "page.go:87", after := #[], guard := Option.none }) rfl (by kernel_rfl) (by kernel_rfl) (by kernel_rfl) (fun _ _ _ h => h) (Or.inl ⟨by rfl, _⟩) (by assumption) _
        rotate_left
        · (intro wS hSw; (try dsimp only at hSw); go_simp; try with_reducible rfl)
        try simp only [Act.put, List.setIfInBounds_toArray, List.set_cons_zero, List.set_cons_succ]
        refine' wpAnyH_take (i := 3) (oi := { dst := Option.some 24, op := Op.slice 9 (Operand.tmp 23) (Option.some (Operand.const (Value.int IntKind.i64 32))) Option.none Option.none, type := 9, pos := "page.go:87", after := #[{ on := 2, ground := Ground.data }], guard := Option.none }) rfl (by kernel_rfl) (by kernel_rfl) (by kernel_rfl) (fun _ _ _ h => h) (Or.inl ⟨by rfl, _⟩) (by assumption) _
        rotate_left
        · (intro wS hSw; (try dsimp only at hSw); go_simp; try with_reducible rfl)
        try simp only [Act.put, List.setIfInBounds_toArray, List.set_cons_zero, List.set_cons_succ]
        refine' wpAnyH_take (i := 7) (oi := { dst := Option.some 28, op := Op.move (Operand.tmp 1), type := 9, pos := "page.go:87", after := #[], guard := Option.none }) rfl (by kernel_rfl) (by kernel_rfl) (by kernel_rfl) (fun _ _ _ h => h) (Or.inl ⟨by rfl, _⟩) (by assumption) _
        rotate_left
        · (intro wS hSw; (try dsimp only at hSw); go_simp; try with_reducible rfl)
        try simp only [Act.put, List.setIfInBounds_toArray, List.set_cons_zero, List.set_cons_succ]
        refine' wpAnyH_take (i := 8) (oi := { dst := Option.some 29, op := Op.slice 9 (Operand.tmp 28) (Option.some (Operand.const (Value.int IntKind.i64 28))) (Option.some (Operand.const (Value.int IntKind.i64 32))) Option.none, type := 9, pos := "page.go:87", after := #[{ on := 7, ground := Ground.data }], guard := Option.none }) rfl (by kernel_rfl) (by kernel_rfl) (by kernel_rfl) (fun _ _ _ h => h) (Or.inl ⟨by rfl, _⟩) (by assumption) _
        rotate_left
        · (intro wS hSw; (try dsimp only at hSw); go_simp; try with_reducible rfl)
        try simp only [Act.put, List.setIfInBounds_toArray, List.set_cons_zero, List.set_cons_succ]
        refine wpAnyH_ready (rs := [4]) (by kernel_rfl) (by simp) ?_
        refine AllReadyH.cons (o := { dst := Option.some 25, op := Op.buildSlice 123 2 #[(0, Operand.tmp 22), (1, Operand.tmp 24)], type := 123, pos := "page.go:87", after := #[{ on := 1, ground := Ground.data }, { on := 3, ground := Ground.data }], guard := Option.none }) rfl (fun K hK => ?_) AllReadyH.nil
        go_simp
        refine hK.out _ _ ?_ (fun hHeld => ?_)
        · exact hHeld.alloc _
        clear hK K
        try simp only [Act.put, List.setIfInBounds_toArray, List.set_cons_zero, List.set_cons_succ]
        refine wpAnyH_ready (rs := [5]) (by kernel_rfl) (by simp) ?_
        refine AllReadyH.cons (o := { dst := Option.some 26, op := Op.call { callee := Callee.value (Operand.func 40), args := #[Operand.tmp 25], argTypes := #[123] }, type := 25, pos := "page.go:87", after := #[{ on := 4, ground := Ground.data }], guard := Option.none }) rfl (fun K hK => ?_) AllReadyH.nil
        go_simp
        (go_at_call 40; refine (crc_any _ [s.extract 0 28, s.extract 32 s.size] _ (StrRow.two w1 _ _ _ _ rfl).drew (by simp) (by intro x hx; simp at hx; rcases hx with rfl | rfl <;> rw [ByteArray.size_extract] <;> omega)).mono ?_; rintro e w12 ⟨rfl, rfl⟩)
        refine hK.out _ _ ?_ (fun hHeld => ?_)
        · exact hHeld
        clear hK K
        try simp only [Act.put, List.setIfInBounds_toArray, List.set_cons_zero, List.set_cons_succ]
        rw [crcParts_two, HX.out]
        refine wpAnyH_ready (rs := [6]) (by kernel_rfl) (by simp) ?_
        refine AllReadyH.cons (o := { dst := Option.some 27, op := Op.call { callee := Callee.value (Operand.func 39), args := #[Operand.tmp 26], argTypes := #[25] }, type := 9, pos := "page.go:87", after := #[{ on := 5, ground := Ground.data }, { on := 5, ground := Ground.chain }], guard := Option.none }) rfl (fun K hK => ?_) AllReadyH.nil
        go_simp
        (go_at_call 39; refine (four_any _ _ (toU_bd _)).mono ?_; rintro e w12 ⟨rfl, hb12⟩)
        refine hK.out _ _ ?_ (fun hHeld => ?_)
        · exact hHeld.below hb12 (by have := hHeld.size; omega)
        clear hK K
        try simp only [Act.put, List.setIfInBounds_toArray, List.set_cons_zero, List.set_cons_succ]
        refine' wpAnyH_take (i := 9) (oi := { dst := Option.some 30, op := Op.binOp BinOp.neq 9 (Operand.tmp 27) (Operand.tmp 29) 9, type := 4, pos := "page.go:87", after := #[{ on := 6, ground := Ground.data }, { on := 8, ground := Ground.data }], guard := Option.none }) rfl (by kernel_rfl) (by kernel_rfl) (by kernel_rfl) (fun _ _ _ h => h) (Or.inl ⟨by rfl, _⟩) (by assumption) _
        rotate_left
        · (intro wS hSw; (try dsimp only at hSw); go_simp; try with_reducible rfl)
        try simp only [Act.put, List.setIfInBounds_toArray, List.set_cons_zero, List.set_cons_succ]
        refine wpAnyH_done (by kernel_rfl) ?_ _
        have R2 := Lib.hid hHeld
        clear hHeld b1
        have hzz := R2.out.size
        go_wp2_with fail
        refine (Open_any _ _).mono ?_
        rintro e w3 ⟨rfl, rfl⟩
        have Q0 := Lib.hid (Rd.new w12 s)
        have R3 := Lib.hid (R2.out.alloc (.cells #[.bool true, .string s, .int .i64 0, .int .i64 0] 126))
        go_wp2_with fail
        refine (RRaw_any _ _ s 0 5 _ Q0.out (by omega) (by simp; omega) (by omega)).mono ?_
        rintro e w4 ⟨⟨v4, rfl⟩, q4, hb4⟩
        have Q4 : Hid (Rd w4 w12.heap.size w12.heap.size s 5) := q4
        have R4 := Lib.hid (R3.out.below hb4 hzz)
        clear q4 hb4 Q0 R3
        go_wp2_with fail
        refine (Take_PageKind _ _ s 5 _ Q4.out (by omega) (by omega)).mono ?_
        rintro e w5 ⟨rfl, q5, hb5⟩
        have Q5 := Lib.hid q5
        have R5 := Lib.hid (R4.out.below hb5 hzz)
        clear q5 hb5 Q4 R4
        obtain ⟨hz, f0, f1, p0, p1, p2, p3, g0, g1, g2, g3, q0, q1, q2, q3, k0, k1, k2, k3⟩ := R5.out.cells
        go_wp2_with fail
        clear f0 f1 p0 p1 p2 p3 g0 g1 g2 g3 q0 q1 q2 q3 k0 k1 k2 k3
        have Q6 : Hid (Rd _ w12.heap.size w12.heap.size s 6) := Lib.hid (Q5.out.setOther (a := ⟨w.heap.size + 1 + 1, 0, none⟩) hzz (.int .u8 (told (piece s 5 1) : Int)))
        have R6 := Lib.hid (R5.out.set0 (told (piece s 5 1) : Int))
        clear Q5 R5
        refine (Take_uint16 _ _ s 6 _ Q6.out (by omega) (by omega)).mono ?_
        rintro e w7 ⟨rfl, q7, hb7⟩
        have Q7 : Hid (Rd w7 w12.heap.size w12.heap.size s 8) := q7
        have R7 := Lib.hid (R6.out.below hb7 hzz)
        clear q7 hb7 Q6 R6
        obtain ⟨M, hM⟩ : ∃ M, told (piece s 6 2) = M := ⟨_, rfl⟩
        have hM2 : M < 65536 := by have h := told_lt (piece s 6 2); rw [piece_length s 6 2 (by omega), hM] at h; exact h
        rw [hM]
        have HMM := Lib.hid hM
        clear hM
        go_wp2_with fail
        refine (Take_uint32 _ _ s 8 _ Q7.out (by omega) (by omega)).mono ?_
        rintro e w8 ⟨rfl, q8, hb8⟩
        have Q8 := Lib.hid q8
        have R8 := Lib.hid (R7.out.below hb8 hzz)
        clear q8 hb8 Q7 R7
        obtain ⟨hz, f0, f1, p0, p1, p2, p3, g0, g1, g2, g3, q0, q1, q2, q3, k0, k1, k2, k3⟩ := R8.out.cells
        go_wp2_with fail
        clear f0 f1 p0 p1 p2 p3 g0 g1 g2 g3 q0 q1 q2 q3 k0 k1 k2 k3
        have Q9 : Hid (Rd _ w12.heap.size w12.heap.size s 12) := Lib.hid (Q8.out.setOther (a := ⟨w.heap.size + 1 + 1, 1, none⟩) hzz (.int .u32 (told (piece s 8 4) : Int)))
        have R9 := Lib.hid (R8.out.set1 (told (piece s 8 4) : Int))
        clear Q8 R8
        refine (RRaw_any _ _ s 12 4 _ Q9.out (by omega) (by simp; omega) (by omega)).mono ?_
        rintro e w10 ⟨⟨v10, rfl⟩, q10, hb10⟩
        have Q10 : Hid (Rd w10 w12.heap.size w12.heap.size s 16) := q10
        have R10 := Lib.hid (R9.out.below hb10 hzz)
        clear q10 hb10 Q9 R9
        go_wp2_with fail
        refine (Take_uint64 _ _ s 16 _ Q10.out (by omega) (by omega)).mono ?_
        rintro e w11 ⟨rfl, q11, hb11⟩
        have R11 := Lib.hid (R10.out.below hb11 hzz)
        clear q11 hb11 Q10 R10
        obtain ⟨hz, f0, f1, p0, p1, p2, p3, g0, g1, g2, g3, q0, q1, q2, q3, k0, k1, k2, k3⟩ := R11.out.cells
        go_wp2_with fail
        clear f0 f1 p0 p1 p2 p3 g0 g1 g2 g3 q0 q1 q2 q3 k0 k1 k2 k3
        have R12 := Lib.hid (R11.out.set2 (told (piece s 16 8) : Int))
        clear R11
        refine (Room_any _ _ _ (by omega)).mono ?_
        rintro e w13 ⟨rfl, hb13⟩
        have R13 := Lib.hid (R12.out.below hb13 R12.out.size)
        clear hb13 R12
        obtain ⟨hz, f0, f1, p0, p1, p2, p3, g0, g1, g2, g3, q0, q1, q2, q3, k0, k1, k2, k3⟩ := R13.out.cells
        by_cases hlen : a - 32 < (M : Int)
        · have d1 : decide (a - 32 < (M : Int)) = true := by simpa using hlen
          have hC : Hid (readV a b s = .tuple #[.agg #[.int .u8 0, .int .u32 0, .int .u64 0, .string ⟨#[]⟩], .int .i64 53]) := by
            show _ = _
            have hm := HM.out
            have hsa := Hsa.out
            have hcc := HC.out
            have hlen2 : a - 32 < (rdL s : Int) := by unfold rdL; rw [HMM.out]; exact hlen
            simp [readV, readC, hm, hsa, hcc, hlen2]
          clear hlen
          go_wp2_with fail
          refine wpDone (fun W4 e4 => ?_)
          obtain ⟨z0, z1, z2, z3, hB⟩ := R13.out.done 0 0 0 ⟨#[]⟩ e4
          exact bodyPost_ret (v := .tuple #[.agg #[.int .u8 0, .int .u32 0, .int .u64 0, .string ⟨#[]⟩], .int .i64 53]) (by simp [results, Try.results20, go_sem, z0, z1, z2, z3]) rfl ⟨by rw [hC.out], hB⟩
        · have d1 : decide (a - 32 < (M : Int)) = false := by simpa using hlen
          have hlen3 : 32 + M ≤ s.size := by have := Hsa.out; omega
          have m1 : (32 : Int) + (M : Int) ≤ (s.size : Int) := by omega
          have m2 : (32 : Int) ≤ 32 + (M : Int) := by omega
          have m3 : ((32 : Int) + (M : Int)).toNat = 32 + M := by omega
          have m4 : 0 ≤ (32 : Int) + (M : Int) := by omega
          go_wp2_with fail
          clear f0 f1 p0 p1 p2 p3 g0 g1 g2 g3 q0 q1 q2 q3 k0 k1 k2 k3
          clear m1 m2 m3 m4
          have R14 := Lib.hid (R13.out.set3 (s.extract 32 (32 + M)))
          clear R13
          have t1 : told (piece s 5 1) < 256 := by have h := told_lt (piece s 5 1); rw [piece_length s 5 1 (by omega)] at h; exact h
          have t2 : told (piece s 8 4) < 4294967296 := by have h := told_lt (piece s 8 4); rw [piece_length s 8 4 (by omega)] at h; exact h
          have t3 : told (piece s 16 8) < 18446744073709551616 := by have h := told_lt (piece s 16 8); rw [piece_length s 16 8 (by omega)] at h; exact h
          have hbs : (s.extract 32 (32 + M)).size ≤ 9223372036854775807 := by rw [ByteArray.size_extract]; omega
          refine (Write_any a b (told (piece s 5 1) : Int) (told (piece s 8 4) : Int) (told (piece s 16 8) : Int) (s.extract 32 (32 + M)) _ ha (by omega) (by omega) (by omega) hbs).mono ?_
          rintro e w14 ⟨rfl, hb14⟩
          have R15 := Lib.hid (R14.out.below hb14 R14.out.size)
          clear hb14 R14 hbs
          have hW : writeS a b (rdK s) (rdN s) (rdR s) (rdB s) = writeS a b (told (piece s 5 1) : Int) (told (piece s 8 4) : Int) (told (piece s 16 8) : Int) (s.extract 32 (32 + M)) := by unfold rdB rdL; rw [HMM.out]; rfl
          have hlen2 : ¬ (a - 32 < (rdL s : Int)) := by unfold rdL; rw [HMM.out]; omega
          have HL2 := Lib.hid hlen2
          clear hlen2
          have hempty : checkI a b (told (piece s 5 1) : Int) (told (piece s 8 4) : Int) (told (piece s 16 8) : Int) (s.extract 32 (32 + M)).size ≠ 0 → writeS a b (told (piece s 5 1) : Int) (told (piece s 8 4) : Int) (told (piece s 16 8) : Int) (s.extract 32 (32 + M)) ≠ s := by
            intro hne he
            rw [writeS, if_neg hne] at he
            rw [← he] at l3
            exact absurd l3 (by decide)
          obtain ⟨c, hc⟩ : ∃ c, checkI a b (told (piece s 5 1) : Int) (told (piece s 8 4) : Int) (told (piece s 16 8) : Int) (s.extract 32 (32 + M)).size = c := ⟨_, rfl⟩
          obtain ⟨t, ht⟩ : ∃ t, writeS a b (told (piece s 5 1) : Int) (told (piece s 8 4) : Int) (told (piece s 16 8) : Int) (s.extract 32 (32 + M)) = t := ⟨_, rfl⟩
          rw [hc, ht] at hempty
          rw [ht] at hW
          rw [hc, ht]
          have HW := Lib.hid hW
          clear hc ht hW
          obtain ⟨hz, f0, f1, p0, p1, p2, p3, g0, g1, g2, g3, q0, q1, q2, q3, k0, k1, k2, k3⟩ := R15.out.cells
          by_cases hts : t = s
          · have hc0 : c = 0 := Decidable.byContradiction fun h => hempty h hts
            subst hc0
            have b2 := beq_str_true hts
            have hC : Hid (readV a b s = .tuple #[.agg #[.int .u8 (told (piece s 5 1) : Int), .int .u32 (told (piece s 8 4) : Int), .int .u64 (told (piece s 16 8) : Int), .string (s.extract 32 (32 + M))], .int .i64 0]) := by
              show _ = _
              have hm := HM.out
              have hsa := Hsa.out
              have hcc := HC.out
              have hl2 := HL2.out
              have hw := HW.out
              rw [hts] at hw
              have hr : readC a b s = 0 := by rw [readC, if_neg (by rw [hm]; simp), if_neg (by simpa using hsa), if_neg (by simpa using hcc), if_neg hl2, if_neg (by simpa using hw)]
              rw [readV, hr, if_pos rfl]
              have hb : rdB s = (s.extract 32 (32 + M)) := by unfold rdB rdL; rw [HMM.out]
              rw [hb]
              rfl
            clear hts hempty
            go_wp2_with fail
            refine wpDone (fun W4 e4 => ?_)
            obtain ⟨z0, z1, z2, z3, hB⟩ := R15.out.done (told (piece s 5 1) : Int) (told (piece s 8 4) : Int) (told (piece s 16 8) : Int) (s.extract 32 (32 + M)) e4
            exact bodyPost_ret (v := .tuple #[.agg #[.int .u8 (told (piece s 5 1) : Int), .int .u32 (told (piece s 8 4) : Int), .int .u64 (told (piece s 16 8) : Int), .string (s.extract 32 (32 + M))], .int .i64 0]) (by simp [results, Try.results20, go_sem, z0, z1, z2, z3]) rfl ⟨by rw [hC.out], hB⟩
          · have b2 := beq_str_false hts
            have hC : Hid (readV a b s = .tuple #[.agg #[.int .u8 0, .int .u32 0, .int .u64 0, .string ⟨#[]⟩], .int .i64 53]) := by
              show _ = _
              have hm := HM.out
              have hsa := Hsa.out
              have hcc := HC.out
              have hl2 := HL2.out
              have hw := HW.out
              have hr : readC a b s = 53 := by rw [readC, if_neg (by rw [hm]; simp), if_neg (by simpa using hsa), if_neg (by simpa using hcc), if_neg hl2, if_pos (by rw [hw]; exact hts)]
              rw [readV, hr]
              rfl
            clear hts hempty
            by_cases hc0 : c = 0
            · have b3 : (c != 0) = false := by rw [hc0]; rfl
              clear hc0
              go_wp2_with fail
              refine wpDone (fun W4 e4 => ?_)
              obtain ⟨z0, z1, z2, z3, hB⟩ := R15.out.done 0 0 0 ⟨#[]⟩ e4
              exact bodyPost_ret (v := .tuple #[.agg #[.int .u8 0, .int .u32 0, .int .u64 0, .string ⟨#[]⟩], .int .i64 53]) (by simp [results, Try.results20, go_sem, z0, z1, z2, z3]) rfl ⟨by rw [hC.out], hB⟩
            · have b3 : (c != 0) = true := by rw [bne_iff_ne]; exact hc0
              clear hc0
              go_wp2_with fail
              refine wpDone (fun W4 e4 => ?_)
              obtain ⟨z0, z1, z2, z3, hB⟩ := R15.out.done 0 0 0 ⟨#[]⟩ e4
              exact bodyPost_ret (v := .tuple #[.agg #[.int .u8 0, .int .u32 0, .int .u64 0, .string ⟨#[]⟩], .int .i64 53]) (by simp [results, Try.results20, go_sem, z0, z1, z2, z3]) rfl ⟨by rw [hC.out], hB⟩
      · have b1 := beq_str_false hcmp
        have hC : Hid (readV a b s = .tuple #[.agg #[.int .u8 0, .int .u32 0, .int .u64 0, .string ⟨#[]⟩], .int .i64 52]) := by
          show _ = _
          have hm := HM.out
          have hsa := Hsa.out
          rw [← hsum] at hcmp
          simp [readV, readC, hm, hsa, hcmp]
        clear hsum hcmp
        refine wp_region_held_drew (S := fun W => RS w W a b 0 0 0 ⟨#[]⟩) (by kernel_rfl) R1.out.drew (fun hHeld => ?_)
        refine' wpAnyH_take (i := 0) (oi := { dst := Option.some 21, op := Op.move (Operand.tmp 1), type := 9, pos := "page.go:87", after := #[], guard := Option.none }) rfl (by kernel_rfl) (by kernel_rfl) (by kernel_rfl) (fun _ _ _ h => h) (Or.inl ⟨by rfl, _⟩) (by assumption) _
        rotate_left
        · (intro wS hSw; (try dsimp only at hSw); go_simp; try with_reducible rfl)
        try simp only [Act.put, List.setIfInBounds_toArray, List.set_cons_zero, List.set_cons_succ]
        refine' wpAnyH_take (i := 1) (oi := { dst := Option.some 22, op := Op.slice 9 (Operand.tmp 21) Option.none (Option.some (Operand.const (Value.int IntKind.i64 28))) Option.none, type := 9, pos := "page.go:87", after := #[{ on := 0, ground := Ground.data }], guard := Option.none }) rfl (by kernel_rfl) (by kernel_rfl) (by kernel_rfl) (fun _ _ _ h => h) (Or.inl ⟨by rfl, _⟩) (by assumption) _
        rotate_left
        · (intro wS hSw; (try dsimp only at hSw); go_simp; try with_reducible rfl)
        try simp only [Act.put, List.setIfInBounds_toArray, List.set_cons_zero, List.set_cons_succ]
        refine' wpAnyH_take (i := 2) (oi := { dst := Option.some 23, op := Op.move (Operand.tmp 1), type := 9, pos := "page.go:87", after := #[], guard := Option.none }) rfl (by kernel_rfl) (by kernel_rfl) (by kernel_rfl) (fun _ _ _ h => h) (Or.inl ⟨by rfl, _⟩) (by assumption) _
        rotate_left
        · (intro wS hSw; (try dsimp only at hSw); go_simp; try with_reducible rfl)
        try simp only [Act.put, List.setIfInBounds_toArray, List.set_cons_zero, List.set_cons_succ]
        refine' wpAnyH_take (i := 3) (oi := { dst := Option.some 24, op := Op.slice 9 (Operand.tmp 23) (Option.some (Operand.const (Value.int IntKind.i64 32))) Option.none Option.none, type := 9, pos := "page.go:87", after := #[{ on := 2, ground := Ground.data }], guard := Option.none }) rfl (by kernel_rfl) (by kernel_rfl) (by kernel_rfl) (fun _ _ _ h => h) (Or.inl ⟨by rfl, _⟩) (by assumption) _
        rotate_left
        · (intro wS hSw; (try dsimp only at hSw); go_simp; try with_reducible rfl)
        try simp only [Act.put, List.setIfInBounds_toArray, List.set_cons_zero, List.set_cons_succ]
        refine' wpAnyH_take (i := 7) (oi := { dst := Option.some 28, op := Op.move (Operand.tmp 1), type := 9, pos := "page.go:87", after := #[], guard := Option.none }) rfl (by kernel_rfl) (by kernel_rfl) (by kernel_rfl) (fun _ _ _ h => h) (Or.inl ⟨by rfl, _⟩) (by assumption) _
        rotate_left
        · (intro wS hSw; (try dsimp only at hSw); go_simp; try with_reducible rfl)
        try simp only [Act.put, List.setIfInBounds_toArray, List.set_cons_zero, List.set_cons_succ]
        refine' wpAnyH_take (i := 8) (oi := { dst := Option.some 29, op := Op.slice 9 (Operand.tmp 28) (Option.some (Operand.const (Value.int IntKind.i64 28))) (Option.some (Operand.const (Value.int IntKind.i64 32))) Option.none, type := 9, pos := "page.go:87", after := #[{ on := 7, ground := Ground.data }], guard := Option.none }) rfl (by kernel_rfl) (by kernel_rfl) (by kernel_rfl) (fun _ _ _ h => h) (Or.inl ⟨by rfl, _⟩) (by assumption) _
        rotate_left
        · (intro wS hSw; (try dsimp only at hSw); go_simp; try with_reducible rfl)
        try simp only [Act.put, List.setIfInBounds_toArray, List.set_cons_zero, List.set_cons_succ]
        refine wpAnyH_ready (rs := [4]) (by kernel_rfl) (by simp) ?_
        refine AllReadyH.cons (o := { dst := Option.some 25, op := Op.buildSlice 123 2 #[(0, Operand.tmp 22), (1, Operand.tmp 24)], type := 123, pos := "page.go:87", after := #[{ on := 1, ground := Ground.data }, { on := 3, ground := Ground.data }], guard := Option.none }) rfl (fun K hK => ?_) AllReadyH.nil
        go_simp
        refine hK.out _ _ ?_ (fun hHeld => ?_)
        · exact hHeld.alloc _
        clear hK K
        try simp only [Act.put, List.setIfInBounds_toArray, List.set_cons_zero, List.set_cons_succ]
        refine wpAnyH_ready (rs := [5]) (by kernel_rfl) (by simp) ?_
        refine AllReadyH.cons (o := { dst := Option.some 26, op := Op.call { callee := Callee.value (Operand.func 40), args := #[Operand.tmp 25], argTypes := #[123] }, type := 25, pos := "page.go:87", after := #[{ on := 4, ground := Ground.data }], guard := Option.none }) rfl (fun K hK => ?_) AllReadyH.nil
        go_simp
        (go_at_call 40; refine (crc_any _ [s.extract 0 28, s.extract 32 s.size] _ (StrRow.two w1 _ _ _ _ rfl).drew (by simp) (by intro x hx; simp at hx; rcases hx with rfl | rfl <;> rw [ByteArray.size_extract] <;> omega)).mono ?_; rintro e w12 ⟨rfl, rfl⟩)
        refine hK.out _ _ ?_ (fun hHeld => ?_)
        · exact hHeld
        clear hK K
        try simp only [Act.put, List.setIfInBounds_toArray, List.set_cons_zero, List.set_cons_succ]
        rw [crcParts_two, HX.out]
        refine wpAnyH_ready (rs := [6]) (by kernel_rfl) (by simp) ?_
        refine AllReadyH.cons (o := { dst := Option.some 27, op := Op.call { callee := Callee.value (Operand.func 39), args := #[Operand.tmp 26], argTypes := #[25] }, type := 9, pos := "page.go:87", after := #[{ on := 5, ground := Ground.data }, { on := 5, ground := Ground.chain }], guard := Option.none }) rfl (fun K hK => ?_) AllReadyH.nil
        go_simp
        (go_at_call 39; refine (four_any _ _ (toU_bd _)).mono ?_; rintro e w12 ⟨rfl, hb12⟩)
        refine hK.out _ _ ?_ (fun hHeld => ?_)
        · exact hHeld.below hb12 (by have := hHeld.size; omega)
        clear hK K
        try simp only [Act.put, List.setIfInBounds_toArray, List.set_cons_zero, List.set_cons_succ]
        refine' wpAnyH_take (i := 9) (oi := { dst := Option.some 30, op := Op.binOp BinOp.neq 9 (Operand.tmp 27) (Operand.tmp 29) 9, type := 4, pos := "page.go:87", after := #[{ on := 6, ground := Ground.data }, { on := 8, ground := Ground.data }], guard := Option.none }) rfl (by kernel_rfl) (by kernel_rfl) (by kernel_rfl) (fun _ _ _ h => h) (Or.inl ⟨by rfl, _⟩) (by assumption) _
        rotate_left
        · (intro wS hSw; (try dsimp only at hSw); go_simp; try with_reducible rfl)
        try simp only [Act.put, List.setIfInBounds_toArray, List.set_cons_zero, List.set_cons_succ]
        refine wpAnyH_done (by kernel_rfl) ?_ _
        have R2 := Lib.hid hHeld
        clear hHeld b1
        obtain ⟨hz, f0, f1, p0, p1, p2, p3, g0, g1, g2, g3, q0, q1, q2, q3, k0, k1, k2, k3⟩ := R2.out.cells
        go_wp2_with fail
        refine wpDone (fun W4 e4 => ?_)
        obtain ⟨z0, z1, z2, z3, hB⟩ := R2.out.done 0 0 0 ⟨#[]⟩ e4
        exact bodyPost_ret (v := .tuple #[.agg #[.int .u8 0, .int .u32 0, .int .u64 0, .string ⟨#[]⟩], .int .i64 52]) (by simp [results, Try.results20, go_sem, z0, z1, z2, z3]) rfl ⟨by rw [hC.out], hB⟩
    · have e1 : ((s.size : Int) != a) = true := by rw [bne_iff_ne]; exact hsa
      have hC : Hid (readV a b s = .tuple #[.agg #[.int .u8 0, .int .u32 0, .int .u64 0, .string ⟨#[]⟩], .int .i64 51]) := by
        show _ = _; have hm := HM.out; simp [readV, readC, hm, hsa]
      clear hsa
      go_wp2_with fail
      refine wpDone (fun W4 e4 => ?_)
      obtain ⟨z0, z1, z2, z3, hB⟩ := R1.out.done 0 0 0 ⟨#[]⟩ e4
      exact bodyPost_ret (v := .tuple #[.agg #[.int .u8 0, .int .u32 0, .int .u64 0, .string ⟨#[]⟩], .int .i64 51]) (by simp [results, Try.results20, go_sem, z0, z1, z2, z3]) rfl ⟨by rw [hC.out], hB⟩
end Go.Proofs.Ytfhfeaipdmcekaa
