/-
  The walks of the reference's told and Read.
-/
import Derived.Test.YtfhfeaipdmcekaaPageL4
import Derived.Deep.RegionWith
import Derived.Deep.DeepCutAuto
namespace Go.Proofs.Ytfhfeaipdmcekaa
open Go.RowKit Hw
set_option linter.unusedVariables false
attribute [local go_sem] bstr_size be_length

set_option maxHeartbeats 1000000 in
theorem told_any (s : ByteArray) (w : World) (hs : s.size ≤ 8) :
    Calls Try.prog 57 #[.string s] w fun e w' => e = .returned (.int .u64 (told s.data.toList : Int)) ∧ w = w' := by
  go_enter Try.func57, Try.ntmps57
  go_wp2
  go_loop [3, 4] (fun x i => ∃ (k : Nat) (X : Int), k ≤ s.size ∧ Hid (X = (told (s.data.toList.take k) : Int)) ∧ x = .int .u64 X ∧ i = .int .i64 k) (fun _ i => s.size - (intOf i).toNat)
  case atStart => exact ⟨0, 0, Nat.zero_le _, by simp [Hid, told], rfl, rfl⟩
  case round =>
    obtain ⟨k, X, hk, HX, rfl, rfl⟩ := hrel
    have hl : s.data.toList.length = s.size := by rw [Array.length_toList]; rfl
    by_cases hlt : k < s.size
    · have hX : 0 ≤ X ∧ X < 72057594037927936 := by
        have h1 := told_lt (s.data.toList.take k)
        rw [List.length_take, hl] at h1
        have h2 : 256 ^ (min k s.size) ≤ 256 ^ 7 := Nat.pow_le_pow_right (by decide) (by omega)
        have h3 : (256 : Nat) ^ 7 = 72057594037927936 := by decide
        have := HX.out
        omega
      obtain ⟨b, hb⟩ : ∃ b : UInt8, s[k] = b := ⟨_, rfl⟩
      have hb2 : b.toNat < 256 := b.toNat_lt
      have HY : Hid (X * 256 + (b.toNat : Int) = (told (s.data.toList.take (k + 1)) : Int)) := by
        show _ = _
        rw [take_snoc s k hlt, told_snoc, HX.out, hb]; omega
      have i7 := or_byte X b hX
      clear hl
      go_wp2
      go_round
      case rel => exact ⟨k + 1, _, by omega, HY.out, rfl, by go_num⟩
      case measure => simp [intOf]; omega
    · go_wp2
      go_ret
      exact ⟨by rw [HX.out, List.take_of_length_le (by rw [hl]; omega)]; rfl, rfl⟩

/-- told of a piece of a string -/
theorem told_extract (s : ByteArray) (i j : Nat) (hij : i ≤ j) (hj : j ≤ s.size) : told (s.extract i j).data.toList = told (piece s i (j - i)) := by
  have hl : s.data.toList.length = s.size := by rw [Array.length_toList]; rfl
  congr 1
  unfold piece
  rw [ByteArray.data_extract, Array.toList_extract, List.extract_eq_take_drop]


/-- what the reference's Read works on: its frame, its result -/
structure RF (w W : World) (a b : Int) : Prop where
  f : W.heap[w.heap.size]? = some (.cells #[.int .i64 a, .int .i64 b] 23 (0, 0))
  res : W.heap[w.heap.size + 1]? = some (.cells #[.int .u8 0, .int .u32 0, .int .u64 0, .string ⟨#[]⟩] 28 (0, 0))
  bel : Below w.heap.size w W
section
variable {w W W' : World} {a b : Int}
theorem RF.size (h : RF w W a b) : w.heap.size + 1 < W.heap.size := heap_lt h.res
theorem RF.alloc (h : RF w W a b) (o : Obj) : RF w (W.alloc o) a b := ⟨heap_alloc h.f, heap_alloc h.res, h.bel.alloc (by have := h.size; omega) _⟩
theorem RF.drew (h : RF w W a b) : RF w W.drew a b := ⟨h.f, h.res, h.bel.drew⟩
theorem RF.call (h : RF w W a b) (hb : Below W.heap.size W W') : RF w W' a b := ⟨heap_below h.f hb (by have := h.size; omega), heap_below h.res hb h.size, h.bel.trans (hb.mono (by have := h.size; omega))⟩
theorem RF.below {B : Nat} (h : RF w W a b) (hb : Below B W W') (hB : w.heap.size + 1 < B) : RF w W' a b := ⟨heap_below h.f hb (by omega), heap_below h.res hb hB, h.bel.trans (hb.mono (by omega))⟩
theorem RF.cells (h : RF w W a b) : w.heap.size < W.heap.size ∧ w.heap.size + 1 < W.heap.size ∧ W.cell? ⟨w.heap.size, 0, none⟩ = some (.int .i64 a) ∧ W.cell? ⟨w.heap.size, 1, none⟩ = some (.int .i64 b) ∧
    W.cell? ⟨w.heap.size + 1, 0, none⟩ = some (.int .u8 0) ∧ W.cell? ⟨w.heap.size + 1, 1, none⟩ = some (.int .u32 0) ∧ W.cell? ⟨w.heap.size + 1, 2, none⟩ = some (.int .u64 0) ∧ W.cell? ⟨w.heap.size + 1, 3, none⟩ = some (.string ⟨#[]⟩) ∧
    W.frozen? ⟨w.heap.size + 1, 0, none⟩ = false ∧ W.frozen? ⟨w.heap.size + 1, 1, none⟩ = false ∧ W.frozen? ⟨w.heap.size + 1, 2, none⟩ = false ∧ W.frozen? ⟨w.heap.size + 1, 3, none⟩ = false :=
  ⟨by have := h.size; omega, h.size, by rw [heap_cell h.f]; rfl, by rw [heap_cell h.f]; rfl, (blk4 h.res).1, (blk4 h.res).2.1, (blk4 h.res).2.2.1, (blk4 h.res).2.2.2.1, heap_free h.res 0, heap_free h.res 1, heap_free h.res 2, heap_free h.res 3⟩
end
theorem RF.start (w : World) (a b : Int) : RF w ((w.alloc (.cells #[.int .i64 a, .int .i64 b] 23)).alloc (.cells #[.int .u8 0, .int .u32 0, .int .u64 0, .string ⟨#[]⟩] 28)) a b := by
  refine ⟨heap_alloc (heap_new _ _), ?_, ((Below.refl _ _).alloc (Nat.le_refl _) _).alloc (by simp) _⟩
  have := heap_new (w.alloc (.cells #[.int .i64 a, .int .i64 b] 23)) (.cells #[.int .u8 0, .int .u32 0, .int .u64 0, .string ⟨#[]⟩] 28)
  simpa only [World.size_alloc] using this

theorem told_inj {x y : List UInt8} (hl : x.length = y.length) (h : told x = told y) : x = y := by
  rw [← be_told x, ← be_told y, hl, h]
/-- the two ways to compare the sum -/
theorem sum_cmp (s : ByteArray) (h : 32 ≤ s.size) (X : BitVec 32) : (told (s.extract 28 32).data.toList = X.toNat) ↔ bstr (be 4 X.toNat) = s.extract 28 32 := by
  have hl : (s.extract 28 32).data.toList.length = 4 := by
    have : (s.extract 28 32).size = 4 := by rw [ByteArray.size_extract]; omega
    rw [Array.length_toList]; exact this
  have hX := X.isLt
  constructor
  · intro e
    have h2 := be_told (s.extract 28 32).data.toList
    rw [hl, e] at h2
    rw [h2, bstr_self]
  · intro e
    rw [← e, bstr_list, told_be' _ _ (by omega)]

set_option maxHeartbeats 4000000 in
theorem refRead_any (a b : Int) (s : ByteArray) (w : World) (ha : -9223372036854775808 ≤ a ∧ a ≤ 9223372036854775807) (hs : s.size ≤ 9223372036854775807) :
    Calls Try.prog 25 #[.agg #[.int .i64 a, .int .i64 b], .string s] w fun e w' => e = .returned (readV a b s) ∧ Below w.heap.size w w' := by
  have R0 := Lib.hid (RF.start w a b)
  go_enter Try.func25, Try.ntmps25
  go_wp2_with fail
  refine (refMay_any _ _ _).mono ?_
  rintro e w1 ⟨rfl, hb1⟩
  have R1 := Lib.hid (R0.out.below hb1 (by simp only [World.size_alloc]; omega))
  clear hb1 R0
  obtain ⟨hy, hz, f0, f1, q0, q1, q2, q3, k0, k1, k2, k3⟩ := R1.out.cells
  cases hm : mayB a b
  · have hC : Hid (readV a b s = .tuple #[.agg #[.int .u8 0, .int .u32 0, .int .u64 0, .string ⟨#[]⟩], .int .i64 2]) := by
      show _ = _; simp [readV, readC, hm]
    clear hm
    go_wp2_with fail
    refine wpDone (fun W4 e4 => ?_)
    obtain ⟨h4, hB4⟩ := blk4_set R1.out.res e4
    obtain ⟨z0, z1, z2, z3, _⟩ := blk4 h4
    exact bodyPost_ret (v := .tuple #[.agg #[.int .u8 0, .int .u32 0, .int .u64 0, .string ⟨#[]⟩], .int .i64 2]) (by simp [results, Try.results25, go_sem, z0, z1, z2, z3]) rfl ⟨by rw [hC.out], R1.out.bel.trans (hB4 _ (by omega))⟩
  · have hp := mayB_page hm
    have hp1 : 1024 ≤ a ∧ a ≤ 8192 := by omega
    have HM := Lib.hid hm
    clear hm hp
    by_cases hsa : (s.size : Int) = a
    · have e1 : ((s.size : Int) != a) = false := by rw [hsa]; simp
      have l1 : (28 : Int) ≤ (s.size : Int) := by omega
      have l2 : (32 : Int) ≤ (s.size : Int) := by omega
      have l3 : 28 ≤ s.size := by omega
      have l4 : 32 ≤ s.size := by omega
      have l5 : s.size ≤ 8192 := by omega
      have Hsa := Lib.hid hsa
      clear hsa
      go_wp2_with fail
      clear f0 f1 q0 q1 q2 q3 k0 k1 k2 k3
      obtain ⟨x, hx⟩ : ∃ x, s.extract 0 28 ++ s.extract 32 s.size = x := ⟨_, rfl⟩
      obtain ⟨X, hX⟩ : ∃ X, crcOf x.data.toList = X := ⟨_, rfl⟩
      have hxs : x.size ≤ 9223372036854775807 := by rw [← hx, ByteArray.size_append, ByteArray.size_extract, ByteArray.size_extract]; omega
      have hcm := sum_cmp s l4 X
      have hsum : sumOf s = be 4 X.toNat := by rw [sumOf, ← hX, ← hx, ByteArray.data_append, Array.toList_append]
      have bX := toU_bd X
      have w1X : IntKind.u64.wrap (toU X) = toU X := IntWalk.u64_in _ (by omega)
      have n1 : ¬ (9223372036854775807 < 28 + (s.size - 32)) := by omega
      have hx4 : (s.extract 28 32).size ≤ 8 := by rw [ByteArray.size_extract]; omega
      have HX := Lib.hid hX
      obtain ⟨y, hy⟩ : ∃ y, told (s.extract 28 32).data.toList = y := ⟨_, rfl⟩
      rw [hy] at hcm
      have HY := Lib.hid hy
      have Hx := Lib.hid hx
      clear hX hx hy
      by_cases hcmp : bstr (be 4 X.toNat) = s.extract 28 32
      · have c1 : ((y : Int) != toU X) = false := by
          have h := hcm.2 hcmp
          rw [h]; unfold toU; simp
        have HC : Hid (bstr (sumOf s) = s.extract 28 32) := Lib.hid (by rw [hsum]; exact hcmp)
        clear hcm hcmp hsum
        refine wp_region_held_drew (S := fun W => RF w W a b) (by kernel_rfl) R1.out.drew (fun hHeld => ?_)
        refine' wpAnyH_take (i := 0) (oi := { dst := Option.some 20, op := Op.move (Operand.tmp 1), type := 9, pos := "ref.go:76", after := #[], guard := Option.none }) rfl (by kernel_rfl) (by kernel_rfl) (by kernel_rfl) (fun _ _ _ h => h) (Or.inl ⟨by rfl, _⟩) (by assumption) _
        rotate_left
        · (intro wS hSw; (try dsimp only at hSw); go_simp; try with_reducible rfl)
        try simp only [Act.put, List.setIfInBounds_toArray, List.set_cons_zero, List.set_cons_succ]
        refine' wpAnyH_take (i := 1) (oi := { dst := Option.some 21, op := Op.slice 9 (Operand.tmp 20) (Option.some (Operand.const (Value.int IntKind.i64 28))) (Option.some (Operand.const (Value.int IntKind.i64 32))) Option.none, type := 9, pos := "ref.go:76", after := #[{ on := 0, ground := Ground.data }], guard := Option.none }) rfl (by kernel_rfl) (by kernel_rfl) (by kernel_rfl) (fun _ _ _ h => h) (Or.inl ⟨by rfl, _⟩) (by assumption) _
        rotate_left
        · (intro wS hSw; (try dsimp only at hSw); go_simp; try with_reducible rfl)
        try simp only [Act.put, List.setIfInBounds_toArray, List.set_cons_zero, List.set_cons_succ]
        refine' wpAnyH_take (i := 3) (oi := { dst := Option.some 23, op := Op.move (Operand.tmp 1), type := 9, pos := "ref.go:76", after := #[], guard := Option.none }) rfl (by kernel_rfl) (by kernel_rfl) (by kernel_rfl) (fun _ _ _ h => h) (Or.inl ⟨by rfl, _⟩) (by assumption) _
        rotate_left
        · (intro wS hSw; (try dsimp only at hSw); go_simp; try with_reducible rfl)
        try simp only [Act.put, List.setIfInBounds_toArray, List.set_cons_zero, List.set_cons_succ]
        refine' wpAnyH_take (i := 4) (oi := { dst := Option.some 24, op := Op.slice 9 (Operand.tmp 23) Option.none (Option.some (Operand.const (Value.int IntKind.i64 28))) Option.none, type := 9, pos := "ref.go:76", after := #[{ on := 3, ground := Ground.data }], guard := Option.none }) rfl (by kernel_rfl) (by kernel_rfl) (by kernel_rfl) (fun _ _ _ h => h) (Or.inl ⟨by rfl, _⟩) (by assumption) _
        rotate_left
        · (intro wS hSw; (try dsimp only at hSw); go_simp; try with_reducible rfl)
        try simp only [Act.put, List.setIfInBounds_toArray, List.set_cons_zero, List.set_cons_succ]
        refine' wpAnyH_take (i := 5) (oi := { dst := Option.some 25, op := Op.move (Operand.tmp 1), type := 9, pos := "ref.go:76", after := #[], guard := Option.none }) rfl (by kernel_rfl) (by kernel_rfl) (by kernel_rfl) (fun _ _ _ h => h) (Or.inl ⟨by rfl, _⟩) (by assumption) _
        rotate_left
        · (intro wS hSw; (try dsimp only at hSw); go_simp; try with_reducible rfl)
        try simp only [Act.put, List.setIfInBounds_toArray, List.set_cons_zero, List.set_cons_succ]
        refine' wpAnyH_take (i := 6) (oi := { dst := Option.some 26, op := Op.slice 9 (Operand.tmp 25) (Option.some (Operand.const (Value.int IntKind.i64 32))) Option.none Option.none, type := 9, pos := "ref.go:76", after := #[{ on := 5, ground := Ground.data }], guard := Option.none }) rfl (by kernel_rfl) (by kernel_rfl) (by kernel_rfl) (fun _ _ _ h => h) (Or.inl ⟨by rfl, _⟩) (by assumption) _
        rotate_left
        · (intro wS hSw; (try dsimp only at hSw); go_simp; try with_reducible rfl)
        try simp only [Act.put, List.setIfInBounds_toArray, List.set_cons_zero, List.set_cons_succ]
        refine' wpAnyH_take (i := 7) (oi := { dst := Option.some 27, op := Op.binOp BinOp.add 9 (Operand.tmp 24) (Operand.tmp 26) 9, type := 9, pos := "ref.go:76", after := #[{ on := 4, ground := Ground.data }, { on := 6, ground := Ground.data }], guard := Option.none }) rfl (by kernel_rfl) (by kernel_rfl) (by kernel_rfl) (fun _ _ _ h => h) (Or.inl ⟨by rfl, _⟩) (by assumption) _
        rotate_left
        · (intro wS hSw; (try dsimp only at hSw); go_simp; try with_reducible rfl)
        try simp only [Act.put, List.setIfInBounds_toArray, List.set_cons_zero, List.set_cons_succ]
        refine wpAnyH_ready (rs := [2]) (by kernel_rfl) (by simp) ?_
        refine AllReadyH.cons (o := { dst := Option.some 22, op := Op.call { callee := Callee.value (Operand.func 57), args := #[Operand.tmp 21], argTypes := #[9] }, type := 26, pos := "ref.go:76", after := #[{ on := 1, ground := Ground.data }], guard := Option.none }) rfl (fun K hK => ?_) AllReadyH.nil
        go_simp
        (go_at_call 57; refine (told_any _ _ hx4).mono ?_; rintro e w12 ⟨rfl, rfl⟩)
        refine hK.out _ _ ?_ (fun hHeld => ?_)
        · exact hHeld
        clear hK K
        try simp only [Act.put, List.setIfInBounds_toArray, List.set_cons_zero, List.set_cons_succ]
        rw [HY.out]
        refine wpAnyH_ready (rs := [8]) (by kernel_rfl) (by simp) ?_
        refine AllReadyH.cons (o := { dst := Option.some 28, op := Op.call { callee := Callee.value (Operand.func 56), args := #[Operand.tmp 27], argTypes := #[9] }, type := 25, pos := "ref.go:76", after := #[{ on := 7, ground := Ground.data }, { on := 2, ground := Ground.chain }], guard := Option.none }) rfl (fun K hK => ?_) AllReadyH.nil
        go_simp
        (go_at_call 56; rw [Hx.out]; refine (refCRC_any _ _ hxs).mono ?_; rintro e w13 ⟨rfl, rfl⟩)
        refine hK.out _ _ ?_ (fun hHeld => ?_)
        · exact hHeld
        clear hK K
        try simp only [Act.put, List.setIfInBounds_toArray, List.set_cons_zero, List.set_cons_succ]
        rw [HX.out]
        refine' wpAnyH_take (i := 9) (oi := { dst := Option.some 29, op := Op.convert 25 26 (Operand.tmp 28), type := 26, pos := "ref.go:76", after := #[{ on := 8, ground := Ground.data }], guard := Option.none }) rfl (by kernel_rfl) (by kernel_rfl) (by kernel_rfl) (fun _ _ _ h => h) (Or.inl ⟨by rfl, _⟩) (by assumption) _
        rotate_left
        · (intro wS hSw; (try dsimp only at hSw); go_simp; try with_reducible rfl)
        try simp only [Act.put, List.setIfInBounds_toArray, List.set_cons_zero, List.set_cons_succ]
        refine' wpAnyH_take (i := 10) (oi := { dst := Option.some 30, op := Op.binOp BinOp.neq 26 (Operand.tmp 22) (Operand.tmp 29) 26, type := 4, pos := "ref.go:76", after := #[{ on := 2, ground := Ground.data }, { on := 9, ground := Ground.data }], guard := Option.none }) rfl (by kernel_rfl) (by kernel_rfl) (by kernel_rfl) (fun _ _ _ h => h) (Or.inl ⟨by rfl, _⟩) (by assumption) _
        rotate_left
        · (intro wS hSw; (try dsimp only at hSw); go_simp; try with_reducible rfl)
        try simp only [Act.put, List.setIfInBounds_toArray, List.set_cons_zero, List.set_cons_succ]
        refine wpAnyH_done (by kernel_rfl) ?_ _
        have R2 := Lib.hid hHeld
        clear hHeld
        obtain ⟨hy, hz, f0, f1, q0, q1, q2, q3, k0, k1, k2, k3⟩ := R1.out.cells
        have h7 : (s.extract 6 8).size ≤ 8 := by rw [ByteArray.size_extract]; omega
        have j1 : (6 : Int) ≤ (s.size : Int) := by omega
        have j2 : (8 : Int) ≤ (s.size : Int) := by omega
        have j3 : 8 ≤ s.size := by omega
        go_wp2_with fail
        refine (told_any _ _ h7).mono ?_
        rintro e w14 ⟨rfl, rfl⟩
        obtain ⟨M, hM⟩ : ∃ M, told (piece s 6 2) = M := ⟨_, rfl⟩
        have hM2 : M < 65536 := by have h := told_lt (piece s 6 2); rw [piece_length s 6 2 (by omega), hM] at h; exact h
        rw [told_extract s 6 8 (by omega) (by omega), hM]
        have HMM := Lib.hid hM
        clear hM
        by_cases hlen : a - 32 < (M : Int)
        · have d1 : decide (a - 32 < (M : Int)) = true := by simpa using hlen
          have hC : Hid (readV a b s = .tuple #[.agg #[.int .u8 0, .int .u32 0, .int .u64 0, .string ⟨#[]⟩], .int .i64 53]) := by
            show _ = _
            have hm := HM.out
            have hsa := Hsa.out
            have hcc := HC.out
            have hlen2 : a - 32 < (rdL s : Int) := by unfold rdL; rw [HMM.out]; exact hlen
            simp [readV, readC, hm, hsa, hcc, hlen2]
          clear hlen
          go_wp2_with fail
          refine wpDone (fun W4 e4 => ?_)
          obtain ⟨h4, hB4⟩ := blk4_set R2.out.res e4
          obtain ⟨z0, z1, z2, z3, _⟩ := blk4 h4
          exact bodyPost_ret (v := .tuple #[.agg #[.int .u8 0, .int .u32 0, .int .u64 0, .string ⟨#[]⟩], .int .i64 53]) (by simp [results, Try.results25, go_sem, z0, z1, z2, z3]) rfl ⟨by rw [hC.out], R2.out.bel.trans (hB4 _ (by omega))⟩
        · have d1 : decide (a - 32 < (M : Int)) = false := by simpa using hlen
          have hlen3 : 32 + M ≤ s.size := by have := Hsa.out; omega
          have m1 : (32 : Int) + (M : Int) ≤ (s.size : Int) := by omega
          have m2 : (32 : Int) ≤ 32 + (M : Int) := by omega
          have m3 : ((32 : Int) + (M : Int)).toNat = 32 + M := by omega
          have m4 : 0 ≤ (32 : Int) + (M : Int) := by omega
          have j4 : 5 < s.size := by omega
          have j9 : (5 : Int) < (s.size : Int) := by omega
          have m5 : IntKind.i64.wrap (32 + (M : Int)) = 32 + (M : Int) := IntWalk.i64_in _ (by omega)
          have j5 : (8 : Int) ≤ (s.size : Int) := by omega
          have j6 : (12 : Int) ≤ (s.size : Int) := by omega
          have j7 : (16 : Int) ≤ (s.size : Int) := by omega
          have j8 : (24 : Int) ≤ (s.size : Int) := by omega
          have y1 : (s.extract 8 12).size ≤ 8 := by rw [ByteArray.size_extract]; omega
          have y2 : (s.extract 16 24).size ≤ 8 := by rw [ByteArray.size_extract]; omega
          have t1 : told (piece s 5 1) < 256 := by have h := told_lt (piece s 5 1); rw [piece_length s 5 1 (by omega)] at h; exact h
          have t2 : told (piece s 8 4) < 4294967296 := by have h := told_lt (piece s 8 4); rw [piece_length s 8 4 (by omega)] at h; exact h
          have t3 : told (piece s 16 8) < 18446744073709551616 := by have h := told_lt (piece s 16 8); rw [piece_length s 16 8 (by omega)] at h; exact h
          have y3 : told (s.extract 8 12).data.toList = told (piece s 8 4) := told_extract s 8 12 (by omega) (by omega)
          have y4 : told (s.extract 16 24).data.toList = told (piece s 16 8) := told_extract s 16 24 (by omega) (by omega)
          obtain ⟨K, hK⟩ : ∃ K, told (piece s 5 1) = K := ⟨_, rfl⟩
          obtain ⟨N, hN⟩ : ∃ N, told (piece s 8 4) = N := ⟨_, rfl⟩
          obtain ⟨V, hV⟩ : ∃ V, told (piece s 16 8) = V := ⟨_, rfl⟩
          have y0 : (s[5]).toNat = K := by
            rw [← hK, show (1 : Nat) = 0 + 1 from rfl, piece_snoc s 5 0 (by omega), told_snoc]
            simp [piece, told, byteAt, j4]
            rfl
          rw [hN] at y3 t2
          rw [hV] at y4 t3
          rw [hK] at t1
          have HK := Lib.hid hK
          have HN := Lib.hid hN
          have HV := Lib.hid hV
          have y5 : IntKind.u32.wrap (N : Int) = N := IntWalk.u32_in _ (by omega)
          clear hK hN hV
          obtain ⟨x8, hx8⟩ : ∃ x, s.extract 8 12 = x := ⟨_, rfl⟩
          obtain ⟨x16, hx16⟩ : ∃ x, s.extract 16 24 = x := ⟨_, rfl⟩
          rw [hx8] at y3 y1
          rw [hx16] at y4 y2
          go_upto_region 10 with fail
          go_cut [7] (fun s7 wx => s7 = .pointer (some ⟨w1.heap.size, 0, none⟩) ∧ wx = (w1.drew.alloc (.cells #[.int .u8 K, .int .u32 N, .int .u64 V, .string (s.extract 32 (32 + M))] 28)).drew)
          case first =>
            refine wp_region_held_drew (S := fun _ => True) (by kernel_rfl) trivial (fun hHeld => ?_)
            refine' wpAnyH_take (i := 0) (oi := { dst := Option.some 42, op := Op.move (Operand.tmp 1), type := 9, pos := "ref.go:83", after := #[], guard := Option.none }) rfl (by kernel_rfl) (by kernel_rfl) (by kernel_rfl) (fun _ _ _ h => h) (Or.inl ⟨by rfl, _⟩) (by assumption) _
            rotate_left
            · (intro wS hSw; (try dsimp only at hSw); go_simp; try with_reducible rfl)
            try simp only [Act.put, List.setIfInBounds_toArray, List.set_cons_zero, List.set_cons_succ]
            refine' wpAnyH_take (i := 1) (oi := { dst := Option.some 43, op := Op.index 9 (Operand.tmp 42) (Operand.const (Value.int IntKind.i64 5)), type := 5, pos := "ref.go:83", after := #[{ on := 0, ground := Ground.data }], guard := Option.none }) rfl (by kernel_rfl) (by kernel_rfl) (by kernel_rfl) (fun _ _ _ h => h) (Or.inl ⟨by rfl, _⟩) (by assumption) _
            rotate_left
            · (intro wS hSw; (try dsimp only at hSw); go_simp; try with_reducible rfl)
            try simp only [Act.put, List.setIfInBounds_toArray, List.set_cons_zero, List.set_cons_succ]
            refine' wpAnyH_take (i := 2) (oi := { dst := Option.some 44, op := Op.move (Operand.tmp 1), type := 9, pos := "ref.go:83", after := #[], guard := Option.none }) rfl (by kernel_rfl) (by kernel_rfl) (by kernel_rfl) (fun _ _ _ h => h) (Or.inl ⟨by rfl, _⟩) (by assumption) _
            rotate_left
            · (intro wS hSw; (try dsimp only at hSw); go_simp; try with_reducible rfl)
            try simp only [Act.put, List.setIfInBounds_toArray, List.set_cons_zero, List.set_cons_succ]
            refine' wpAnyH_take (i := 3) (oi := { dst := Option.some 45, op := Op.slice 9 (Operand.tmp 44) (Option.some (Operand.const (Value.int IntKind.i64 8))) (Option.some (Operand.const (Value.int IntKind.i64 12))) Option.none, type := 9, pos := "ref.go:83", after := #[{ on := 2, ground := Ground.data }], guard := Option.none }) rfl (by kernel_rfl) (by kernel_rfl) (by kernel_rfl) (fun _ _ _ h => h) (Or.inl ⟨by rfl, _⟩) (by assumption) _
            rotate_left
            · (intro wS hSw; (try dsimp only at hSw); go_simp; try with_reducible rfl)
            try simp only [Act.put, List.setIfInBounds_toArray, List.set_cons_zero, List.set_cons_succ]
            refine' wpAnyH_take (i := 6) (oi := { dst := Option.some 48, op := Op.move (Operand.tmp 1), type := 9, pos := "ref.go:83", after := #[], guard := Option.none }) rfl (by kernel_rfl) (by kernel_rfl) (by kernel_rfl) (fun _ _ _ h => h) (Or.inl ⟨by rfl, _⟩) (by assumption) _
            rotate_left
            · (intro wS hSw; (try dsimp only at hSw); go_simp; try with_reducible rfl)
            try simp only [Act.put, List.setIfInBounds_toArray, List.set_cons_zero, List.set_cons_succ]
            refine' wpAnyH_take (i := 7) (oi := { dst := Option.some 49, op := Op.slice 9 (Operand.tmp 48) (Option.some (Operand.const (Value.int IntKind.i64 16))) (Option.some (Operand.const (Value.int IntKind.i64 24))) Option.none, type := 9, pos := "ref.go:83", after := #[{ on := 6, ground := Ground.data }], guard := Option.none }) rfl (by kernel_rfl) (by kernel_rfl) (by kernel_rfl) (fun _ _ _ h => h) (Or.inl ⟨by rfl, _⟩) (by assumption) _
            rotate_left
            · (intro wS hSw; (try dsimp only at hSw); go_simp; try with_reducible rfl)
            try simp only [Act.put, List.setIfInBounds_toArray, List.set_cons_zero, List.set_cons_succ]
            refine' wpAnyH_take (i := 9) (oi := { dst := Option.some 51, op := Op.move (Operand.tmp 1), type := 9, pos := "ref.go:83", after := #[], guard := Option.none }) rfl (by kernel_rfl) (by kernel_rfl) (by kernel_rfl) (fun _ _ _ h => h) (Or.inl ⟨by rfl, _⟩) (by assumption) _
            rotate_left
            · (intro wS hSw; (try dsimp only at hSw); go_simp; try with_reducible rfl)
            try simp only [Act.put, List.setIfInBounds_toArray, List.set_cons_zero, List.set_cons_succ]
            refine' wpAnyH_take (i := 10) (oi := { dst := Option.some 52, op := Op.move (Operand.tmp 6), type := 3, pos := "ref.go:83", after := #[], guard := Option.none }) rfl (by kernel_rfl) (by kernel_rfl) (by kernel_rfl) (fun _ _ _ h => h) (Or.inl ⟨by rfl, _⟩) (by assumption) _
            rotate_left
            · (intro wS hSw; (try dsimp only at hSw); go_simp; try with_reducible rfl)
            try simp only [Act.put, List.setIfInBounds_toArray, List.set_cons_zero, List.set_cons_succ]
            refine' wpAnyH_take (i := 11) (oi := { dst := Option.some 53, op := Op.binOp BinOp.add 3 (Operand.const (Value.int IntKind.i64 32)) (Operand.tmp 52) 3, type := 3, pos := "ref.go:83", after := #[{ on := 10, ground := Ground.data }], guard := Option.none }) rfl (by kernel_rfl) (by kernel_rfl) (by kernel_rfl) (fun _ _ _ h => h) (Or.inl ⟨by rfl, _⟩) (by assumption) _
            rotate_left
            · (intro wS hSw; (try dsimp only at hSw); go_simp; try with_reducible rfl)
            try simp only [Act.put, List.setIfInBounds_toArray, List.set_cons_zero, List.set_cons_succ]
            refine' wpAnyH_take (i := 12) (oi := { dst := Option.some 54, op := Op.slice 9 (Operand.tmp 51) (Option.some (Operand.const (Value.int IntKind.i64 32))) (Option.some (Operand.tmp 53)) Option.none, type := 9, pos := "ref.go:83", after := #[{ on := 9, ground := Ground.data }, { on := 11, ground := Ground.data }], guard := Option.none }) rfl (by kernel_rfl) (by kernel_rfl) (by kernel_rfl) (fun _ _ _ h => h) (Or.inl ⟨by rfl, _⟩) (by assumption) _
            rotate_left
            · (intro wS hSw; (try dsimp only at hSw); go_simp; try with_reducible rfl)
            try simp only [Act.put, List.setIfInBounds_toArray, List.set_cons_zero, List.set_cons_succ]
            have call4 : ∀ (W : World), Calls Try.prog 57 #[.string x8] W fun e w' => e = .returned (.int .u64 (N : Int)) ∧ W = w' := by intro W; rw [← y3]; exact told_any _ _ y1
            have call8 : ∀ (W : World), Calls Try.prog 57 #[.string x16] W fun e w' => e = .returned (.int .u64 (V : Int)) ∧ W = w' := by intro W; rw [← y4]; exact told_any _ _ y2
            refine wpAnyH_ready (rs := [4, 14]) (by kernel_rfl) (by simp) ?_
            refine AllReadyH.cons (o := { dst := Option.some 46, op := Op.call { callee := Callee.value (Operand.func 57), args := #[Operand.tmp 45], argTypes := #[9] }, type := 26, pos := "ref.go:83", after := #[{ on := 3, ground := Ground.data }], guard := Option.none }) rfl (fun K hK => ?_) (AllReadyH.cons (o := { dst := Option.some 7, op := Op.alloc 28, type := 0, pos := "ref.go:83", after := #[], guard := Option.none }) rfl (fun K hK => ?_) AllReadyH.nil)
            · go_simp
              (go_at_call 57; refine (call4 _).mono ?_; rintro e w' ⟨rfl, rfl⟩)
              refine hK.out _ _ trivial (fun hHeld => ?_)
              clear hK K
              (try simp only [Act.put, List.setIfInBounds_toArray, List.set_cons_zero, List.set_cons_succ])
              refine' wpAnyH_take (i := 5) (oi := { dst := Option.some 47, op := Op.convert 26 25 (Operand.tmp 46), type := 25, pos := "ref.go:83", after := #[{ on := 4, ground := Ground.data }], guard := Option.none }) rfl (by kernel_rfl) (by kernel_rfl) (by kernel_rfl) (fun _ _ _ h => h) (Or.inl ⟨by rfl, _⟩) (by assumption) _
              rotate_left
              · (intro wS hSw; (try dsimp only at hSw); go_simp; try with_reducible rfl)
              try simp only [Act.put, List.setIfInBounds_toArray, List.set_cons_zero, List.set_cons_succ]
              refine wpAnyH_ready (rs := [8, 14]) (by kernel_rfl) (by simp) ?_
              refine AllReadyH.cons (o := { dst := Option.some 50, op := Op.call { callee := Callee.value (Operand.func 57), args := #[Operand.tmp 49], argTypes := #[9] }, type := 26, pos := "ref.go:83", after := #[{ on := 7, ground := Ground.data }, { on := 4, ground := Ground.chain }], guard := Option.none }) rfl (fun K hK => ?_) (AllReadyH.cons (o := { dst := Option.some 7, op := Op.alloc 28, type := 0, pos := "ref.go:83", after := #[], guard := Option.none }) rfl (fun K hK => ?_) AllReadyH.nil)
              · go_simp
                (go_at_call 57; refine (call8 _).mono ?_; rintro e w' ⟨rfl, rfl⟩)
                refine hK.out _ _ trivial (fun hHeld => ?_)
                clear hK K
                (try simp only [Act.put, List.setIfInBounds_toArray, List.set_cons_zero, List.set_cons_succ])
                refine' wpAnyH_take (i := 13) (oi := { dst := Option.some 55, op := Op.build 28 #[(0, Operand.tmp 43), (1, Operand.tmp 47), (2, Operand.tmp 50), (3, Operand.tmp 54)], type := 28, pos := "ref.go:83", after := #[{ on := 1, ground := Ground.data }, { on := 5, ground := Ground.data }, { on := 8, ground := Ground.data }, { on := 12, ground := Ground.data }], guard := Option.none }) rfl (by kernel_rfl) (by kernel_rfl) (by kernel_rfl) (fun _ _ _ h => h) (Or.inl ⟨by rfl, _⟩) (by assumption) _
                rotate_left
                · (intro wS hSw; (try dsimp only at hSw); go_simp; try with_reducible rfl)
                try simp only [Act.put, List.setIfInBounds_toArray, List.set_cons_zero, List.set_cons_succ]
                refine wpAnyH_ready (rs := [14]) (by kernel_rfl) (by simp) ?_
                refine AllReadyH.cons (o := { dst := Option.some 7, op := Op.alloc 28, type := 0, pos := "ref.go:83", after := #[], guard := Option.none }) rfl (fun K hK => ?_) AllReadyH.nil
                go_simp
                refine hK.out _ _ ?_ (fun hHeld => ?_)
                · trivial
                clear hK K
                try simp only [Act.put, List.setIfInBounds_toArray, List.set_cons_zero, List.set_cons_succ]
                refine wpAnyH_ready (rs := [15]) (by kernel_rfl) (by simp) ?_
                refine AllReadyH.cons (o := { dst := Option.none, op := Op.store 28 (Operand.tmp 7) (Operand.tmp 55), type := 0, pos := "ref.go:83", after := #[{ on := 14, ground := Ground.data }, { on := 13, ground := Ground.data }, { on := 8, ground := Ground.chain }, { on := 0, ground := Ground.phase }, { on := 1, ground := Ground.phase }, { on := 2, ground := Ground.phase }, { on := 3, ground := Ground.phase }, { on := 4, ground := Ground.phase }, { on := 5, ground := Ground.phase }, { on := 6, ground := Ground.phase }, { on := 7, ground := Ground.phase }, { on := 8, ground := Ground.phase }, { on := 9, ground := Ground.phase }, { on := 10, ground := Ground.phase }, { on := 11, ground := Ground.phase }, { on := 12, ground := Ground.phase }, { on := 13, ground := Ground.phase }, { on := 14, ground := Ground.phase }], guard := Option.none }) rfl (fun K hK => ?_) AllReadyH.nil
                go_simp
                refine hK.out _ _ ?_ (fun hHeld => ?_)
                · trivial
                clear hK K
                try simp only [Act.put, List.setIfInBounds_toArray, List.set_cons_zero, List.set_cons_succ]
                refine wpAnyH_done (by kernel_rfl) ?_ _
                go_wp2_with fail
                go_meet
                exact ⟨rfl, rfl⟩
              · go_simp
                refine hK.out _ _ trivial (fun hHeld => ?_)
                clear hK K
                (try simp only [Act.put, List.setIfInBounds_toArray, List.set_cons_zero, List.set_cons_succ])
                refine wpAnyH_ready (rs := [8]) (by kernel_rfl) (by simp) ?_
                refine AllReadyH.cons (o := { dst := Option.some 50, op := Op.call { callee := Callee.value (Operand.func 57), args := #[Operand.tmp 49], argTypes := #[9] }, type := 26, pos := "ref.go:83", after := #[{ on := 7, ground := Ground.data }, { on := 4, ground := Ground.chain }], guard := Option.none }) rfl (fun K hK => ?_) AllReadyH.nil
                go_simp
                (go_at_call 57; refine (call8 _).mono ?_; rintro e w' ⟨rfl, rfl⟩)
                refine hK.out _ _ ?_ (fun hHeld => ?_)
                · trivial
                clear hK K
                try simp only [Act.put, List.setIfInBounds_toArray, List.set_cons_zero, List.set_cons_succ]
                refine' wpAnyH_take (i := 13) (oi := { dst := Option.some 55, op := Op.build 28 #[(0, Operand.tmp 43), (1, Operand.tmp 47), (2, Operand.tmp 50), (3, Operand.tmp 54)], type := 28, pos := "ref.go:83", after := #[{ on := 1, ground := Ground.data }, { on := 5, ground := Ground.data }, { on := 8, ground := Ground.data }, { on := 12, ground := Ground.data }], guard := Option.none }) rfl (by kernel_rfl) (by kernel_rfl) (by kernel_rfl) (fun _ _ _ h => h) (Or.inl ⟨by rfl, _⟩) (by assumption) _
                rotate_left
                · (intro wS hSw; (try dsimp only at hSw); go_simp; try with_reducible rfl)
                try simp only [Act.put, List.setIfInBounds_toArray, List.set_cons_zero, List.set_cons_succ]
                refine wpAnyH_ready (rs := [15]) (by kernel_rfl) (by simp) ?_
                refine AllReadyH.cons (o := { dst := Option.none, op := Op.store 28 (Operand.tmp 7) (Operand.tmp 55), type := 0, pos := "ref.go:83", after := #[{ on := 14, ground := Ground.data }, { on := 13, ground := Ground.data }, { on := 8, ground := Ground.chain }, { on := 0, ground := Ground.phase }, { on := 1, ground := Ground.phase }, { on := 2, ground := Ground.phase }, { on := 3, ground := Ground.phase }, { on := 4, ground := Ground.phase }, { on := 5, ground := Ground.phase }, { on := 6, ground := Ground.phase }, { on := 7, ground := Ground.phase }, { on := 8, ground := Ground.phase }, { on := 9, ground := Ground.phase }, { on := 10, ground := Ground.phase }, { on := 11, ground := Ground.phase }, { on := 12, ground := Ground.phase }, { on := 13, ground := Ground.phase }, { on := 14, ground := Ground.phase }], guard := Option.none }) rfl (fun K hK => ?_) AllReadyH.nil
                go_simp
                refine hK.out _ _ ?_ (fun hHeld => ?_)
                · trivial
                clear hK K
                try simp only [Act.put, List.setIfInBounds_toArray, List.set_cons_zero, List.set_cons_succ]
                refine wpAnyH_done (by kernel_rfl) ?_ _
                go_wp2_with fail
                go_meet
                exact ⟨rfl, rfl⟩
            · go_simp
              refine hK.out _ _ trivial (fun hHeld => ?_)
              clear hK K
              (try simp only [Act.put, List.setIfInBounds_toArray, List.set_cons_zero, List.set_cons_succ])
              refine wpAnyH_ready (rs := [4]) (by kernel_rfl) (by simp) ?_
              refine AllReadyH.cons (o := { dst := Option.some 46, op := Op.call { callee := Callee.value (Operand.func 57), args := #[Operand.tmp 45], argTypes := #[9] }, type := 26, pos := "ref.go:83", after := #[{ on := 3, ground := Ground.data }], guard := Option.none }) rfl (fun K hK => ?_) AllReadyH.nil
              go_simp
              (go_at_call 57; refine (call4 _).mono ?_; rintro e w' ⟨rfl, rfl⟩)
              refine hK.out _ _ ?_ (fun hHeld => ?_)
              · trivial
              clear hK K
              try simp only [Act.put, List.setIfInBounds_toArray, List.set_cons_zero, List.set_cons_succ]
              refine' wpAnyH_take (i := 5) (oi := { dst := Option.some 47, op := Op.convert 26 25 (Operand.tmp 46), type := 25, pos := "ref.go:83", after := #[{ on := 4, ground := Ground.data }], guard := Option.none }) rfl (by kernel_rfl) (by kernel_rfl) (by kernel_rfl) (fun _ _ _ h => h) (Or.inl ⟨by rfl, _⟩) (by assumption) _
              rotate_left
              · (intro wS hSw; (try dsimp only at hSw); go_simp; try with_reducible rfl)
              try simp only [Act.put, List.setIfInBounds_toArray, List.set_cons_zero, List.set_cons_succ]
              refine wpAnyH_ready (rs := [8]) (by kernel_rfl) (by simp) ?_
              refine AllReadyH.cons (o := { dst := Option.some 50, op := Op.call { callee := Callee.value (Operand.func 57), args := #[Operand.tmp 49], argTypes := #[9] }, type := 26, pos := "ref.go:83", after := #[{ on := 7, ground := Ground.data }, { on := 4, ground := Ground.chain }], guard := Option.none }) rfl (fun K hK => ?_) AllReadyH.nil
              go_simp
              (go_at_call 57; refine (call8 _).mono ?_; rintro e w' ⟨rfl, rfl⟩)
              refine hK.out _ _ ?_ (fun hHeld => ?_)
              · trivial
              clear hK K
              try simp only [Act.put, List.setIfInBounds_toArray, List.set_cons_zero, List.set_cons_succ]
              refine' wpAnyH_take (i := 13) (oi := { dst := Option.some 55, op := Op.build 28 #[(0, Operand.tmp 43), (1, Operand.tmp 47), (2, Operand.tmp 50), (3, Operand.tmp 54)], type := 28, pos := "ref.go:83", after := #[{ on := 1, ground := Ground.data }, { on := 5, ground := Ground.data }, { on := 8, ground := Ground.data }, { on := 12, ground := Ground.data }], guard := Option.none }) rfl (by kernel_rfl) (by kernel_rfl) (by kernel_rfl) (fun _ _ _ h => h) (Or.inl ⟨by rfl, _⟩) (by assumption) _
              rotate_left
              · (intro wS hSw; (try dsimp only at hSw); go_simp; try with_reducible rfl)
              try simp only [Act.put, List.setIfInBounds_toArray, List.set_cons_zero, List.set_cons_succ]
              refine wpAnyH_ready (rs := [15]) (by kernel_rfl) (by simp) ?_
              refine AllReadyH.cons (o := { dst := Option.none, op := Op.store 28 (Operand.tmp 7) (Operand.tmp 55), type := 0, pos := "ref.go:83", after := #[{ on := 14, ground := Ground.data }, { on := 13, ground := Ground.data }, { on := 8, ground := Ground.chain }, { on := 0, ground := Ground.phase }, { on := 1, ground := Ground.phase }, { on := 2, ground := Ground.phase }, { on := 3, ground := Ground.phase }, { on := 4, ground := Ground.phase }, { on := 5, ground := Ground.phase }, { on := 6, ground := Ground.phase }, { on := 7, ground := Ground.phase }, { on := 8, ground := Ground.phase }, { on := 9, ground := Ground.phase }, { on := 10, ground := Ground.phase }, { on := 11, ground := Ground.phase }, { on := 12, ground := Ground.phase }, { on := 13, ground := Ground.phase }, { on := 14, ground := Ground.phase }], guard := Option.none }) rfl (fun K hK => ?_) AllReadyH.nil
              go_simp
              refine hK.out _ _ ?_ (fun hHeld => ?_)
              · trivial
              clear hK K
              try simp only [Act.put, List.setIfInBounds_toArray, List.set_cons_zero, List.set_cons_succ]
              refine wpAnyH_done (by kernel_rfl) ?_ _
              go_wp2_with fail
              go_meet
              exact ⟨rfl, rfl⟩
          case rest =>
          obtain ⟨rfl, hwc⟩ := hcut
          have R3 : Hid (RF w wc a b) := by show RF w wc a b; rw [hwc]; exact (R2.out.alloc _).drew
          have P3 : Hid (wc.heap[w1.heap.size]? = some (.cells #[.int .u8 K, .int .u32 N, .int .u64 V, .string (s.extract 32 (32 + M))] 28 (0, 0))) := by show _ = _; rw [hwc]; exact heap_new w1.drew _
          have hzw := heap_lt P3.out
          clear hwc R2 f0 f1 q0 q1 q2 q3 k0 k1 k2 k3 y1 y2 y3 y4 hx8 hx16 m1 m2 m3 m4 m5 j1 j2 j3 j4 j5 j6 j7 j8 j9 y0 y5
          obtain ⟨hy2, hz2, f0, f1, q0, q1, q2, q3, k0, k1, k2, k3⟩ := R3.out.cells
          obtain ⟨p0, p1, p2, p3, _⟩ := blk4 P3.out
          go_wp2_with fail
          clear f0 f1 q0 q1 q2 q3 k0 k1 k2 k3 p0 p1 p2 p3
          have hbs : (s.extract 32 (32 + M)).size ≤ 9223372036854775807 := by rw [ByteArray.size_extract]; omega
          refine (refWrite_any a b (K : Int) (N : Int) (V : Int) (s.extract 32 (32 + M)) _ ha (by omega) (by omega) (by omega) hbs).mono ?_
          rintro e w14 ⟨rfl, hb14⟩
          have R5 := Lib.hid (R3.out.below hb14 (by omega))
          have P5 := Lib.hid (heap_below P3.out hb14 hzw)
          clear hb14 R3 P3 hbs
          have hW : writeS a b (rdK s) (rdN s) (rdR s) (rdB s) = writeS a b (K : Int) (N : Int) (V : Int) (s.extract 32 (32 + M)) := by unfold rdK rdN rdR rdB rdL; rw [HMM.out, HK.out, HN.out, HV.out]
          have hlen2 : ¬ (a - 32 < (rdL s : Int)) := by unfold rdL; rw [HMM.out]; omega
          have HL2 := Lib.hid hlen2
          clear hlen2
          have hempty : checkI a b (K : Int) (N : Int) (V : Int) (s.extract 32 (32 + M)).size ≠ 0 → writeS a b (K : Int) (N : Int) (V : Int) (s.extract 32 (32 + M)) ≠ s := by
            intro hne he
            rw [writeS, if_neg hne] at he
            rw [← he] at l3
            exact absurd l3 (by decide)
          obtain ⟨c, hc⟩ : ∃ c, checkI a b (K : Int) (N : Int) (V : Int) (s.extract 32 (32 + M)).size = c := ⟨_, rfl⟩
          obtain ⟨t, ht⟩ : ∃ t, writeS a b (K : Int) (N : Int) (V : Int) (s.extract 32 (32 + M)) = t := ⟨_, rfl⟩
          rw [hc, ht] at hempty
          rw [ht] at hW
          rw [hc, ht]
          have HW := Lib.hid hW
          clear hc ht hW
          obtain ⟨hy3, hz3, f0, f1, q0, q1, q2, q3, k0, k1, k2, k3⟩ := R5.out.cells
          obtain ⟨p0, p1, p2, p3, _⟩ := blk4 P5.out
          by_cases hts : t = s
          · have hc0 : c = 0 := Decidable.byContradiction fun h => hempty h hts
            subst hc0
            have b2 := beq_str_true hts
            have hC : Hid (readV a b s = .tuple #[.agg #[.int .u8 (K : Int), .int .u32 (N : Int), .int .u64 (V : Int), .string (s.extract 32 (32 + M))], .int .i64 0]) := by
              show _ = _
              have hm := HM.out
              have hsa := Hsa.out
              have hcc := HC.out
              have hl2 := HL2.out
              have hw := HW.out
              rw [hts] at hw
              have hr : readC a b s = 0 := by rw [readC, if_neg (by rw [hm]; simp), if_neg (by simpa using hsa), if_neg (by simpa using hcc), if_neg hl2, if_neg (by simpa using hw)]
              rw [readV, hr, if_pos rfl]
              unfold rdK rdN rdR rdB rdL
              rw [HMM.out, HK.out, HN.out, HV.out]
            clear hts hempty
            go_wp2_with fail
            refine wpDone (fun W4 e4 => ?_)
            obtain ⟨h4, hB4⟩ := blk4_set R5.out.res e4
            obtain ⟨z0, z1, z2, z3, _⟩ := blk4 h4
            exact bodyPost_ret (v := .tuple #[.agg #[.int .u8 (K : Int), .int .u32 (N : Int), .int .u64 (V : Int), .string (s.extract 32 (32 + M))], .int .i64 0]) (by simp [results, Try.results25, go_sem, z0, z1, z2, z3]) rfl ⟨by rw [hC.out], R5.out.bel.trans (hB4 _ (by omega))⟩
          · have b2 := beq_str_false hts
            have hC : Hid (readV a b s = .tuple #[.agg #[.int .u8 0, .int .u32 0, .int .u64 0, .string ⟨#[]⟩], .int .i64 53]) := by
              show _ = _
              have hm := HM.out
              have hsa := Hsa.out
              have hcc := HC.out
              have hl2 := HL2.out
              have hw := HW.out
              have hr : readC a b s = 53 := by rw [readC, if_neg (by rw [hm]; simp), if_neg (by simpa using hsa), if_neg (by simpa using hcc), if_neg hl2, if_pos (by rw [hw]; exact hts)]
              rw [readV, hr]
              rfl
            clear hts hempty
            by_cases hc0 : c = 0
            · have b3 : (c != 0) = false := by rw [hc0]; rfl
              clear hc0
              go_wp2_with fail
              refine wpDone (fun W4 e4 => ?_)
              obtain ⟨h4, hB4⟩ := blk4_set R5.out.res e4
              obtain ⟨z0, z1, z2, z3, _⟩ := blk4 h4
              exact bodyPost_ret (v := .tuple #[.agg #[.int .u8 0, .int .u32 0, .int .u64 0, .string ⟨#[]⟩], .int .i64 53]) (by simp [results, Try.results25, go_sem, z0, z1, z2, z3]) rfl ⟨by rw [hC.out], R5.out.bel.trans (hB4 _ (by omega))⟩
            · have b3 : (c != 0) = true := by rw [bne_iff_ne]; exact hc0
              clear hc0
              go_wp2_with fail
              refine wpDone (fun W4 e4 => ?_)
              obtain ⟨h4, hB4⟩ := blk4_set R5.out.res e4
              obtain ⟨z0, z1, z2, z3, _⟩ := blk4 h4
              exact bodyPost_ret (v := .tuple #[.agg #[.int .u8 0, .int .u32 0, .int .u64 0, .string ⟨#[]⟩], .int .i64 53]) (by simp [results, Try.results25, go_sem, z0, z1, z2, z3]) rfl ⟨by rw [hC.out], R5.out.bel.trans (hB4 _ (by omega))⟩
      · have c1 : ((y : Int) != toU X) = true := by
          rw [bne_iff_ne]; intro h; apply hcmp; apply hcm.1; unfold toU at h; omega
        have hC : Hid (readV a b s = .tuple #[.agg #[.int .u8 0, .int .u32 0, .int .u64 0, .string ⟨#[]⟩], .int .i64 52]) := by
          show _ = _
          have hm := HM.out
          have hsa := Hsa.out
          rw [← hsum] at hcmp
          simp [readV, readC, hm, hsa, hcmp]
        clear hcm hcmp hsum
        refine wp_region_held_drew (S := fun W => RF w W a b) (by kernel_rfl) R1.out.drew (fun hHeld => ?_)
        refine' wpAnyH_take (i := 0) (oi := { dst := Option.some 20, op := Op.move (Operand.tmp 1), type := 9, pos := "ref.go:76", after := #[], guard := Option.none }) rfl (by kernel_rfl) (by kernel_rfl) (by kernel_rfl) (fun _ _ _ h => h) (Or.inl ⟨by rfl, _⟩) (by assumption) _
        rotate_left
        · (intro wS hSw; (try dsimp only at hSw); go_simp; try with_reducible rfl)
        try simp only [Act.put, List.setIfInBounds_toArray, List.set_cons_zero, List.set_cons_succ]
        refine' wpAnyH_take (i := 1) (oi := { dst := Option.some 21, op := Op.slice 9 (Operand.tmp 20) (Option.some (Operand.const (Value.int IntKind.i64 28))) (Option.some (Operand.const (Value.int IntKind.i64 32))) Option.none, type := 9, pos := "ref.go:76", after := #[{ on := 0, ground := Ground.data }], guard := Option.none }) rfl (by kernel_rfl) (by kernel_rfl) (by kernel_rfl) (fun _ _ _ h => h) (Or.inl ⟨by rfl, _⟩) (by assumption) _
        rotate_left
        · (intro wS hSw; (try dsimp only at hSw); go_simp; try with_reducible rfl)
        try simp only [Act.put, List.setIfInBounds_toArray, List.set_cons_zero, List.set_cons_succ]
        refine' wpAnyH_take (i := 3) (oi := { dst := Option.some 23, op := Op.move (Operand.tmp 1), type := 9, pos := "ref.go:76", after := #[], guard := Option.none }) rfl (by kernel_rfl) (by kernel_rfl) (by kernel_rfl) (fun _ _ _ h => h) (Or.inl ⟨by rfl, _⟩) (by assumption) _
        rotate_left
        · (intro wS hSw; (try dsimp only at hSw); go_simp; try with_reducible rfl)
        try simp only [Act.put, List.setIfInBounds_toArray, List.set_cons_zero, List.set_cons_succ]
        refine' wpAnyH_take (i := 4) (oi := { dst := Option.some 24, op := Op.slice 9 (Operand.tmp 23) Option.none (Option.some (Operand.const (Value.int IntKind.i64 28))) Option.none, type := 9, pos := "ref.go:76", after := #[{ on := 3, ground := Ground.data }], guard := Option.none }) rfl (by kernel_rfl) (by kernel_rfl) (by kernel_rfl) (fun _ _ _ h => h) (Or.inl ⟨by rfl, _⟩) (by assumption) _
        rotate_left
        · (intro wS hSw; (try dsimp only at hSw); go_simp; try with_reducible rfl)
        try simp only [Act.put, List.setIfInBounds_toArray, List.set_cons_zero, List.set_cons_succ]
        refine' wpAnyH_take (i := 5) (oi := { dst := Option.some 25, op := Op.move (Operand.tmp 1), type := 9, pos := "ref.go:76", after := #[], guard := Option.none }) rfl (by kernel_rfl) (by kernel_rfl) (by kernel_rfl) (fun _ _ _ h => h) (Or.inl ⟨by rfl, _⟩) (by assumption) _
        rotate_left
        · (intro wS hSw; (try dsimp only at hSw); go_simp; try with_reducible rfl)
        try simp only [Act.put, List.setIfInBounds_toArray, List.set_cons_zero, List.set_cons_succ]
        refine' wpAnyH_take (i := 6) (oi := { dst := Option.some 26, op := Op.slice 9 (Operand.tmp 25) (Option.some (Operand.const (Value.int IntKind.i64 32))) Option.none Option.none, type := 9, pos := "ref.go:76", after := #[{ on := 5, ground := Ground.data }], guard := Option.none }) rfl (by kernel_rfl) (by kernel_rfl) (by kernel_rfl) (fun _ _ _ h => h) (Or.inl ⟨by rfl, _⟩) (by assumption) _
        rotate_left
        · (intro wS hSw; (try dsimp only at hSw); go_simp; try with_reducible rfl)
        try simp only [Act.put, List.setIfInBounds_toArray, List.set_cons_zero, List.set_cons_succ]
        refine' wpAnyH_take (i := 7) (oi := { dst := Option.some 27, op := Op.binOp BinOp.add 9 (Operand.tmp 24) (Operand.tmp 26) 9, type := 9, pos := "ref.go:76", after := #[{ on := 4, ground := Ground.data }, { on := 6, ground := Ground.data }], guard := Option.none }) rfl (by kernel_rfl) (by kernel_rfl) (by kernel_rfl) (fun _ _ _ h => h) (Or.inl ⟨by rfl, _⟩) (by assumption) _
        rotate_left
        · (intro wS hSw; (try dsimp only at hSw); go_simp; try with_reducible rfl)
        try simp only [Act.put, List.setIfInBounds_toArray, List.set_cons_zero, List.set_cons_succ]
        refine wpAnyH_ready (rs := [2]) (by kernel_rfl) (by simp) ?_
        refine AllReadyH.cons (o := { dst := Option.some 22, op := Op.call { callee := Callee.value (Operand.func 57), args := #[Operand.tmp 21], argTypes := #[9] }, type := 26, pos := "ref.go:76", after := #[{ on := 1, ground := Ground.data }], guard := Option.none }) rfl (fun K hK => ?_) AllReadyH.nil
        go_simp
        (go_at_call 57; refine (told_any _ _ hx4).mono ?_; rintro e w12 ⟨rfl, rfl⟩)
        refine hK.out _ _ ?_ (fun hHeld => ?_)
        · exact hHeld
        clear hK K
        try simp only [Act.put, List.setIfInBounds_toArray, List.set_cons_zero, List.set_cons_succ]
        rw [HY.out]
        refine wpAnyH_ready (rs := [8]) (by kernel_rfl) (by simp) ?_
        refine AllReadyH.cons (o := { dst := Option.some 28, op := Op.call { callee := Callee.value (Operand.func 56), args := #[Operand.tmp 27], argTypes := #[9] }, type := 25, pos := "ref.go:76", after := #[{ on := 7, ground := Ground.data }, { on := 2, ground := Ground.chain }], guard := Option.none }) rfl (fun K hK => ?_) AllReadyH.nil
        go_simp
        (go_at_call 56; rw [Hx.out]; refine (refCRC_any _ _ hxs).mono ?_; rintro e w13 ⟨rfl, rfl⟩)
        refine hK.out _ _ ?_ (fun hHeld => ?_)
        · exact hHeld
        clear hK K
        try simp only [Act.put, List.setIfInBounds_toArray, List.set_cons_zero, List.set_cons_succ]
        rw [HX.out]
        refine' wpAnyH_take (i := 9) (oi := { dst := Option.some 29, op := Op.convert 25 26 (Operand.tmp 28), type := 26, pos := "ref.go:76", after := #[{ on := 8, ground := Ground.data }], guard := Option.none }) rfl (by kernel_rfl) (by kernel_rfl) (by kernel_rfl) (fun _ _ _ h => h) (Or.inl ⟨by rfl, _⟩) (by assumption) _
        rotate_left
        · (intro wS hSw; (try dsimp only at hSw); go_simp; try with_reducible rfl)
        try simp only [Act.put, List.setIfInBounds_toArray, List.set_cons_zero, List.set_cons_succ]
        refine' wpAnyH_take (i := 10) (oi := { dst := Option.some 30, op := Op.binOp BinOp.neq 26 (Operand.tmp 22) (Operand.tmp 29) 26, type := 4, pos := "ref.go:76", after := #[{ on := 2, ground := Ground.data }, { on := 9, ground := Ground.data }], guard := Option.none }) rfl (by kernel_rfl) (by kernel_rfl) (by kernel_rfl) (fun _ _ _ h => h) (Or.inl ⟨by rfl, _⟩) (by assumption) _
        rotate_left
        · (intro wS hSw; (try dsimp only at hSw); go_simp; try with_reducible rfl)
        try simp only [Act.put, List.setIfInBounds_toArray, List.set_cons_zero, List.set_cons_succ]
        refine wpAnyH_done (by kernel_rfl) ?_ _
        have R2 := Lib.hid hHeld
        clear hHeld
        obtain ⟨hy, hz, f0, f1, q0, q1, q2, q3, k0, k1, k2, k3⟩ := R1.out.cells
        go_wp2_with fail
        refine wpDone (fun W4 e4 => ?_)
        obtain ⟨h4, hB4⟩ := blk4_set R2.out.res e4
        obtain ⟨z0, z1, z2, z3, _⟩ := blk4 h4
        exact bodyPost_ret (v := .tuple #[.agg #[.int .u8 0, .int .u32 0, .int .u64 0, .string ⟨#[]⟩], .int .i64 52]) (by simp [results, Try.results25, go_sem, z0, z1, z2, z3]) rfl ⟨by rw [hC.out], R2.out.bel.trans (hB4 _ (by omega))⟩
    · have e1 : ((s.size : Int) != a) = true := by rw [bne_iff_ne]; exact hsa
      have hC : Hid (readV a b s = .tuple #[.agg #[.int .u8 0, .int .u32 0, .int .u64 0, .string ⟨#[]⟩], .int .i64 51]) := by
        show _ = _; have hm := HM.out; simp [readV, readC, hm, hsa]
      clear hsa
      go_wp2_with fail
      refine wpDone (fun W4 e4 => ?_)
      obtain ⟨h4, hB4⟩ := blk4_set R1.out.res e4
      obtain ⟨z0, z1, z2, z3, _⟩ := blk4 h4
      exact bodyPost_ret (v := .tuple #[.agg #[.int .u8 0, .int .u32 0, .int .u64 0, .string ⟨#[]⟩], .int .i64 51]) (by simp [results, Try.results25, go_sem, z0, z1, z2, z3]) rfl ⟨by rw [hC.out], R1.out.bel.trans (hB4 _ (by omega))⟩
end Go.Proofs.Ytfhfeaipdmcekaa
