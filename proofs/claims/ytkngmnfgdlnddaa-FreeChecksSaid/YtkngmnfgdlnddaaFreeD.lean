/-
  The walks of a reader's Take (which blocks it writes), of such as fails, and Fault.
-/
import Derived.Test.YtkngmnfgdlnddaaReadW
import Derived.Test.YtkngmnfgdlnddaaFreeC
namespace Go.Proofs.Ytkngmnfgdlnddaa
open Go.RowKit Go.Lib Hw
set_option linter.unusedVariables false

set_option maxHeartbeats 2000000 in
theorem Take_m (B p : Nat) (s : ByteArray) (at_ : Nat) (w : World) (h : Rd w B p s at_) (hs : at_ + 4 ≤ s.size) (hz : s.size ≤ 9223372036854775000) :
    Calls Try.prog 65 #[.pointer (some ⟨p, 0, none⟩)] w fun e w' => e = .returned (.int .u32 (told (piece s at_ 4) : Int)) ∧ Rd w' B p s (at_ + 4) ∧ Mod (fun k => k = p) w w' := by
  go_enter Try.func65, Try.ntmps65
  go_wp2_with fail
  refine (Rdead_any B p s at_ _ h).mono ?_
  rintro e w1 ⟨rfl, rfl⟩
  go_wp2_with fail
  refine (width_uint32 _).mono ?_
  rintro e w1 ⟨rfl, rfl⟩
  go_wp2_with fail
  refine (Left_any B p s at_ _ h (by omega) (by omega)).mono ?_
  rintro e w1 ⟨rfl, rfl⟩
  have d1 : decide (((s.size - at_ : Nat) : Int) < 4) = false := by simp; omega
  go_wp2_with fail
  go_loopw [4, 20] (fun x i wr => ∃ (k : Nat) (X : Int), k ≤ 4 ∧ Hid (X = (told (piece s at_ k) : Int)) ∧ Hid (Rd wr B p s at_) ∧ Hid (Mod (fun k => k = p) w wr) ∧ x = .int .u64 X ∧ i = .int .i64 k) (fun _ i _ => 4 - (intOf i).toNat)
  case atStart => exact ⟨0, 0, by omega, by simp [Hid, told, piece], h, (Mod.refl _ _).drew, rfl, rfl⟩
  case round =>
    obtain ⟨k, X, hk, HX, HR, HB, rfl, rfl⟩ := hrel
    by_cases hlt : k < 4
    · have hX : 0 ≤ X ∧ X < 72057594037927936 := by
        have h1 := told_lt (piece s at_ k)
        rw [piece_length s at_ k (by omega)] at h1
        have h2 : 256 ^ k ≤ 256 ^ 7 := Nat.pow_le_pow_right (by decide) (by omega)
        have h3 : (256 : Nat) ^ 7 = 72057594037927936 := by decide
        have := HX.out
        omega
      have hik : at_ + k < s.size := by omega
      obtain ⟨b, hb⟩ : ∃ b : UInt8, s[at_ + k] = b := ⟨_, rfl⟩
      have hb2 : b.toNat < 256 := b.toNat_lt
      have HY : Hid (X * 256 + (b.toNat : Int) = (told (piece s at_ (k + 1)) : Int)) := by
        show _ = _
        rw [piece_snoc s at_ k hik, told_snoc, HX.out, ← byteAt_eq s _ hik, hb]; omega
      obtain ⟨c0, c1, c2, c3, c4⟩ := HR.out.cells
      clear c0 c3 c4
      go_wp2_with fail
      have i1 : IntKind.u64.wrap (X * 256) = X * 256 := IntWalk.u64_in _ (by omega)
      have i2 : IntKind.i64.wrap ((at_ : Int) + (k : Int)) = (at_ : Int) + (k : Int) := IntWalk.i64_in _ (by omega)
      have i3 : ((at_ : Int) + (k : Int)).toNat = at_ + k := by omega
      have i4 : 0 ≤ (at_ : Int) + (k : Int) := by omega
      have i5 : (at_ : Int) + (k : Int) < (s.size : Int) := by omega
      have i6 : IntKind.u64.wrap (b.toNat : Int) = (b.toNat : Int) := IntWalk.u64_in _ (by omega)
      have i7 := or_byte X b hX
      refine wp_region_held_drew (S := fun W => W.cell? ⟨p, 1, none⟩ = some (.string s) ∧ W.cell? ⟨p, 2, none⟩ = some (.int .i64 (at_ : Int))) (by kernel_rfl) ⟨c1, c2⟩ (fun hHeld => ?_)
      refine' wpAnyH_take (i := 0) (oi := { dst := Option.some 23, op := Op.move (Operand.tmp 4), type := 92, pos := "pack.go:162", after := #[], guard := Option.none }) rfl (by kernel_rfl) (by kernel_rfl) (by kernel_rfl) (fun _ _ _ h => h) (Or.inl ⟨by rfl, _⟩) (by assumption) _
      rotate_left
      · (intro wS hSw; (try dsimp only at hSw); go_simp; try with_reducible rfl)
      try simp only [Act.put, List.setIfInBounds_toArray, List.set_cons_zero, List.set_cons_succ]
      refine' wpAnyH_take (i := 1) (oi := { dst := Option.some 24, op := Op.binOp BinOp.shl 92 (Operand.tmp 23) (Operand.const (Value.int IntKind.u64 8)) 143, type := 92, pos := "pack.go:162", after := #[{ on := 0, ground := Ground.data }], guard := Option.none }) rfl (by kernel_rfl) (by kernel_rfl) (by kernel_rfl) (fun _ _ _ h => h) (Or.inl ⟨by rfl, _⟩) (by assumption) _
      rotate_left
      · (intro wS hSw; (try dsimp only at hSw); go_simp; try with_reducible rfl)
      try simp only [Act.put, List.setIfInBounds_toArray, List.set_cons_zero, List.set_cons_succ]
      refine' wpAnyH_take (i := 2) (oi := { dst := Option.some 25, op := Op.move (Operand.tmp 0), type := 111, pos := "pack.go:162", after := #[], guard := Option.none }) rfl (by kernel_rfl) (by kernel_rfl) (by kernel_rfl) (fun _ _ _ h => h) (Or.inl ⟨by rfl, _⟩) (by assumption) _
      rotate_left
      · (intro wS hSw; (try dsimp only at hSw); go_simp; try with_reducible rfl)
      try simp only [Act.put, List.setIfInBounds_toArray, List.set_cons_zero, List.set_cons_succ]
      refine' wpAnyH_take (i := 3) (oi := { dst := Option.some 26, op := Op.nilCheck (Operand.tmp 25), type := 0, pos := "pack.go:162", after := #[{ on := 2, ground := Ground.data }], guard := Option.none }) rfl (by kernel_rfl) (by kernel_rfl) (by kernel_rfl) (fun _ _ _ h => h) (Or.inl ⟨by rfl, _⟩) (by assumption) _
      rotate_left
      · (intro wS hSw; (try dsimp only at hSw); go_simp; try with_reducible rfl)
      try simp only [Act.put, List.setIfInBounds_toArray, List.set_cons_zero, List.set_cons_succ]
      refine' wpAnyH_take (i := 4) (oi := { dst := Option.some 27, op := Op.fieldAddr 145 (Operand.tmp 26) 1, type := 0, pos := "pack.go:162", after := #[{ on := 3, ground := Ground.data }], guard := Option.none }) rfl (by kernel_rfl) (by kernel_rfl) (by kernel_rfl) (fun _ _ _ h => h) (Or.inl ⟨by rfl, _⟩) (by assumption) _
      rotate_left
      · (intro wS hSw; (try dsimp only at hSw); go_simp; try with_reducible rfl)
      try simp only [Act.put, List.setIfInBounds_toArray, List.set_cons_zero, List.set_cons_succ]
      refine' wpAnyH_take (i := 5) (oi := { dst := Option.some 28, op := Op.load 9 (Operand.tmp 27), type := 9, pos := "pack.go:162", after := #[{ on := 4, ground := Ground.data }], guard := Option.none }) rfl (by kernel_rfl) (by kernel_rfl) (by kernel_rfl) (fun _ _ _ h => h) (Or.inl ⟨by rfl, _⟩) (by assumption) _
      rotate_left
      · (intro wS hSw; (try dsimp only at hSw); go_simp; try with_reducible rfl)
      try simp only [Act.put, List.setIfInBounds_toArray, List.set_cons_zero, List.set_cons_succ]
      refine' wpAnyH_take (i := 6) (oi := { dst := Option.some 29, op := Op.move (Operand.tmp 0), type := 111, pos := "pack.go:162", after := #[], guard := Option.none }) rfl (by kernel_rfl) (by kernel_rfl) (by kernel_rfl) (fun _ _ _ h => h) (Or.inl ⟨by rfl, _⟩) (by assumption) _
      rotate_left
      · (intro wS hSw; (try dsimp only at hSw); go_simp; try with_reducible rfl)
      try simp only [Act.put, List.setIfInBounds_toArray, List.set_cons_zero, List.set_cons_succ]
      refine' wpAnyH_take (i := 7) (oi := { dst := Option.some 30, op := Op.nilCheck (Operand.tmp 29), type := 0, pos := "pack.go:162", after := #[{ on := 6, ground := Ground.data }], guard := Option.none }) rfl (by kernel_rfl) (by kernel_rfl) (by kernel_rfl) (fun _ _ _ h => h) (Or.inl ⟨by rfl, _⟩) (by assumption) _
      rotate_left
      · (intro wS hSw; (try dsimp only at hSw); go_simp; try with_reducible rfl)
      try simp only [Act.put, List.setIfInBounds_toArray, List.set_cons_zero, List.set_cons_succ]
      refine' wpAnyH_take (i := 8) (oi := { dst := Option.some 31, op := Op.fieldAddr 145 (Operand.tmp 30) 2, type := 0, pos := "pack.go:162", after := #[{ on := 7, ground := Ground.data }], guard := Option.none }) rfl (by kernel_rfl) (by kernel_rfl) (by kernel_rfl) (fun _ _ _ h => h) (Or.inl ⟨by rfl, _⟩) (by assumption) _
      rotate_left
      · (intro wS hSw; (try dsimp only at hSw); go_simp; try with_reducible rfl)
      try simp only [Act.put, List.setIfInBounds_toArray, List.set_cons_zero, List.set_cons_succ]
      refine' wpAnyH_take (i := 9) (oi := { dst := Option.some 32, op := Op.load 3 (Operand.tmp 31), type := 3, pos := "pack.go:162", after := #[{ on := 8, ground := Ground.data }], guard := Option.none }) rfl (by kernel_rfl) (by kernel_rfl) (by kernel_rfl) (fun _ _ _ h => h) (Or.inl ⟨by rfl, _⟩) (by assumption) _
      rotate_left
      · (intro wS hSw; (try dsimp only at hSw); go_simp; try with_reducible rfl)
      try simp only [Act.put, List.setIfInBounds_toArray, List.set_cons_zero, List.set_cons_succ]
      refine' wpAnyH_take (i := 10) (oi := { dst := Option.some 33, op := Op.move (Operand.tmp 5), type := 3, pos := "pack.go:162", after := #[], guard := Option.none }) rfl (by kernel_rfl) (by kernel_rfl) (by kernel_rfl) (fun _ _ _ h => h) (Or.inl ⟨by rfl, _⟩) (by assumption) _
      rotate_left
      · (intro wS hSw; (try dsimp only at hSw); go_simp; try with_reducible rfl)
      try simp only [Act.put, List.setIfInBounds_toArray, List.set_cons_zero, List.set_cons_succ]
      refine' wpAnyH_take (i := 11) (oi := { dst := Option.some 34, op := Op.binOp BinOp.add 3 (Operand.tmp 32) (Operand.tmp 33) 3, type := 3, pos := "pack.go:162", after := #[{ on := 9, ground := Ground.data }, { on := 10, ground := Ground.data }], guard := Option.none }) rfl (by kernel_rfl) (by kernel_rfl) (by kernel_rfl) (fun _ _ _ h => h) (Or.inl ⟨by rfl, _⟩) (by assumption) _
      rotate_left
      · (intro wS hSw; (try dsimp only at hSw); go_simp; try with_reducible rfl)
      try simp only [Act.put, List.setIfInBounds_toArray, List.set_cons_zero, List.set_cons_succ]
      refine' wpAnyH_take (i := 12) (oi := { dst := Option.some 35, op := Op.index 9 (Operand.tmp 28) (Operand.tmp 34), type := 5, pos := "pack.go:162", after := #[{ on := 5, ground := Ground.data }, { on := 11, ground := Ground.data }], guard := Option.none }) rfl (by kernel_rfl) (by kernel_rfl) (by kernel_rfl) (fun _ _ _ h => h) (Or.inl ⟨by rfl, _⟩) (by assumption) _
      rotate_left
      · (intro wS hSw; (try dsimp only at hSw); go_simp; try with_reducible rfl)
      try simp only [Act.put, List.setIfInBounds_toArray, List.set_cons_zero, List.set_cons_succ]
      refine' wpAnyH_take (i := 13) (oi := { dst := Option.some 36, op := Op.convert 5 92 (Operand.tmp 35), type := 92, pos := "pack.go:162", after := #[{ on := 12, ground := Ground.data }], guard := Option.none }) rfl (by kernel_rfl) (by kernel_rfl) (by kernel_rfl) (fun _ _ _ h => h) (Or.inl ⟨by rfl, _⟩) (by assumption) _
      rotate_left
      · (intro wS hSw; (try dsimp only at hSw); go_simp; try with_reducible rfl)
      try simp only [Act.put, List.setIfInBounds_toArray, List.set_cons_zero, List.set_cons_succ]
      refine' wpAnyH_take (i := 14) (oi := { dst := Option.some 37, op := Op.binOp BinOp.or 92 (Operand.tmp 24) (Operand.tmp 36) 92, type := 92, pos := "pack.go:162", after := #[{ on := 1, ground := Ground.data }, { on := 13, ground := Ground.data }], guard := Option.none }) rfl (by kernel_rfl) (by kernel_rfl) (by kernel_rfl) (fun _ _ _ h => h) (Or.inl ⟨by rfl, _⟩) (by assumption) _
      rotate_left
      · (intro wS hSw; (try dsimp only at hSw); go_simp; try with_reducible rfl)
      try simp only [Act.put, List.setIfInBounds_toArray, List.set_cons_zero, List.set_cons_succ]
      refine' wpAnyH_take (i := 15) (oi := { dst := Option.some 4, op := Op.assign (Operand.tmp 37), type := 92, pos := "pack.go:162", after := #[{ on := 14, ground := Ground.data }, { on := 0, ground := Ground.phase }, { on := 1, ground := Ground.phase }, { on := 2, ground := Ground.phase }, { on := 3, ground := Ground.phase }, { on := 4, ground := Ground.phase }, { on := 5, ground := Ground.phase }, { on := 6, ground := Ground.phase }, { on := 7, ground := Ground.phase }, { on := 8, ground := Ground.phase }, { on := 9, ground := Ground.phase }, { on := 10, ground := Ground.phase }, { on := 11, ground := Ground.phase }, { on := 12, ground := Ground.phase }, { on := 13, ground := Ground.phase }, { on := 14, ground := Ground.phase }], guard := Option.none }) rfl (by kernel_rfl) (by kernel_rfl) (by kernel_rfl) (fun _ _ _ h => h) (Or.inl ⟨by rfl, _⟩) (by assumption) _
      rotate_left
      · (intro wS hSw; (try dsimp only at hSw); go_simp; try with_reducible rfl)
      try simp only [Act.put, List.setIfInBounds_toArray, List.set_cons_zero, List.set_cons_succ]
      refine wpAnyH_done (by kernel_rfl) ?_ _
      clear i1 i2 i3 i4 i5 i6 i7
      go_wp2
      go_roundw
      case rel => exact ⟨k + 1, _, by omega, HY.out, HR.out, HB.out.drew, rfl, by go_num⟩
      case measure => simp [intOf]; omega
    · have : k = 4 := by omega
      subst this
      have hXm : 0 ≤ X ∧ X < 4294967296 := by
        have h1 := told_lt (piece s at_ 4)
        rw [piece_length s at_ 4 (by omega)] at h1
        have h3 : (256 : Nat) ^ 4 = 4294967296 := by decide
        have := HX.out
        omega
      obtain ⟨c0, c1, c2, c3, c4⟩ := HR.out.cells
      clear c0 c1 c3
      go_wp2
      go_ret
      refine ⟨by rw [← HX.out]; rfl, ?_, HB.out.then (Mod.set (S := fun k => k = p) (o := 2) _ rfl _)⟩
      have hm := HR.out.move (at_ + 4)
      have e1 : ((at_ + 4 : Nat) : Int) = (at_ : Int) + 4 := by omega
      rw [e1] at hm
      exact hm

/-- a reader that met a fault -/
def Rf (w : World) (B p : Nat) : Prop := B ≤ p ∧ ∃ (s : ByteArray) (a : Int), w.heap[p]? = some (.cells #[.bool true, .string s, .int .i64 a, .int .i64 10] 145 (0, 0))
theorem fail_any (B p : Nat) (s : ByteArray) (at_ : Nat) (w : World) (h : Rd w B p s at_) :
    Calls Try.prog 82 #[.pointer (some ⟨p, 0, none⟩), .int .i64 10, .int .i64 (at_ : Int)] w fun e w' => e = .returned (.tuple #[]) ∧ Rf w' B p ∧ Mod (fun k => k = p) w w' := by
  have c3 : w.cell? ⟨p, 3, none⟩ = some (.int .i64 0) := by rw [heap_cell h.2]; rfl
  have f3 := heap_free h.2 3
  have h1 := heap_set (o := 3) h.2 (.int .i64 10)
  have c2 : w.cell? ⟨p, 2, none⟩ = some (.int .i64 (at_ : Int)) := by rw [heap_cell h.2]; rfl
  have f2 := heap_free h.2 2
  have h2 := heap_set (o := 2) h1 (.int .i64 (at_ : Int))
  have hR : Hid (Rf ((w.setCell ⟨p, 3, none⟩ (.int .i64 10)).setCell ⟨p, 2, none⟩ (.int .i64 (at_ : Int))) B p) := ⟨h.1, s, (at_ : Int), h2⟩
  have hM : Hid (Mod (fun k => k = p) w ((w.setCell ⟨p, 3, none⟩ (.int .i64 10)).setCell ⟨p, 2, none⟩ (.int .i64 (at_ : Int)))) := (Mod.set (S := fun k => k = p) (o := 3) w rfl _).then (Mod.set (S := fun k => k = p) (o := 2) _ rfl _)
  clear h h1 h2
  go_enter Try.func82, Try.ntmps82
  go_wp2_with fail
  go_end0
  exact ⟨rfl, hR.out, hM.out⟩
set_option maxHeartbeats 1000000 in
theorem Take_short (B p : Nat) (s : ByteArray) (at_ : Nat) (w : World) (h : Rd w B p s at_) (ha : at_ ≤ s.size) (hs : s.size < at_ + 4) (hz : s.size ≤ 9223372036854775000) :
    Calls Try.prog 65 #[.pointer (some ⟨p, 0, none⟩)] w fun e w' => e = .returned (.int .u32 0) ∧ Rf w' B p ∧ Mod (fun k => k = p) w w' := by
  have hd : Rd w.drew B p s at_ := h
  go_enter Try.func65, Try.ntmps65
  go_wp2_with fail
  refine (Rdead_any B p s at_ _ h).mono ?_
  rintro e w1 ⟨rfl, rfl⟩
  go_wp2_with fail
  refine (width_uint32 _).mono ?_
  rintro e w1 ⟨rfl, rfl⟩
  go_wp2_with fail
  refine (Left_any B p s at_ _ h (by omega) (by omega)).mono ?_
  rintro e w1 ⟨rfl, rfl⟩
  have d1 : decide (((s.size - at_ : Nat) : Int) < 4) = true := decide_eq_true (by omega)
  have c2 : w.drew.cell? ⟨p, 2, none⟩ = some (.int .i64 (at_ : Int)) := hd.cells.2.2.1
  go_wp2_with (go_at_call 82; refine (fail_any B p s at_ _ hd).mono ?_; rintro e w2 ⟨rfl, r2, m2⟩)
  go_ret
  exact ⟨rfl, r2, (Mod.refl _ w).drew.then m2⟩
theorem dead_f (B p : Nat) (w : World) (h : Rf w B p) :
    Calls Try.prog 81 #[.pointer (some ⟨p, 0, none⟩)] w fun e w' => e = .returned (.bool true) ∧ w = w' := by
  obtain ⟨_, s, a, hp⟩ := h
  have c0 : w.cell? ⟨p, 0, none⟩ = some (.bool true) := by rw [heap_cell hp]; rfl
  have c3 : w.cell? ⟨p, 3, none⟩ = some (.int .i64 10) := by rw [heap_cell hp]; rfl
  clear hp
  go_enter Try.func81, Try.ntmps81
  go_wp2
  go_ret
  exact ⟨rfl, rfl⟩
theorem Take_dead (B p : Nat) (w : World) (h : Rf w B p) :
    Calls Try.prog 65 #[.pointer (some ⟨p, 0, none⟩)] w fun e w' => e = .returned (.int .u32 0) ∧ w = w' := by
  go_enter Try.func65, Try.ntmps65
  go_wp2_with (go_at_call 81; refine (dead_f B p _ h).mono ?_; rintro e w1 ⟨rfl, rfl⟩)
  go_ret
  exact ⟨rfl, rfl⟩
theorem Fault_ok (B p : Nat) (s : ByteArray) (at_ : Nat) (w : World) (h : Rd w B p s at_) :
    Calls Try.prog 66 #[.pointer (some ⟨p, 0, none⟩)] w fun e w' => e = .returned (.pointer none) ∧ w = w' := by
  obtain ⟨h0, h1, h2, h3, h4⟩ := h.cells
  clear h4
  go_enter Try.func66, Try.ntmps66
  go_wp2
  go_ret
  exact ⟨rfl, rfl⟩
theorem Fault_bad (B p : Nat) (w : World) (h : Rf w B p) :
    Calls Try.prog 66 #[.pointer (some ⟨p, 0, none⟩)] w fun e w' => (∃ g, e = .returned (.pointer (some ⟨g, 0, none⟩))) ∧ Below w.heap.size w w' := by
  obtain ⟨_, s, a, hp⟩ := h
  have c2 : w.cell? ⟨p, 2, none⟩ = some (.int .i64 a) := by rw [heap_cell hp]; rfl
  have c3 : w.cell? ⟨p, 3, none⟩ = some (.int .i64 10) := by rw [heap_cell hp]; rfl
  have hpz : p < w.drew.heap.size := heap_lt hp
  clear hp
  obtain ⟨N, hN⟩ : ∃ N, w.heap.size = N := ⟨_, rfl⟩
  have HN := Lib.hid hN
  rw [hN]
  clear hN
  go_enter Try.func66, Try.ntmps66
  go_upto_region 3 with fail
  refine wp_region_held_drew (S := fun W => W.cell? ⟨p, 2, none⟩ = some (.int .i64 a) ∧ W.cell? ⟨p, 3, none⟩ = some (.int .i64 10)) (by kernel_rfl) ⟨c2, c3⟩ (fun hHeld => ?_)
  refine' wpAnyH_take (i := 0) (oi := { dst := Option.some 12, op := Op.move (Operand.tmp 0), type := 111, pos := "pack.go:292", after := #[], guard := Option.none }) rfl (by kernel_rfl) (by kernel_rfl) (by kernel_rfl) (fun _ _ _ h => h) (Or.inl ⟨by rfl, _⟩) (by assumption) _
  rotate_left
  · (intro wS hSw; (try dsimp only at hSw); go_simp; try with_reducible rfl)
  try simp only [Act.put, List.setIfInBounds_toArray, List.set_cons_zero, List.set_cons_succ]
  refine' wpAnyH_take (i := 1) (oi := { dst := Option.some 13, op := Op.nilCheck (Operand.tmp 12), type := 0, pos := "pack.go:292", after := #[{ on := 0, ground := Ground.data }], guard := Option.none }) rfl (by kernel_rfl) (by kernel_rfl) (by kernel_rfl) (fun _ _ _ h => h) (Or.inl ⟨by rfl, _⟩) (by assumption) _
  rotate_left
  · (intro wS hSw; (try dsimp only at hSw); go_simp; try with_reducible rfl)
  try simp only [Act.put, List.setIfInBounds_toArray, List.set_cons_zero, List.set_cons_succ]
  refine' wpAnyH_take (i := 2) (oi := { dst := Option.some 14, op := Op.fieldAddr 145 (Operand.tmp 13) 3, type := 0, pos := "pack.go:292", after := #[{ on := 1, ground := Ground.data }], guard := Option.none }) rfl (by kernel_rfl) (by kernel_rfl) (by kernel_rfl) (fun _ _ _ h => h) (Or.inl ⟨by rfl, _⟩) (by assumption) _
  rotate_left
  · (intro wS hSw; (try dsimp only at hSw); go_simp; try with_reducible rfl)
  try simp only [Act.put, List.setIfInBounds_toArray, List.set_cons_zero, List.set_cons_succ]
  refine' wpAnyH_take (i := 3) (oi := { dst := Option.some 15, op := Op.load 32 (Operand.tmp 14), type := 32, pos := "pack.go:292", after := #[{ on := 2, ground := Ground.data }], guard := Option.none }) rfl (by kernel_rfl) (by kernel_rfl) (by kernel_rfl) (fun _ _ _ h => h) (Or.inl ⟨by rfl, _⟩) (by assumption) _
  rotate_left
  · (intro wS hSw; (try dsimp only at hSw); go_simp; try with_reducible rfl)
  try simp only [Act.put, List.setIfInBounds_toArray, List.set_cons_zero, List.set_cons_succ]
  refine' wpAnyH_take (i := 4) (oi := { dst := Option.some 16, op := Op.move (Operand.tmp 0), type := 111, pos := "pack.go:292", after := #[], guard := Option.none }) rfl (by kernel_rfl) (by kernel_rfl) (by kernel_rfl) (fun _ _ _ h => h) (Or.inl ⟨by rfl, _⟩) (by assumption) _
  rotate_left
  · (intro wS hSw; (try dsimp only at hSw); go_simp; try with_reducible rfl)
  try simp only [Act.put, List.setIfInBounds_toArray, List.set_cons_zero, List.set_cons_succ]
  refine' wpAnyH_take (i := 5) (oi := { dst := Option.some 17, op := Op.nilCheck (Operand.tmp 16), type := 0, pos := "pack.go:292", after := #[{ on := 4, ground := Ground.data }], guard := Option.none }) rfl (by kernel_rfl) (by kernel_rfl) (by kernel_rfl) (fun _ _ _ h => h) (Or.inl ⟨by rfl, _⟩) (by assumption) _
  rotate_left
  · (intro wS hSw; (try dsimp only at hSw); go_simp; try with_reducible rfl)
  try simp only [Act.put, List.setIfInBounds_toArray, List.set_cons_zero, List.set_cons_succ]
  refine' wpAnyH_take (i := 6) (oi := { dst := Option.some 18, op := Op.fieldAddr 145 (Operand.tmp 17) 2, type := 0, pos := "pack.go:292", after := #[{ on := 5, ground := Ground.data }], guard := Option.none }) rfl (by kernel_rfl) (by kernel_rfl) (by kernel_rfl) (fun _ _ _ h => h) (Or.inl ⟨by rfl, _⟩) (by assumption) _
  rotate_left
  · (intro wS hSw; (try dsimp only at hSw); go_simp; try with_reducible rfl)
  try simp only [Act.put, List.setIfInBounds_toArray, List.set_cons_zero, List.set_cons_succ]
  refine' wpAnyH_take (i := 7) (oi := { dst := Option.some 19, op := Op.load 3 (Operand.tmp 18), type := 3, pos := "pack.go:292", after := #[{ on := 6, ground := Ground.data }], guard := Option.none }) rfl (by kernel_rfl) (by kernel_rfl) (by kernel_rfl) (fun _ _ _ h => h) (Or.inl ⟨by rfl, _⟩) (by assumption) _
  rotate_left
  · (intro wS hSw; (try dsimp only at hSw); go_simp; try with_reducible rfl)
  try simp only [Act.put, List.setIfInBounds_toArray, List.set_cons_zero, List.set_cons_succ]
  refine' wpAnyH_take (i := 8) (oi := { dst := Option.some 20, op := Op.build 148 #[(0, Operand.tmp 15), (1, Operand.tmp 19)], type := 148, pos := "pack.go:292", after := #[{ on := 3, ground := Ground.data }, { on := 7, ground := Ground.data }], guard := Option.none }) rfl (by kernel_rfl) (by kernel_rfl) (by kernel_rfl) (fun _ _ _ h => h) (Or.inl ⟨by rfl, _⟩) (by assumption) _
  rotate_left
  · (intro wS hSw; (try dsimp only at hSw); go_simp; try with_reducible rfl)
  try simp only [Act.put, List.setIfInBounds_toArray, List.set_cons_zero, List.set_cons_succ]
  refine wpAnyH_ready (rs := [9]) (by kernel_rfl) (by simp) ?_
  refine AllReadyH.cons (o := { dst := Option.some 21, op := Op.box 148 (Operand.tmp 20), type := 114, pos := "pack.go:292", after := #[{ on := 8, ground := Ground.data }], guard := Option.none }) rfl (fun K hK => ?_) AllReadyH.nil
  go_simp
  refine hK.out _ _ ?_ (fun hHeld => ?_)
  · exact ⟨cellB ((Below.refl _ _).alloc (Nat.le_refl _) _) hpz hHeld.1, cellB ((Below.refl _ _).alloc (Nat.le_refl _) _) hpz hHeld.2⟩
  clear hK K
  try simp only [Act.put, List.setIfInBounds_toArray, List.set_cons_zero, List.set_cons_succ]
  refine' wpAnyH_take (i := 10) (oi := { dst := Option.some 2, op := Op.assign (Operand.tmp 21), type := 114, pos := "pack.go:292", after := #[{ on := 9, ground := Ground.data }, { on := 0, ground := Ground.phase }, { on := 1, ground := Ground.phase }, { on := 2, ground := Ground.phase }, { on := 3, ground := Ground.phase }, { on := 4, ground := Ground.phase }, { on := 5, ground := Ground.phase }, { on := 6, ground := Ground.phase }, { on := 7, ground := Ground.phase }, { on := 8, ground := Ground.phase }, { on := 9, ground := Ground.phase }], guard := Option.none }) rfl (by kernel_rfl) (by kernel_rfl) (by kernel_rfl) (fun _ _ _ h => h) (Or.inl ⟨by rfl, _⟩) (by assumption) _
  rotate_left
  · (intro wS hSw; (try dsimp only at hSw); go_simp; try with_reducible rfl)
  try simp only [Act.put, List.setIfInBounds_toArray, List.set_cons_zero, List.set_cons_succ]
  refine wpAnyH_done (by kernel_rfl) ?_ _
  go_wp2_with fail
  go_ret
  exact ⟨⟨_, rfl⟩, by rw [← HN.out]; exact ((Below.refl _ _).drew).alloc (Nat.le_refl _) _⟩
end Go.Proofs.Ytkngmnfgdlnddaa
