/-
  The walks of package pack's Reader: Open, dead, Left, Raw, Take (where enough bytes are left). Printed by wip/mk_read.py.
-/
import Derived.Test.YtkngmnfgdlnddaaPackW
import Derived.Test.YtkngmnfgdlnddaaCrc
namespace Go.Proofs.Ytkngmnfgdlnddaa
open Go.RowKit Hw
set_option linter.unusedVariables false

/-- a reader that Open made, without fault: its block; where it stands -/
def Rd (w : World) (B p : Nat) (s : ByteArray) (at_ : Nat) : Prop :=
  B ≤ p ∧ w.heap[p]? = some (.cells #[.bool true, .string s, .int .i64 (at_ : Int), .int .i64 0] 145 (0, 0))

set_option maxHeartbeats 1000000 in
theorem Open_any (s : ByteArray) (w : World) : Calls Try.prog 64 #[.string s] w fun e w' => e = .returned (.pointer (some ⟨w.heap.size, 0, none⟩)) ∧ w.alloc (.cells #[.bool true, .string s, .int .i64 0, .int .i64 0] 145) = w' := by
  go_enter Try.func64, Try.ntmps64
  go_wp2
  go_ret
  exact ⟨rfl, rfl⟩

theorem Rd.new (w : World) (s : ByteArray) : Rd (w.alloc (.cells #[.bool true, .string s, .int .i64 0, .int .i64 0] 145)) w.heap.size w.heap.size s 0 :=
  ⟨Nat.le_refl _, heap_new _ _⟩

theorem Rd.cells {w : World} {B p : Nat} {s : ByteArray} {at_ : Nat} (h : Rd w B p s at_) :
    w.cell? ⟨p, 0, none⟩ = some (.bool true) ∧ w.cell? ⟨p, 1, none⟩ = some (.string s) ∧ w.cell? ⟨p, 2, none⟩ = some (.int .i64 (at_ : Int)) ∧ w.cell? ⟨p, 3, none⟩ = some (.int .i64 0) ∧ w.frozen? ⟨p, 2, none⟩ = false := by
  obtain ⟨_, hp⟩ := h
  exact ⟨by rw [heap_cell hp]; rfl, by rw [heap_cell hp]; rfl, by rw [heap_cell hp]; rfl, by rw [heap_cell hp]; rfl, heap_free hp 2⟩

theorem Rd.move {w : World} {B p : Nat} {s : ByteArray} {at_ : Nat} (h : Rd w B p s at_) (n : Nat) : Rd (w.setCell ⟨p, 2, none⟩ (.int .i64 (n : Int))) B p s n := ⟨h.1, heap_set h.2 _⟩

theorem Rd.setOther {w : World} {B p : Nat} {s : ByteArray} {at_ : Nat} (h : Rd w B p s at_) {a : Addr} (ha : a.block < B) (v : Value) : Rd (w.setCell a v) B p s at_ :=
  ⟨h.1, heap_setOther h.2 (by have := h.1; omega) v⟩
theorem Rd.below {w w' : World} {B C p : Nat} {s : ByteArray} {at_ : Nat} (h : Rd w B p s at_) (hb : Below C w w') (hC : p < C) : Rd w' B p s at_ := ⟨h.1, heap_below h.2 hb hC⟩

set_option maxHeartbeats 1000000 in
theorem Rdead_any (B p : Nat) (s : ByteArray) (at_ : Nat) (w : World) (h : Rd w B p s at_) :
    Calls Try.prog 81 #[.pointer (some ⟨p, 0, none⟩)] w fun e w' => e = .returned (.bool false) ∧ w = w' := by
  obtain ⟨h0, h1, h2, h3, h4⟩ := h.cells
  go_enter Try.func81, Try.ntmps81
  go_wp2
  go_ret
  exact ⟨rfl, rfl⟩

set_option maxHeartbeats 1000000 in
theorem Left_any (B p : Nat) (s : ByteArray) (at_ : Nat) (w : World) (h : Rd w B p s at_) (hs : at_ ≤ s.size) (hz : s.size ≤ 9223372036854775807) :
    Calls Try.prog 67 #[.pointer (some ⟨p, 0, none⟩)] w fun e w' => e = .returned (.int .i64 ((s.size - at_ : Nat) : Int)) ∧ w.drew = w' := by
  obtain ⟨h0, h1, h2, h3, h4⟩ := h.cells
  have hw : IntKind.i64.wrap ((s.size : Int) - (at_ : Int)) = ((s.size - at_ : Nat) : Int) := by rw [IntWalk.i64_in _ (by omega)]; omega
  go_enter Try.func67, Try.ntmps67
  go_wp2_with fail
  refine wp_region_held_drew (S := fun W => W.cell? ⟨p, 1, none⟩ = some (.string s) ∧ W.cell? ⟨p, 2, none⟩ = some (.int .i64 (at_ : Int))) (by kernel_rfl) ⟨h1, h2⟩ (fun hHeld => ?_)
  refine' wpAnyH_take (i := 0) (oi := { dst := Option.some 5, op := Op.move (Operand.tmp 0), type := 111, pos := "pack.go:276", after := #[], guard := Option.none }) rfl (by kernel_rfl) (by kernel_rfl) (by kernel_rfl) (fun _ _ _ h => h) (Or.inl ⟨by rfl, _⟩) (by assumption) _
  rotate_left
  · (intro wS hSw; (try dsimp only at hSw); go_simp; try with_reducible rfl)
  try simp only [Act.put, List.setIfInBounds_toArray, List.set_cons_zero, List.set_cons_succ]
  refine' wpAnyH_take (i := 1) (oi := { dst := Option.some 6, op := Op.nilCheck (Operand.tmp 5), type := 0, pos := "pack.go:276", after := #[{ on := 0, ground := Ground.data }], guard := Option.none }) rfl (by kernel_rfl) (by kernel_rfl) (by kernel_rfl) (fun _ _ _ h => h) (Or.inl ⟨by rfl, _⟩) (by assumption) _
  rotate_left
  · (intro wS hSw; (try dsimp only at hSw); go_simp; try with_reducible rfl)
  try simp only [Act.put, List.setIfInBounds_toArray, List.set_cons_zero, List.set_cons_succ]
  refine' wpAnyH_take (i := 2) (oi := { dst := Option.some 7, op := Op.fieldAddr 145 (Operand.tmp 6) 1, type := 0, pos := "pack.go:276", after := #[{ on := 1, ground := Ground.data }], guard := Option.none }) rfl (by kernel_rfl) (by kernel_rfl) (by kernel_rfl) (fun _ _ _ h => h) (Or.inl ⟨by rfl, _⟩) (by assumption) _
  rotate_left
  · (intro wS hSw; (try dsimp only at hSw); go_simp; try with_reducible rfl)
  try simp only [Act.put, List.setIfInBounds_toArray, List.set_cons_zero, List.set_cons_succ]
  refine' wpAnyH_take (i := 3) (oi := { dst := Option.some 8, op := Op.load 9 (Operand.tmp 7), type := 9, pos := "pack.go:276", after := #[{ on := 2, ground := Ground.data }], guard := Option.none }) rfl (by kernel_rfl) (by kernel_rfl) (by kernel_rfl) (fun _ _ _ h => h) (Or.inl ⟨by rfl, _⟩) (by assumption) _
  rotate_left
  · (intro wS hSw; (try dsimp only at hSw); go_simp; try with_reducible rfl)
  try simp only [Act.put, List.setIfInBounds_toArray, List.set_cons_zero, List.set_cons_succ]
  refine' wpAnyH_take (i := 4) (oi := { dst := Option.some 9, op := Op.call { callee := Callee.builtin Builtin.len, args := #[Operand.tmp 8], argTypes := #[9] }, type := 3, pos := "pack.go:276", after := #[{ on := 3, ground := Ground.data }], guard := Option.none }) rfl (by kernel_rfl) (by kernel_rfl) (by kernel_rfl) (fun _ _ _ h => h) (Or.inl ⟨by rfl, _⟩) (by assumption) _
  rotate_left
  · (intro wS hSw; (try dsimp only at hSw); go_simp; try with_reducible rfl)
  try simp only [Act.put, List.setIfInBounds_toArray, List.set_cons_zero, List.set_cons_succ]
  refine' wpAnyH_take (i := 5) (oi := { dst := Option.some 10, op := Op.move (Operand.tmp 0), type := 111, pos := "pack.go:276", after := #[], guard := Option.none }) rfl (by kernel_rfl) (by kernel_rfl) (by kernel_rfl) (fun _ _ _ h => h) (Or.inl ⟨by rfl, _⟩) (by assumption) _
  rotate_left
  · (intro wS hSw; (try dsimp only at hSw); go_simp; try with_reducible rfl)
  try simp only [Act.put, List.setIfInBounds_toArray, List.set_cons_zero, List.set_cons_succ]
  refine' wpAnyH_take (i := 6) (oi := { dst := Option.some 11, op := Op.nilCheck (Operand.tmp 10), type := 0, pos := "pack.go:276", after := #[{ on := 5, ground := Ground.data }], guard := Option.none }) rfl (by kernel_rfl) (by kernel_rfl) (by kernel_rfl) (fun _ _ _ h => h) (Or.inl ⟨by rfl, _⟩) (by assumption) _
  rotate_left
  · (intro wS hSw; (try dsimp only at hSw); go_simp; try with_reducible rfl)
  try simp only [Act.put, List.setIfInBounds_toArray, List.set_cons_zero, List.set_cons_succ]
  refine' wpAnyH_take (i := 7) (oi := { dst := Option.some 12, op := Op.fieldAddr 145 (Operand.tmp 11) 2, type := 0, pos := "pack.go:276", after := #[{ on := 6, ground := Ground.data }], guard := Option.none }) rfl (by kernel_rfl) (by kernel_rfl) (by kernel_rfl) (fun _ _ _ h => h) (Or.inl ⟨by rfl, _⟩) (by assumption) _
  rotate_left
  · (intro wS hSw; (try dsimp only at hSw); go_simp; try with_reducible rfl)
  try simp only [Act.put, List.setIfInBounds_toArray, List.set_cons_zero, List.set_cons_succ]
  refine' wpAnyH_take (i := 8) (oi := { dst := Option.some 13, op := Op.load 3 (Operand.tmp 12), type := 3, pos := "pack.go:276", after := #[{ on := 7, ground := Ground.data }], guard := Option.none }) rfl (by kernel_rfl) (by kernel_rfl) (by kernel_rfl) (fun _ _ _ h => h) (Or.inl ⟨by rfl, _⟩) (by assumption) _
  rotate_left
  · (intro wS hSw; (try dsimp only at hSw); go_simp; try with_reducible rfl)
  try simp only [Act.put, List.setIfInBounds_toArray, List.set_cons_zero, List.set_cons_succ]
  refine' wpAnyH_take (i := 9) (oi := { dst := Option.some 14, op := Op.binOp BinOp.sub 3 (Operand.tmp 9) (Operand.tmp 13) 3, type := 3, pos := "pack.go:276", after := #[{ on := 4, ground := Ground.data }, { on := 8, ground := Ground.data }], guard := Option.none }) rfl (by kernel_rfl) (by kernel_rfl) (by kernel_rfl) (fun _ _ _ h => h) (Or.inl ⟨by rfl, _⟩) (by assumption) _
  rotate_left
  · (intro wS hSw; (try dsimp only at hSw); go_simp; try with_reducible rfl)
  try simp only [Act.put, List.setIfInBounds_toArray, List.set_cons_zero, List.set_cons_succ]
  refine' wpAnyH_take (i := 10) (oi := { dst := Option.some 2, op := Op.assign (Operand.tmp 14), type := 3, pos := "pack.go:276", after := #[{ on := 9, ground := Ground.data }, { on := 0, ground := Ground.phase }, { on := 1, ground := Ground.phase }, { on := 2, ground := Ground.phase }, { on := 3, ground := Ground.phase }, { on := 4, ground := Ground.phase }, { on := 5, ground := Ground.phase }, { on := 6, ground := Ground.phase }, { on := 7, ground := Ground.phase }, { on := 8, ground := Ground.phase }, { on := 9, ground := Ground.phase }], guard := Option.none }) rfl (by kernel_rfl) (by kernel_rfl) (by kernel_rfl) (fun _ _ _ h => h) (Or.inl ⟨by rfl, _⟩) (by assumption) _
  rotate_left
  · (intro wS hSw; (try dsimp only at hSw); go_simp; try with_reducible rfl)
  try simp only [Act.put, List.setIfInBounds_toArray, List.set_cons_zero, List.set_cons_succ]
  refine wpAnyH_done (by kernel_rfl) ?_ _
  go_wp2
  go_ret
  exact ⟨rfl, rfl⟩

theorem or_byte (x : Int) (b : UInt8) (hx : 0 ≤ x ∧ x < 72057594037927936) : bits .or .u64 (x * 256) (b.toNat : Int) = x * 256 + (b.toNat : Int) := by
  have hb := b.toNat_lt
  refine bits_join .u64 64 (by decide) ?_ 8 (x * 256) (b.toNat : Int) (by omega) (by omega) (by omega) (by omega) (by omega) (by omega)
  intro n h0 h1
  exact IntWalk.u64_in n (by omega)

/-- the number that some bytes are -/
def told (l : List UInt8) : Nat := l.foldl (fun n b => n * 256 + b.toNat) 0
theorem told_snoc (l : List UInt8) (b : UInt8) : told (l ++ [b]) = told l * 256 + b.toNat := by simp [told, List.foldl_append]
theorem told_lt (l : List UInt8) : told l < 256 ^ l.length := by
  have key : ∀ (r : List UInt8) (n : Nat), r.foldl (fun n b => n * 256 + b.toNat) n < (n + 1) * 256 ^ r.length := by
    intro r
    induction r with
    | nil => intro n; simp
    | cons b r ih =>
      intro n
      rw [List.foldl_cons, List.length_cons, Nat.pow_succ]
      refine Nat.lt_of_lt_of_le (ih _) ?_
      have := b.toNat_lt
      have h1 : n * 256 + b.toNat + 1 ≤ (n + 1) * 256 := by omega
      calc (n * 256 + b.toNat + 1) * 256 ^ r.length ≤ ((n + 1) * 256) * 256 ^ r.length := Nat.mul_le_mul_right _ h1
        _ = (n + 1) * (256 ^ r.length * 256) := by rw [Nat.mul_assoc, Nat.mul_comm 256]
  have := key l 0
  simpa [told] using this
/-- the bytes from a place on -/
def piece (s : ByteArray) (at_ n : Nat) : List UInt8 := (s.data.toList.drop at_).take n
theorem piece_length (s : ByteArray) (at_ n : Nat) (h : at_ + n ≤ s.size) : (piece s at_ n).length = n := by
  have hl : s.data.toList.length = s.size := by rw [Array.length_toList]; rfl
  unfold piece; rw [List.length_take, List.length_drop, hl]; omega
theorem piece_snoc (s : ByteArray) (at_ k : Nat) (h : at_ + k < s.size) : piece s at_ (k + 1) = piece s at_ k ++ [byteAt s (at_ + k)] := by
  have hl : s.data.toList.length = s.size := by rw [Array.length_toList]; rfl
  unfold piece
  rw [List.take_succ_eq_append_getElem (by rw [List.length_drop, hl]; omega), List.getElem_drop]
  congr 2
  unfold byteAt
  rw [List.getD_eq_getElem?_getD, List.getElem?_eq_getElem (by rw [hl]; omega)]
  rfl

set_option maxHeartbeats 2000000 in
theorem Take_uint32 (B p : Nat) (s : ByteArray) (at_ : Nat) (w : World) (h : Rd w B p s at_) (hs : at_ + 4 ≤ s.size) (hz : s.size ≤ 9223372036854775000) :
    Calls Try.prog 65 #[.pointer (some ⟨p, 0, none⟩)] w fun e w' => e = .returned (.int .u32 (told (piece s at_ 4) : Int)) ∧ Rd w' B p s (at_ + 4) ∧ Below B w w' := by
  go_enter Try.func65, Try.ntmps65
  go_wp2_with fail
  refine (Rdead_any B p s at_ _ h).mono ?_
  rintro e w1 ⟨rfl, rfl⟩
  go_wp2_with fail
  refine (width_uint32 _).mono ?_
  rintro e w1 ⟨rfl, rfl⟩
  go_wp2_with fail
  refine (Left_any B p s at_ _ h (by omega) (by omega)).mono ?_
  rintro e w1 ⟨rfl, rfl⟩
  have d1 : decide (((s.size - at_ : Nat) : Int) < 4) = false := by simp; omega
  go_wp2_with fail
  go_loopw [4, 20] (fun x i wr => ∃ (k : Nat) (X : Int), k ≤ 4 ∧ Hid (X = (told (piece s at_ k) : Int)) ∧ Hid (Rd wr B p s at_) ∧ Hid (Below B w wr) ∧ x = .int .u64 X ∧ i = .int .i64 k) (fun _ i _ => 4 - (intOf i).toNat)
  case atStart => exact ⟨0, 0, by omega, by simp [Hid, told, piece], h, (Below.refl _ _).drew, rfl, rfl⟩
  case round =>
    obtain ⟨k, X, hk, HX, HR, HB, rfl, rfl⟩ := hrel
    by_cases hlt : k < 4
    · have hX : 0 ≤ X ∧ X < 72057594037927936 := by
        have h1 := told_lt (piece s at_ k)
        rw [piece_length s at_ k (by omega)] at h1
        have h2 : 256 ^ k ≤ 256 ^ 7 := Nat.pow_le_pow_right (by decide) (by omega)
        have h3 : (256 : Nat) ^ 7 = 72057594037927936 := by decide
        have := HX.out
        omega
      have hik : at_ + k < s.size := by omega
      obtain ⟨b, hb⟩ : ∃ b : UInt8, s[at_ + k] = b := ⟨_, rfl⟩
      have hb2 : b.toNat < 256 := b.toNat_lt
      have HY : Hid (X * 256 + (b.toNat : Int) = (told (piece s at_ (k + 1)) : Int)) := by
        show _ = _
        rw [piece_snoc s at_ k hik, told_snoc, HX.out, ← byteAt_eq s _ hik, hb]; omega
      obtain ⟨c0, c1, c2, c3, c4⟩ := HR.out.cells
      clear c0 c3 c4
      go_wp2_with fail
      have i1 : IntKind.u64.wrap (X * 256) = X * 256 := IntWalk.u64_in _ (by omega)
      have i2 : IntKind.i64.wrap ((at_ : Int) + (k : Int)) = (at_ : Int) + (k : Int) := IntWalk.i64_in _ (by omega)
      have i3 : ((at_ : Int) + (k : Int)).toNat = at_ + k := by omega
      have i4 : 0 ≤ (at_ : Int) + (k : Int) := by omega
      have i5 : (at_ : Int) + (k : Int) < (s.size : Int) := by omega
      have i6 : IntKind.u64.wrap (b.toNat : Int) = (b.toNat : Int) := IntWalk.u64_in _ (by omega)
      have i7 := or_byte X b hX
      refine wp_region_held_drew (S := fun W => W.cell? ⟨p, 1, none⟩ = some (.string s) ∧ W.cell? ⟨p, 2, none⟩ = some (.int .i64 (at_ : Int))) (by kernel_rfl) ⟨c1, c2⟩ (fun hHeld => ?_)
      refine' wpAnyH_take (i := 0) (oi := { dst := Option.some 23, op := Op.move (Operand.tmp 4), type := 92, pos := "pack.go:162", after := #[], guard := Option.none }) rfl (by kernel_rfl) (by kernel_rfl) (by kernel_rfl) (fun _ _ _ h => h) (Or.inl ⟨by rfl, _⟩) (by assumption) _
      rotate_left
      · (intro wS hSw; (try dsimp only at hSw); go_simp; try with_reducible rfl)
      try simp only [Act.put, List.setIfInBounds_toArray, List.set_cons_zero, List.set_cons_succ]
      refine' wpAnyH_take (i := 1) (oi := { dst := Option.some 24, op := Op.binOp BinOp.shl 92 (Operand.tmp 23) (Operand.const (Value.int IntKind.u64 8)) 143, type := 92, pos := "pack.go:162", after := #[{ on := 0, ground := Ground.data }], guard := Option.none }) rfl (by kernel_rfl) (by kernel_rfl) (by kernel_rfl) (fun _ _ _ h => h) (Or.inl ⟨by rfl, _⟩) (by assumption) _
      rotate_left
      · (intro wS hSw; (try dsimp only at hSw); go_simp; try with_reducible rfl)
      try simp only [Act.put, List.setIfInBounds_toArray, List.set_cons_zero, List.set_cons_succ]
      refine' wpAnyH_take (i := 2) (oi := { dst := Option.some 25, op := Op.move (Operand.tmp 0), type := 111, pos := "pack.go:162", after := #[], guard := Option.none }) rfl (by kernel_rfl) (by kernel_rfl) (by kernel_rfl) (fun _ _ _ h => h) (Or.inl ⟨by rfl, _⟩) (by assumption) _
      rotate_left
      · (intro wS hSw; (try dsimp only at hSw); go_simp; try with_reducible rfl)
      try simp only [Act.put, List.setIfInBounds_toArray, List.set_cons_zero, List.set_cons_succ]
      refine' wpAnyH_take (i := 3) (oi := { dst := Option.some 26, op := Op.nilCheck (Operand.tmp 25), type := 0, pos := "pack.go:162", after := #[{ on := 2, ground := Ground.data }], guard := Option.none }) rfl (by kernel_rfl) (by kernel_rfl) (by kernel_rfl) (fun _ _ _ h => h) (Or.inl ⟨by rfl, _⟩) (by assumption) _
      rotate_left
      · (intro wS hSw; (try dsimp only at hSw); go_simp; try with_reducible rfl)
      try simp only [Act.put, List.setIfInBounds_toArray, List.set_cons_zero, List.set_cons_succ]
      refine' wpAnyH_take (i := 4) (oi := { dst := Option.some 27, op := Op.fieldAddr 145 (Operand.tmp 26) 1, type := 0, pos := "pack.go:162", after := #[{ on := 3, ground := Ground.data }], guard := Option.none }) rfl (by kernel_rfl) (by kernel_rfl) (by kernel_rfl) (fun _ _ _ h => h) (Or.inl ⟨by rfl, _⟩) (by assumption) _
      rotate_left
      · (intro wS hSw; (try dsimp only at hSw); go_simp; try with_reducible rfl)
      try simp only [Act.put, List.setIfInBounds_toArray, List.set_cons_zero, List.set_cons_succ]
      refine' wpAnyH_take (i := 5) (oi := { dst := Option.some 28, op := Op.load 9 (Operand.tmp 27), type := 9, pos := "pack.go:162", after := #[{ on := 4, ground := Ground.data }], guard := Option.none }) rfl (by kernel_rfl) (by kernel_rfl) (by kernel_rfl) (fun _ _ _ h => h) (Or.inl ⟨by rfl, _⟩) (by assumption) _
      rotate_left
      · (intro wS hSw; (try dsimp only at hSw); go_simp; try with_reducible rfl)
      try simp only [Act.put, List.setIfInBounds_toArray, List.set_cons_zero, List.set_cons_succ]
      refine' wpAnyH_take (i := 6) (oi := { dst := Option.some 29, op := Op.move (Operand.tmp 0), type := 111, pos := "pack.go:162", after := #[], guard := Option.none }) rfl (by kernel_rfl) (by kernel_rfl) (by kernel_rfl) (fun _ _ _ h => h) (Or.inl ⟨by rfl, _⟩) (by assumption) _
      rotate_left
      · (intro wS hSw; (try dsimp only at hSw); go_simp; try with_reducible rfl)
      try simp only [Act.put, List.setIfInBounds_toArray, List.set_cons_zero, List.set_cons_succ]
      refine' wpAnyH_take (i := 7) (oi := { dst := Option.some 30, op := Op.nilCheck (Operand.tmp 29), type := 0, pos := "pack.go:162", after := #[{ on := 6, ground := Ground.data }], guard := Option.none }) rfl (by kernel_rfl) (by kernel_rfl) (by kernel_rfl) (fun _ _ _ h => h) (Or.inl ⟨by rfl, _⟩) (by assumption) _
      rotate_left
      · (intro wS hSw; (try dsimp only at hSw); go_simp; try with_reducible rfl)
      try simp only [Act.put, List.setIfInBounds_toArray, List.set_cons_zero, List.set_cons_succ]
      refine' wpAnyH_take (i := 8) (oi := { dst := Option.some 31, op := Op.fieldAddr 145 (Operand.tmp 30) 2, type := 0, pos := "pack.go:162", after := #[{ on := 7, ground := Ground.data }], guard := Option.none }) rfl (by kernel_rfl) (by kernel_rfl) (by kernel_rfl) (fun _ _ _ h => h) (Or.inl ⟨by rfl, _⟩) (by assumption) _
      rotate_left
      · (intro wS hSw; (try dsimp only at hSw); go_simp; try with_reducible rfl)
      try simp only [Act.put, List.setIfInBounds_toArray, List.set_cons_zero, List.set_cons_succ]
      refine' wpAnyH_take (i := 9) (oi := { dst := Option.some 32, op := Op.load 3 (Operand.tmp 31), type := 3, pos := "pack.go:162", after := #[{ on := 8, ground := Ground.data }], guard := Option.none }) rfl (by kernel_rfl) (by kernel_rfl) (by kernel_rfl) (fun _ _ _ h => h) (Or.inl ⟨by rfl, _⟩) (by assumption) _
      rotate_left
      · (intro wS hSw; (try dsimp only at hSw); go_simp; try with_reducible rfl)
      try simp only [Act.put, List.setIfInBounds_toArray, List.set_cons_zero, List.set_cons_succ]
      refine' wpAnyH_take (i := 10) (oi := { dst := Option.some 33, op := Op.move (Operand.tmp 5), type := 3, pos := "pack.go:162", after := #[], guard := Option.none }) rfl (by kernel_rfl) (by kernel_rfl) (by kernel_rfl) (fun _ _ _ h => h) (Or.inl ⟨by rfl, _⟩) (by assumption) _
      rotate_left
      · (intro wS hSw; (try dsimp only at hSw); go_simp; try with_reducible rfl)
      try simp only [Act.put, List.setIfInBounds_toArray, List.set_cons_zero, List.set_cons_succ]
      refine' wpAnyH_take (i := 11) (oi := { dst := Option.some 34, op := Op.binOp BinOp.add 3 (Operand.tmp 32) (Operand.tmp 33) 3, type := 3, pos := "pack.go:162", after := #[{ on := 9, ground := Ground.data }, { on := 10, ground := Ground.data }], guard := Option.none }) rfl (by kernel_rfl) (by kernel_rfl) (by kernel_rfl) (fun _ _ _ h => h) (Or.inl ⟨by rfl, _⟩) (by assumption) _
      rotate_left
      · (intro wS hSw; (try dsimp only at hSw); go_simp; try with_reducible rfl)
      try simp only [Act.put, List.setIfInBounds_toArray, List.set_cons_zero, List.set_cons_succ]
      refine' wpAnyH_take (i := 12) (oi := { dst := Option.some 35, op := Op.index 9 (Operand.tmp 28) (Operand.tmp 34), type := 5, pos := "pack.go:162", after := #[{ on := 5, ground := Ground.data }, { on := 11, ground := Ground.data }], guard := Option.none }) rfl (by kernel_rfl) (by kernel_rfl) (by kernel_rfl) (fun _ _ _ h => h) (Or.inl ⟨by rfl, _⟩) (by assumption) _
      rotate_left
      · (intro wS hSw; (try dsimp only at hSw); go_simp; try with_reducible rfl)
      try simp only [Act.put, List.setIfInBounds_toArray, List.set_cons_zero, List.set_cons_succ]
      refine' wpAnyH_take (i := 13) (oi := { dst := Option.some 36, op := Op.convert 5 92 (Operand.tmp 35), type := 92, pos := "pack.go:162", after := #[{ on := 12, ground := Ground.data }], guard := Option.none }) rfl (by kernel_rfl) (by kernel_rfl) (by kernel_rfl) (fun _ _ _ h => h) (Or.inl ⟨by rfl, _⟩) (by assumption) _
      rotate_left
      · (intro wS hSw; (try dsimp only at hSw); go_simp; try with_reducible rfl)
      try simp only [Act.put, List.setIfInBounds_toArray, List.set_cons_zero, List.set_cons_succ]
      refine' wpAnyH_take (i := 14) (oi := { dst := Option.some 37, op := Op.binOp BinOp.or 92 (Operand.tmp 24) (Operand.tmp 36) 92, type := 92, pos := "pack.go:162", after := #[{ on := 1, ground := Ground.data }, { on := 13, ground := Ground.data }], guard := Option.none }) rfl (by kernel_rfl) (by kernel_rfl) (by kernel_rfl) (fun _ _ _ h => h) (Or.inl ⟨by rfl, _⟩) (by assumption) _
      rotate_left
      · (intro wS hSw; (try dsimp only at hSw); go_simp; try with_reducible rfl)
      try simp only [Act.put, List.setIfInBounds_toArray, List.set_cons_zero, List.set_cons_succ]
      refine' wpAnyH_take (i := 15) (oi := { dst := Option.some 4, op := Op.assign (Operand.tmp 37), type := 92, pos := "pack.go:162", after := #[{ on := 14, ground := Ground.data }, { on := 0, ground := Ground.phase }, { on := 1, ground := Ground.phase }, { on := 2, ground := Ground.phase }, { on := 3, ground := Ground.phase }, { on := 4, ground := Ground.phase }, { on := 5, ground := Ground.phase }, { on := 6, ground := Ground.phase }, { on := 7, ground := Ground.phase }, { on := 8, ground := Ground.phase }, { on := 9, ground := Ground.phase }, { on := 10, ground := Ground.phase }, { on := 11, ground := Ground.phase }, { on := 12, ground := Ground.phase }, { on := 13, ground := Ground.phase }, { on := 14, ground := Ground.phase }], guard := Option.none }) rfl (by kernel_rfl) (by kernel_rfl) (by kernel_rfl) (fun _ _ _ h => h) (Or.inl ⟨by rfl, _⟩) (by assumption) _
      rotate_left
      · (intro wS hSw; (try dsimp only at hSw); go_simp; try with_reducible rfl)
      try simp only [Act.put, List.setIfInBounds_toArray, List.set_cons_zero, List.set_cons_succ]
      refine wpAnyH_done (by kernel_rfl) ?_ _
      clear i1 i2 i3 i4 i5 i6 i7
      go_wp2
      go_roundw
      case rel => exact ⟨k + 1, _, by omega, HY.out, HR.out, HB.out.drew, rfl, by go_num⟩
      case measure => simp [intOf]; omega
    · have : k = 4 := by omega
      subst this
      have hXm : 0 ≤ X ∧ X < 4294967296 := by
        have h1 := told_lt (piece s at_ 4)
        rw [piece_length s at_ 4 (by omega)] at h1
        have h3 : (256 : Nat) ^ 4 = 4294967296 := by decide
        have := HX.out
        omega
      obtain ⟨c0, c1, c2, c3, c4⟩ := HR.out.cells
      clear c0 c1 c3
      go_wp2
      go_ret
      refine ⟨by rw [← HX.out]; rfl, ?_, HB.out.setCell h.1 _⟩
      have hm := HR.out.move (at_ + 4)
      have e1 : ((at_ + 4 : Nat) : Int) = (at_ : Int) + 4 := by omega
      rw [e1] at hm
      exact hm

end Go.Proofs.Ytkngmnfgdlnddaa
