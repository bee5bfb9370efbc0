/-
  The walks of pack.Writer.String, page.four, page.Write.
-/
import Derived.Test.YtfhfeaipdmcekaaPageW2
import Derived.Test.YtfhfeaipdmcekaaPackW
import Derived.Test.YtfhfeaipdmcekaaCrcW
import Derived.Deep.DeepCutAuto
import Derived.Deep.RegionWith
namespace Go.Proofs.Ytfhfeaipdmcekaa
open Go.RowKit Hw
set_option linter.unusedVariables false

def bstr (bs : List UInt8) : ByteArray := ⟨bs.toArray⟩
theorem bstr_size (bs : List UInt8) : (bstr bs).size = bs.length := by simp [bstr, ByteArray.size]
theorem bstr_list (bs : List UInt8) : (bstr bs).data.toList = bs := rfl

theorem bstr_append (x y : List UInt8) : bstr x ++ bstr y = bstr (x ++ y) := by
  apply ByteArray.ext
  simp [bstr, ByteArray.data_append]
theorem bstr_self (s : ByteArray) : bstr s.data.toList = s := by simp [bstr]

set_option maxHeartbeats 1000000 in
theorem WString_any (B p : Nat) (bs : List UInt8) (w : World) (hw : Wr w B p bs) :
    Calls Try.prog 53 #[.pointer (some ⟨p, 0, none⟩)] w fun e w' => e = .returned (.string (bstr bs)) ∧ w = w' := by
  obtain ⟨hB, sl, hp, hown⟩ := hw
  have c1 : w.cell? ⟨p, 1, none⟩ = some sl := by rw [heap_cell hp]; rfl
  have hc := conv_own hown
  clear hp hown
  go_enter Try.func53, Try.ntmps53
  go_wp2
  go_ret
  exact ⟨rfl, rfl⟩

set_option maxHeartbeats 1000000 in
theorem four_any (n : Int) (w : World) (hn : 0 ≤ n ∧ n < 4294967296) :
    Calls Try.prog 39 #[.int .u32 n] w fun e w' => e = .returned (.string (bstr (be 4 n.toNat))) ∧ Below w.heap.size w w' := by
  go_enter Try.func39, Try.ntmps39
  go_wp2_with fail
  refine (New_any _).mono ?_
  rintro e w1 ⟨rfl, rfl⟩
  go_wp2_with fail
  refine (Put_uint32 _ w.heap.size _ [] _ hn (Wr.new w) (by simp)).mono ?_
  rintro e w2 ⟨rfl, hw2, hb2⟩
  go_wp2_with fail
  refine (WString_any _ _ _ _ hw2).mono ?_
  rintro e w3 ⟨rfl, rfl⟩
  go_wp2_with fail
  go_ret
  exact ⟨rfl, ((Below.refl _ _).alloc (Nat.le_refl _) _).trans hb2⟩

/-- the bytes ahead of the sum, the body with its noughts -/
def headOf (k n r : Int) (len : Nat) : List UInt8 := be 4 1213681735 ++ (be 1 1 ++ (be 1 k.toNat ++ (be 2 len ++ (be 4 n.toNat ++ (be 4 0 ++ (be 8 r.toNat ++ be 4 0))))))
def bodyOf (a : Int) (s : List UInt8) : List UInt8 := s ++ List.replicate (a - 32 - s.length).toNat 0
def formOf (a k n r : Int) (s : List UInt8) : List UInt8 :=
  headOf k n r s.length ++ be 4 (crcOf (headOf k n r s.length ++ bodyOf a s)).toNat ++ bodyOf a s

def writeS (a b k n r : Int) (s : ByteArray) : ByteArray := if checkI a b k n r s.size = 0 then bstr (formOf a k n r s.data.toList) else ⟨#[]⟩

theorem write_val {a b k n r : Int} (hd cs bd s : ByteArray) (m : Nat) (hc : checkI a b k n r s.size = 0) (hm : (m : Int) = a - 32 - (s.size : Int))
    (hhd : bstr (be 4 1213681735 ++ (be 1 1 ++ (be 1 k.toNat ++ (be 2 s.size ++ (be 4 n.toNat ++ (be 4 0 ++ (be 8 r.toNat ++ be 4 0))))))) = hd)
    (hbd : s ++ (⟨Array.replicate m 0⟩ : ByteArray) = bd) (hcs : bstr (be 4 (toU (crcOf (hd.data.toList ++ bd.data.toList))).toNat) = cs) : hd ++ cs ++ bd = writeS a b k n r s := by
  have hl : s.data.toList.length = s.size := by rw [Array.length_toList]; rfl
  have hr0 : (⟨Array.replicate m 0⟩ : ByteArray) = bstr (List.replicate m 0) := by
    unfold bstr
    rw [List.toArray_replicate]
  have hs : s ++ (⟨Array.replicate m 0⟩ : ByteArray) = bstr (bodyOf a s.data.toList) := by
    rw [bodyOf, ← bstr_append, bstr_self, hl, ← hm, Int.toNat_natCast, hr0]
  have ht : ∀ x : BitVec 32, (toU x).toNat = x.toNat := fun x => by unfold toU; exact Int.toNat_natCast _
  rw [writeS, if_pos hc, ← hcs, ← hhd, ← hbd, hs, bstr_list, bstr_list, ht, bstr_append, bstr_append, formOf, headOf, hl]

set_option maxHeartbeats 4000000 in
theorem Write_any (a b k n r : Int) (s : ByteArray) (w : World) (ha : -9223372036854775808 ≤ a ∧ a ≤ 9223372036854775807) (hk : 0 ≤ k ∧ k < 256) (hn : 0 ≤ n ∧ n < 4294967296) (hr : 0 ≤ r ∧ r < 18446744073709551616) (hs : s.size ≤ 9223372036854775807) :
    Calls Try.prog 21 #[.agg #[.int .i64 a, .int .i64 b], .agg #[.int .u8 k, .int .u32 n, .int .u64 r, .string s]] w fun e w' =>
      e = .returned (.tuple #[.string (writeS a b k n r s), .int .i64 (checkI a b k n r s.size)]) ∧ Below w.heap.size w w' := by
  have H0 : Below w.heap.size w ((w.alloc (.cells #[.int .i64 a, .int .i64 b] 23)).alloc (.cells #[.int .u8 k, .int .u32 n, .int .u64 r, .string s] 28)) := ((Below.refl _ _).alloc (Nat.le_refl _) _).alloc (by simp) _
  have step : ∀ (w1 : World), Below ((w.alloc (.cells #[.int .i64 a, .int .i64 b] 23)).alloc (.cells #[.int .u8 k, .int .u32 n, .int .u64 r, .string s] 28)).heap.size ((w.alloc (.cells #[.int .i64 a, .int .i64 b] 23)).alloc (.cells #[.int .u8 k, .int .u32 n, .int .u64 r, .string s] 28)) w1 →
      Hid (Below w.heap.size w w1) ∧ w.heap.size + 1 < w1.heap.size ∧ w1.cell? ⟨w.heap.size, 0, none⟩ = some (.int .i64 a) ∧ w1.cell? ⟨w.heap.size, 1, none⟩ = some (.int .i64 b) ∧ w1.cell? ⟨w.heap.size + 1, 0, none⟩ = some (.int .u8 k) ∧
      w1.cell? ⟨w.heap.size + 1, 1, none⟩ = some (.int .u32 n) ∧ w1.cell? ⟨w.heap.size + 1, 2, none⟩ = some (.int .u64 r) ∧ w1.cell? ⟨w.heap.size + 1, 3, none⟩ = some (.string s) := by
    intro w1 hb1
    have hz := hb1.size
    simp only [World.size_alloc] at hz
    exact ⟨H0.trans (hb1.mono (by simp only [World.size_alloc]; omega)), by omega, cellB hb1 (by simp only [World.size_alloc]; omega) (by go_simp), cellB hb1 (by simp only [World.size_alloc]; omega) (by go_simp), cellB hb1 (by simp only [World.size_alloc]; omega) (by go_simp), cellB hb1 (by simp only [World.size_alloc]; omega) (by go_simp), cellB hb1 (by simp only [World.size_alloc]; omega) (by go_simp), cellB hb1 (by simp only [World.size_alloc]; omega) (by go_simp)⟩
  have HC := Lib.hid (Check_any a b k n r s)
  by_cases hc : checkI a b k n r s.size = 0
  · have hz0 := checkI_zero hc
    have Hc := Lib.hid hc
    have hp := mayB_page hz0.1
    have hp1 : 1024 ≤ a ∧ a ≤ 8192 := by omega
    have hsz : (s.size : Int) ≤ a - 32 := by omega
    have hsz2 : s.size ≤ 8160 := by omega
    clear hc hz0 hp
    go_enter Try.func21, Try.ntmps21
    go_wp2_with fail
    refine (HC.out _ ha hk hn hr hs).mono ?_
    rintro e w1 ⟨rfl, hb1⟩
    rw [Hc.out]
    obtain ⟨hb, hz, c0, c1, c2, c3, c4, c5⟩ := step w1 hb1
    clear hb1 step
    go_wp2_with fail
    refine (New_any _).mono ?_
    rintro e w2 ⟨rfl, rfl⟩
    have hw2 := Wr.new w1
    have step2 : ∀ (w2 : World), Below w1.heap.size w1 w2 → w1.heap.size ≤ w2.heap.size ∧ w2.cell? ⟨w.heap.size, 0, none⟩ = some (.int .i64 a) ∧ w2.cell? ⟨w.heap.size, 1, none⟩ = some (.int .i64 b) ∧ w2.cell? ⟨w.heap.size + 1, 0, none⟩ = some (.int .u8 k) ∧
        w2.cell? ⟨w.heap.size + 1, 1, none⟩ = some (.int .u32 n) ∧ w2.cell? ⟨w.heap.size + 1, 2, none⟩ = some (.int .u64 r) ∧ w2.cell? ⟨w.heap.size + 1, 3, none⟩ = some (.string s) :=
      fun w2 h => ⟨h.size, cellB h (by omega) c0, cellB h (by omega) c1, cellB h (by omega) c2, cellB h (by omega) c3, cellB h (by omega) c4, cellB h (by omega) c5⟩
    have hB2 := Lib.hid ((Below.refl w1.heap.size w1).alloc (Nat.le_refl _) (.cells #[.bool true, .slice none 0 0] 129))
    clear c0 c1 c2 c3 c4 c5
    go_wp2_with fail
    refine (Put_uint32 _ w1.heap.size _ _ _ (by omega) hw2 (by simp)).mono ?_
    rintro e w3 ⟨rfl, hw3, hb3⟩
    have hB3 := Lib.hid (hB2.out.trans hb3)
    obtain ⟨e0, e1, e2, e3, e4, e5, e6⟩ := step2 w3 hB3.out
    clear hw2 hb3 hB2
    go_wp2_with fail
    clear e0 e1 e2 e3 e4 e5 e6
    refine (Put_uint8 _ w1.heap.size _ _ _ (by omega) hw3 (by simp [be_length])).mono ?_
    rintro e w4 ⟨rfl, hw4, hb4⟩
    have hB4 := Lib.hid (hB3.out.trans hb4)
    obtain ⟨e0, e1, e2, e3, e4, e5, e6⟩ := step2 w4 hB4.out
    clear hw3 hb4 hB3
    go_wp2_with fail
    clear e0 e1 e2 e3 e4 e5 e6
    refine (Put_PageKind _ w1.heap.size _ _ _ (by omega) hw4 (by simp [be_length])).mono ?_
    rintro e w5 ⟨rfl, hw5, hb5⟩
    have hB5 := Lib.hid (hB4.out.trans hb5)
    obtain ⟨e0, e1, e2, e3, e4, e5, e6⟩ := step2 w5 hB5.out
    clear hw4 hb5 hB4
    go_wp2_with fail
    clear e0 e1 e2 e3 e4 e5 e6
    refine (Put_uint16 _ w1.heap.size _ _ _ (by omega) hw5 (by simp [be_length])).mono ?_
    rintro e w6 ⟨rfl, hw6, hb6⟩
    have hB6 := Lib.hid (hB5.out.trans hb6)
    obtain ⟨e0, e1, e2, e3, e4, e5, e6⟩ := step2 w6 hB6.out
    clear hw5 hb6 hB5
    go_wp2_with fail
    clear e0 e1 e2 e3 e4 e5 e6
    refine (Put_uint32 _ w1.heap.size _ _ _ (by omega) hw6 (by simp [be_length])).mono ?_
    rintro e w7 ⟨rfl, hw7, hb7⟩
    have hB7 := Lib.hid (hB6.out.trans hb7)
    obtain ⟨e0, e1, e2, e3, e4, e5, e6⟩ := step2 w7 hB7.out
    clear hw6 hb7 hB6
    go_wp2_with fail
    clear e0 e1 e2 e3 e4 e5 e6
    refine (Put_uint32 _ w1.heap.size _ _ _ (by omega) hw7 (by simp [be_length])).mono ?_
    rintro e w8 ⟨rfl, hw8, hb8⟩
    have hB8 := Lib.hid (hB7.out.trans hb8)
    obtain ⟨e0, e1, e2, e3, e4, e5, e6⟩ := step2 w8 hB8.out
    clear hw7 hb8 hB7
    go_wp2_with fail
    clear e0 e1 e2 e3 e4 e5 e6
    refine (Put_uint64 _ w1.heap.size _ _ _ (by omega) hw8 (by simp [be_length])).mono ?_
    rintro e w9 ⟨rfl, hw9, hb9⟩
    have hB9 := Lib.hid (hB8.out.trans hb9)
    obtain ⟨e0, e1, e2, e3, e4, e5, e6⟩ := step2 w9 hB9.out
    clear hw8 hb9 hB8
    go_wp2_with fail
    clear e0 e1 e2 e3 e4 e5 e6
    refine (Put_uint32 _ w1.heap.size _ _ _ (by omega) hw9 (by simp [be_length])).mono ?_
    rintro e w10 ⟨rfl, hw10, hb10⟩
    have hB10 := Lib.hid (hB9.out.trans hb10)
    obtain ⟨e0, e1, e2, e3, e4, e5, e6⟩ := step2 w10 hB10.out
    clear hw9 hb10 hB9
    go_wp2_with fail
    refine (WString_any _ _ _ _ hw10).mono ?_
    rintro e w11 ⟨rfl, rfl⟩
    have hB11 := hB10
    go_wp2_with fail
    obtain ⟨m, hm⟩ : ∃ m : Nat, (m : Int) = a - 32 - (s.size : Int) := ⟨(a - 32 - (s.size : Int)).toNat, by omega⟩
    have hmk := run_makeB m (by omega)
    have hcv := conv_made m (by omega)
    have hwr : IntKind.i64.wrap (a - 32 - (s.size : Int)) = (m : Int) := by rw [← hm, IntKind.wrap_i64]; omega
    have Hm := Lib.hid hm
    have hm3 : m ≤ 8160 := by omega
    have hBW := Lib.hid (hb.out.trans (hB11.out.mono (by omega)))
    have hzW : w.heap.size + 1 < w10.heap.size := by omega
    clear hm e0 e3 e4 e5
    have hnl : ¬ (9223372036854775807 < s.size + m) := by omega
    refine wp_region_held_drew (S := fun W => W.cell? ⟨w.heap.size, 0, none⟩ = some (.int .i64 a) ∧ W.cell? ⟨w.heap.size, 1, none⟩ = some (.int .i64 b) ∧ W.cell? ⟨w.heap.size + 1, 3, none⟩ = some (.string s) ∧ Below w.heap.size w W ∧ w.heap.size + 1 < W.heap.size) (by kernel_rfl) ⟨e1, e2, e6, hBW.out.drew, hzW⟩ (fun hHeld => ?_)
    refine' wpAnyH_take (i := 0) (oi := { dst := Option.some 45, op := Op.fieldAddr 28 (Operand.tmp 3) 3, type := 0, pos := "page.go:75", after := #[], guard := Option.none }) rfl (by kernel_rfl) (by kernel_rfl) (by kernel_rfl) (fun _ _ _ h => h) (Or.inl ⟨by rfl, _⟩) (by assumption) _
    rotate_left
    · (intro wS hSw; (try dsimp only at hSw); go_simp; try with_reducible rfl)
    try simp only [Act.put, List.setIfInBounds_toArray, List.set_cons_zero, List.set_cons_succ]
    refine' wpAnyH_take (i := 1) (oi := { dst := Option.some 46, op := Op.load 9 (Operand.tmp 45), type := 9, pos := "page.go:75", after := #[{ on := 0, ground := Ground.data }], guard := Option.none }) rfl (by kernel_rfl) (by kernel_rfl) (by kernel_rfl) (fun _ _ _ h => h) (Or.inl ⟨by rfl, _⟩) (by assumption) _
    rotate_left
    · (intro wS hSw; (try dsimp only at hSw); go_simp; try with_reducible rfl)
    try simp only [Act.put, List.setIfInBounds_toArray, List.set_cons_zero, List.set_cons_succ]
    refine' wpAnyH_take (i := 2) (oi := { dst := Option.some 47, op := Op.load 23 (Operand.tmp 2), type := 23, pos := "page.go:75", after := #[], guard := Option.none }) rfl (by kernel_rfl) (by kernel_rfl) (by kernel_rfl) (fun _ _ _ h => h) (Or.inl ⟨by rfl, _⟩) (by assumption) _
    rotate_left
    · (intro wS hSw; (try dsimp only at hSw); go_simp; try with_reducible rfl)
    try simp only [Act.put, List.setIfInBounds_toArray, List.set_cons_zero, List.set_cons_succ]
    refine' wpAnyH_take (i := 4) (oi := { dst := Option.some 49, op := Op.fieldAddr 28 (Operand.tmp 3) 3, type := 0, pos := "page.go:75", after := #[], guard := Option.none }) rfl (by kernel_rfl) (by kernel_rfl) (by kernel_rfl) (fun _ _ _ h => h) (Or.inl ⟨by rfl, _⟩) (by assumption) _
    rotate_left
    · (intro wS hSw; (try dsimp only at hSw); go_simp; try with_reducible rfl)
    try simp only [Act.put, List.setIfInBounds_toArray, List.set_cons_zero, List.set_cons_succ]
    refine' wpAnyH_take (i := 5) (oi := { dst := Option.some 50, op := Op.load 9 (Operand.tmp 49), type := 9, pos := "page.go:75", after := #[{ on := 4, ground := Ground.data }], guard := Option.none }) rfl (by kernel_rfl) (by kernel_rfl) (by kernel_rfl) (fun _ _ _ h => h) (Or.inl ⟨by rfl, _⟩) (by assumption) _
    rotate_left
    · (intro wS hSw; (try dsimp only at hSw); go_simp; try with_reducible rfl)
    try simp only [Act.put, List.setIfInBounds_toArray, List.set_cons_zero, List.set_cons_succ]
    refine' wpAnyH_take (i := 6) (oi := { dst := Option.some 51, op := Op.call { callee := Callee.builtin Builtin.len, args := #[Operand.tmp 50], argTypes := #[9] }, type := 3, pos := "page.go:75", after := #[{ on := 5, ground := Ground.data }], guard := Option.none }) rfl (by kernel_rfl) (by kernel_rfl) (by kernel_rfl) (fun _ _ _ h => h) (Or.inl ⟨by rfl, _⟩) (by assumption) _
    rotate_left
    · (intro wS hSw; (try dsimp only at hSw); go_simp; try with_reducible rfl)
    try simp only [Act.put, List.setIfInBounds_toArray, List.set_cons_zero, List.set_cons_succ]
    refine wpAnyH_ready (rs := [3]) (by kernel_rfl) (by simp) ?_
    refine AllReadyH.cons (o := { dst := Option.some 48, op := Op.call { callee := Callee.value (Operand.func 38), args := #[Operand.tmp 47], argTypes := #[23] }, type := 3, pos := "page.go:75", after := #[{ on := 2, ground := Ground.data }], guard := Option.none }) rfl (fun K hK => ?_) AllReadyH.nil
    go_simp
    (go_at_call 38; refine (Room_any _ _ _ (by omega)).mono ?_; rintro e w12 ⟨rfl, hb12⟩)
    refine hK.out _ _ ?_ (fun hHeld => ?_)
    · (go_split_ands; exact ⟨cellB hb12 (by simp only [World.size_drew]; omega) (by assumption), cellB hb12 (by simp only [World.size_drew]; omega) (by assumption), cellB hb12 (by simp only [World.size_drew]; omega) (by assumption), Below.trans (by assumption) (hb12.mono (by simp only [World.size_drew]; omega)), Nat.lt_of_lt_of_le (by assumption) hb12.size⟩)
    clear hK K
    try simp only [Act.put, List.setIfInBounds_toArray, List.set_cons_zero, List.set_cons_succ]
    refine' wpAnyH_take (i := 7) (oi := { dst := Option.some 52, op := Op.binOp BinOp.sub 3 (Operand.tmp 48) (Operand.tmp 51) 3, type := 3, pos := "page.go:75", after := #[{ on := 3, ground := Ground.data }, { on := 6, ground := Ground.data }], guard := Option.none }) rfl (by kernel_rfl) (by kernel_rfl) (by kernel_rfl) (fun _ _ _ h => h) (Or.inl ⟨by rfl, _⟩) (by assumption) _
    rotate_left
    · (intro wS hSw; (try dsimp only at hSw); go_simp; try with_reducible rfl)
    try simp only [Act.put, List.setIfInBounds_toArray, List.set_cons_zero, List.set_cons_succ]
    refine wpAnyH_ready (rs := [8]) (by kernel_rfl) (by simp) ?_
    refine AllReadyH.cons (o := { dst := Option.some 53, op := Op.makeSlice 43 (Operand.tmp 52) (Operand.tmp 52), type := 43, pos := "page.go:75", after := #[{ on := 7, ground := Ground.data }, { on := 7, ground := Ground.data }], guard := Option.none }) rfl (fun K hK => ?_) AllReadyH.nil
    go_simp
    refine hK.out _ _ ?_ (fun hHeld => ?_)
    · (go_split_ands; exact ⟨cellA (by assumption), cellA (by assumption), cellA (by assumption), Below.alloc (by assumption) (by omega) _, by simp only [World.size_alloc]; omega⟩)
    clear hK K
    try simp only [Act.put, List.setIfInBounds_toArray, List.set_cons_zero, List.set_cons_succ]
    refine wpAnyH_ready (rs := [9]) (by kernel_rfl) (by simp) ?_
    refine AllReadyH.cons (o := { dst := Option.some 54, op := Op.convert 43 9 (Operand.tmp 53), type := 9, pos := "page.go:75", after := #[{ on := 8, ground := Ground.data }], guard := Option.none }) rfl (fun K hK => ?_) AllReadyH.nil
    go_simp
    refine hK.out _ _ ?_ (fun hHeld => ?_)
    · assumption
    clear hK K
    try simp only [Act.put, List.setIfInBounds_toArray, List.set_cons_zero, List.set_cons_succ]
    refine' wpAnyH_take (i := 10) (oi := { dst := Option.some 55, op := Op.binOp BinOp.add 9 (Operand.tmp 46) (Operand.tmp 54) 9, type := 9, pos := "page.go:75", after := #[{ on := 1, ground := Ground.data }, { on := 9, ground := Ground.data }], guard := Option.none }) rfl (by kernel_rfl) (by kernel_rfl) (by kernel_rfl) (fun _ _ _ h => h) (Or.inl ⟨by rfl, _⟩) (by assumption) _
    rotate_left
    · (intro wS hSw; (try dsimp only at hSw); go_simp; try with_reducible rfl)
    try simp only [Act.put, List.setIfInBounds_toArray, List.set_cons_zero, List.set_cons_succ]
    refine' wpAnyH_take (i := 11) (oi := { dst := Option.some 9, op := Op.assign (Operand.tmp 55), type := 9, pos := "page.go:75", after := #[{ on := 10, ground := Ground.data }, { on := 3, ground := Ground.chain }, { on := 0, ground := Ground.phase }, { on := 1, ground := Ground.phase }, { on := 2, ground := Ground.phase }, { on := 3, ground := Ground.phase }, { on := 4, ground := Ground.phase }, { on := 5, ground := Ground.phase }, { on := 6, ground := Ground.phase }, { on := 7, ground := Ground.phase }, { on := 8, ground := Ground.phase }, { on := 9, ground := Ground.phase }, { on := 10, ground := Ground.phase }], guard := Option.none }) rfl (by kernel_rfl) (by kernel_rfl) (by kernel_rfl) (fun _ _ _ h => h) (Or.inl ⟨by rfl, _⟩) (by assumption) _
    rotate_left
    · (intro wS hSw; (try dsimp only at hSw); go_simp; try with_reducible rfl)
    try simp only [Act.put, List.setIfInBounds_toArray, List.set_cons_zero, List.set_cons_succ]
    refine wpAnyH_done (by kernel_rfl) ?_ _
    have hH := hHeld
    clear hHeld
    have hBy := Lib.hid hH.2.2.2.1
    clear hH
    go_wp2_with fail
    generalize hhd : bstr (be 4 1213681735 ++ (be 1 1 ++ (be 1 k.toNat ++ (be 2 s.size ++ (be 4 n.toNat ++ (be 4 0 ++ (be 8 r.toNat ++ be 4 0))))))) = hd
    generalize hbd : s ++ (⟨Array.replicate m 0⟩ : ByteArray) = bd
    have hs1 : hd.size ≤ 28 := by rw [← hhd, bstr_size]; simp [be_length]
    have hs2 : bd.size ≤ 8160 := by rw [← hbd]; rw [ByteArray.size_append]; show s.size + (Array.replicate m (0 : UInt8)).size ≤ 8160; rw [Array.size_replicate]; have := Hm.out; omega
    have Hhd := Lib.hid hhd
    have Hbd := Lib.hid hbd
    clear hhd hbd
    refine (crc_any _ [hd, bd] _ (StrRow.two _ hd bd _ _ (by simp only [World.size_alloc])) (by simp) (by intro x hx; simp at hx; rcases hx with rfl | rfl <;> omega)).mono ?_
    rintro e w14 ⟨rfl, rfl⟩
    rw [crcParts_two]
    go_wp2_with fail
    refine (four_any _ _ (toU_bd _)).mono ?_
    rintro e w15 ⟨rfl, hb15⟩
    generalize hcs : bstr (be 4 (toU (crcOf (hd.data.toList ++ bd.data.toList))).toNat) = cs
    have hs3 : cs.size ≤ 4 := by rw [← hcs, bstr_size, be_length]; exact Nat.le_refl _
    have Hcs := Lib.hid hcs
    clear hcs
    have hn1 : ¬ (9223372036854775807 < hd.size + cs.size) := by omega
    have hn2 : ¬ (9223372036854775807 < (hd ++ cs).size + bd.size) := by rw [ByteArray.size_append]; omega
    have hn3 : ¬ (9223372036854775807 < hd.size + cs.size + bd.size) := by omega
    go_wp2_with fail
    go_ret2
    refine ⟨?_, (hBy.out.alloc (by simp only [World.size_alloc]; omega) _).trans (hb15.mono (by simp only [World.size_alloc]; omega))⟩
    rw [Hc.out, ← write_val hd cs bd s m Hc.out Hm.out Hhd.out Hbd.out Hcs.out]
    rfl
  · have Hc := Lib.hid hc
    obtain ⟨c, hcc⟩ : ∃ c, checkI a b k n r s.size = c := ⟨_, rfl⟩
    have hc0 : (c != 0) = true := by rw [bne_iff_ne]; rw [← hcc]; exact hc
    have Hcc := Lib.hid hcc
    clear hc hcc
    go_enter Try.func21, Try.ntmps21
    go_wp2_with fail
    refine (HC.out _ ha hk hn hr hs).mono ?_
    rintro e w1 ⟨rfl, hb1⟩
    rw [Hcc.out]
    obtain ⟨hb, hz, c0, c1, c2, c3, c4, c5⟩ := step w1 hb1
    clear hb1 step
    go_wp2_with fail
    go_ret2
    exact ⟨by rw [writeS, if_neg Hc.out, Hcc.out]; rfl, hb.out⟩
end Go.Proofs.Ytfhfeaipdmcekaa
