/-
  The walks of the reference's number, noughts, Write.
-/
import Derived.Test.YtfhfeaipdmcekaaPageW3
namespace Go.Proofs.Ytfhfeaipdmcekaa
open Go.RowKit Hw
set_option linter.unusedVariables false
attribute [local go_sem] bstr_size be_length

theorem byte_of' (n : Int) (h0 : 0 ≤ n ∧ n < 18446744073709551616) (j : Nat) : n / 2 ^ (8 * j) % 256 = ((UInt8.ofNat (n.toNat / 256 ^ j % 256)).toNat : Int) := byte_of n h0.1 j

set_option maxHeartbeats 1000000 in
theorem number_any (n K : Int) (w : World) (hn : 0 ≤ n ∧ n < 18446744073709551616) (hK : 0 ≤ K ∧ K ≤ 8) :
    Calls Try.prog 54 #[.int .u64 n, .int .i64 K] w fun e w' => e = .returned (.string (bstr (be K.toNat n.toNat))) ∧ Below w.heap.size w w' := by
  obtain ⟨N, rfl⟩ := Int.eq_ofNat_of_zero_le hK.1
  rw [Int.toNat_natCast]
  go_enter Try.func54, Try.ntmps54
  go_wp2
  go_loopw [5, 6] (fun v i wr => ∃ (k : Nat) (I : Int), k ≤ N ∧ Hid (OwnB wr w.heap.size v ((be N n.toNat).take k)) ∧ Hid (Below w.heap.size w wr) ∧ Hid (I = (N : Int) - 1 - (k : Int)) ∧ i = .int .i64 I) (fun _ i _ => (intOf i + 1).toNat)
  case atStart => exact ⟨0, _, by omega, OwnB.nil _ _, Below.refl _ _, by show _ = _; omega, rfl⟩
  case round =>
    obtain ⟨k, I, hk, HO, HB, HI, rfl⟩ := hrel
    by_cases hlt : k < N
    · have hI : 0 ≤ I ∧ I < 8 := by have := HI.out; omega
      have d0 : decide ((0 : Int) ≤ I) = true := by simp; omega
      obtain ⟨b, hb⟩ : ∃ b : UInt8, n / 2 ^ (8 * I).toNat % 256 = (b.toNat : Int) := ⟨UInt8.ofNat (n.toNat / 256 ^ (N - 1 - k) % 256), by
        have e1 : (8 * I).toNat = 8 * (N - 1 - k) := by have := HI.out; omega
        rw [e1]; exact byte_of n hn.1 _⟩
      have Hb : Hid ((be N n.toNat).take (k + 1) = (be N n.toNat).take k ++ [b]) := by
        show _ = _
        rw [be_take_succ _ _ _ hlt]
        have e1 : (8 * I).toNat = 8 * (N - 1 - k) := by have := HI.out; omega
        rw [e1, byte_of n hn.1 _] at hb
        have h10 : UInt8.ofNat (n.toNat / 256 ^ (N - 1 - k) % 256) = b := UInt8.toNat_inj.1 (by omega)
        rw [h10]
      obtain ⟨bs', hbs⟩ : ∃ bs', bs' = (be N n.toNat).take k := ⟨_, rfl⟩
      rw [← hbs] at HO
      have hl' : bs'.length ≤ 2000000 := by rw [hbs]; simp [be_length]; omega
      have HS := Lib.hid hbs
      have HBw := HB.out.size
      clear hbs
      go_wp2_with (at_builtin; refine wpList_appB _ rfl _ _ rfl w.heap.size _ bs' rfl (HO.out.alloc _) ⟨wr.heap.size, 0, none⟩ 1 [b] rfl (app_cell1 _ _ _) (by simp) (by simp only [List.length_singleton]; omega) (by simp only [World.size_alloc]; omega) (wr.heap.size + 1) (by simp) ?_; intro g cap w2 hown2 hg2 hat hlt2)
      go_roundw
      case rel => exact ⟨k + 1, _, by omega, by have h := hown2; rw [show bs' ++ [b] = (be N n.toNat).take (k + 1) from by rw [HS.out, Hb.out]] at h; exact h, (HB.out.alloc (by omega) _).grown hg2 (by simp only [World.size_alloc]; omega) (fun k hk => (HO.out.lt k hk).1), by show _ = _; have := HI.out; omega, rfl⟩
      case measure => simp [intOf]; omega
    · have d0 : decide ((0 : Int) ≤ I) = false := by have := HI.out; simp; omega
      have : k = N := by omega
      subst this
      rw [List.take_of_length_le (by rw [be_length]; exact Nat.le_refl _)] at HO
      have hc := conv_own HO.out
      go_wp2
      go_ret
      exact ⟨rfl, HB.out⟩

set_option maxHeartbeats 1000000 in
theorem noughts_any (n : Int) (w : World) (hn : 0 ≤ n ∧ n ≤ 100000) :
    Calls Try.prog 55 #[.int .i64 n] w fun e w' => e = .returned (.string (bstr (List.replicate n.toNat 0))) ∧ Below w.heap.size w w' := by
  obtain ⟨m, rfl⟩ := Int.eq_ofNat_of_zero_le hn.1
  rw [Int.toNat_natCast]
  have hmk := run_makeB m (by omega)
  have hcv : ∀ w : World, (convert 43 9 (.slice (some ⟨w.heap.size, 0, none⟩) m m)).run Try.prog (w.alloc (.cells (zeroRow m) 5)) = .ok (.string (bstr (List.replicate m 0))) (w.alloc (.cells (zeroRow m) 5)) := conv_made m (by omega)
  go_enter Try.func55, Try.ntmps55
  go_wp2
  go_ret
  exact ⟨rfl, (Below.refl _ _).alloc (Nat.le_refl _) _⟩

theorem refHead (k n r : Int) (len : Nat) : bstr (be 4 1213681735 ++ (be 1 1 ++ (be 1 k.toNat ++ (be 2 len ++ (be 4 n.toNat ++ (be 4 0 ++ (be 8 r.toNat ++ be 4 0))))))) =
    (⟨#[72, 87, 80, 71, 1]⟩ : ByteArray) ++ bstr (be 1 k.toNat) ++ bstr (be 2 len) ++ bstr (be 4 n.toNat) ++ bstr [0, 0, 0, 0] ++ bstr (be 8 r.toNat) ++ bstr [0, 0, 0, 0] := by
  have e1 : (⟨#[72, 87, 80, 71, 1]⟩ : ByteArray) = bstr (be 4 1213681735 ++ be 1 1) := by decide +kernel
  have e2 : be 4 0 = [0, 0, 0, 0] := by decide +kernel
  rw [e1, e2]
  simp only [bstr_append, List.append_assoc]

set_option maxHeartbeats 4000000 in
theorem refWrite_any (a b k n r : Int) (s : ByteArray) (w : World) (ha : -9223372036854775808 ≤ a ∧ a ≤ 9223372036854775807) (hk : 0 ≤ k ∧ k < 256) (hn : 0 ≤ n ∧ n < 4294967296) (hr : 0 ≤ r ∧ r < 18446744073709551616) (hs : s.size ≤ 9223372036854775807) :
    Calls Try.prog 23 #[.agg #[.int .i64 a, .int .i64 b], .agg #[.int .u8 k, .int .u32 n, .int .u64 r, .string s]] w fun e w' =>
      e = .returned (.tuple #[.string (writeS a b k n r s), .int .i64 (checkI a b k n r s.size)]) ∧ Below w.heap.size w w' := by
  have H0 : Below w.heap.size w ((w.alloc (.cells #[.int .i64 a, .int .i64 b] 23)).alloc (.cells #[.int .u8 k, .int .u32 n, .int .u64 r, .string s] 28)) := ((Below.refl _ _).alloc (Nat.le_refl _) _).alloc (by simp) _
  have step : ∀ (w1 : World), Below ((w.alloc (.cells #[.int .i64 a, .int .i64 b] 23)).alloc (.cells #[.int .u8 k, .int .u32 n, .int .u64 r, .string s] 28)).heap.size ((w.alloc (.cells #[.int .i64 a, .int .i64 b] 23)).alloc (.cells #[.int .u8 k, .int .u32 n, .int .u64 r, .string s] 28)) w1 →
      Hid (Below w.heap.size w w1) ∧ w.heap.size + 1 < w1.heap.size ∧ w1.cell? ⟨w.heap.size, 0, none⟩ = some (.int .i64 a) ∧ w1.cell? ⟨w.heap.size, 1, none⟩ = some (.int .i64 b) ∧ w1.cell? ⟨w.heap.size + 1, 0, none⟩ = some (.int .u8 k) ∧
      w1.cell? ⟨w.heap.size + 1, 1, none⟩ = some (.int .u32 n) ∧ w1.cell? ⟨w.heap.size + 1, 2, none⟩ = some (.int .u64 r) ∧ w1.cell? ⟨w.heap.size + 1, 3, none⟩ = some (.string s) := by
    intro w1 hb1
    have hz := hb1.size
    simp only [World.size_alloc] at hz
    exact ⟨H0.trans (hb1.mono (by simp only [World.size_alloc]; omega)), by omega, cellB hb1 (by simp only [World.size_alloc]; omega) (by go_simp), cellB hb1 (by simp only [World.size_alloc]; omega) (by go_simp), cellB hb1 (by simp only [World.size_alloc]; omega) (by go_simp), cellB hb1 (by simp only [World.size_alloc]; omega) (by go_simp), cellB hb1 (by simp only [World.size_alloc]; omega) (by go_simp), cellB hb1 (by simp only [World.size_alloc]; omega) (by go_simp)⟩
  have HC := Lib.hid (refCheck_any a b k n r s)
  by_cases hc : checkI a b k n r s.size = 0
  · have hz0 := checkI_zero hc
    have Hc := Lib.hid hc
    have hp := mayB_page hz0.1
    have hp1 : 1024 ≤ a ∧ a ≤ 8192 := by omega
    have hsz : (s.size : Int) ≤ a - 32 := by omega
    have hsz2 : s.size ≤ 8160 := by omega
    clear hc hz0 hp
    go_enter Try.func23, Try.ntmps23
    go_wp2_with fail
    refine (HC.out _ ha hk hn hr hs).mono ?_
    rintro e w1 ⟨rfl, hb1⟩
    rw [Hc.out]
    obtain ⟨hb, hz, c0, c1, c2, c3, c4, c5⟩ := step w1 hb1
    clear hb1 step
    go_wp2_with fail
    refine wp_region_held_drew (S := (fun W => W.cell? ⟨w.heap.size, 0, none⟩ = some (.int .i64 a) ∧ W.cell? ⟨w.heap.size, 1, none⟩ = some (.int .i64 b) ∧ W.cell? ⟨w.heap.size + 1, 0, none⟩ = some (.int .u8 k) ∧ W.cell? ⟨w.heap.size + 1, 1, none⟩ = some (.int .u32 n) ∧ W.cell? ⟨w.heap.size + 1, 2, none⟩ = some (.int .u64 r) ∧ W.cell? ⟨w.heap.size + 1, 3, none⟩ = some (.string s) ∧ Below w.heap.size w W ∧ w.heap.size + 1 < W.heap.size)) (by kernel_rfl) ⟨c0, c1, c2, c3, c4, c5, hb.out.drew, hz⟩ (fun hHeld => ?_)
    clear c0 c1 c2 c3 c4 c5 hb
    have w1k : IntKind.u64.wrap k = k := IntWalk.u64_in _ (by omega)
    have w2k : IntKind.u64.wrap (s.size : Int) = (s.size : Int) := IntWalk.u64_in _ (by omega)
    have w3k : IntKind.u64.wrap n = n := IntWalk.u64_in _ (by omega)
    refine' wpAnyH_take (i := 0) (oi := { dst := Option.some 15, op := Op.fieldAddr 28 (Operand.tmp 3) 0, type := 0, pos := "ref.go:49", after := #[], guard := Option.none }) rfl (by kernel_rfl) (by kernel_rfl) (by kernel_rfl) (fun _ _ _ h => h) (Or.inl ⟨by rfl, _⟩) (by assumption) _
    rotate_left
    · (intro wS hSw; (try dsimp only at hSw); go_simp; try with_reducible rfl)
    try simp only [Act.put, List.setIfInBounds_toArray, List.set_cons_zero, List.set_cons_succ]
    refine' wpAnyH_take (i := 1) (oi := { dst := Option.some 16, op := Op.load 24 (Operand.tmp 15), type := 24, pos := "ref.go:49", after := #[{ on := 0, ground := Ground.data }], guard := Option.none }) rfl (by kernel_rfl) (by kernel_rfl) (by kernel_rfl) (fun _ _ _ h => h) (Or.inl ⟨by rfl, _⟩) (by assumption) _
    rotate_left
    · (intro wS hSw; (try dsimp only at hSw); go_simp; try with_reducible rfl)
    try simp only [Act.put, List.setIfInBounds_toArray, List.set_cons_zero, List.set_cons_succ]
    refine' wpAnyH_take (i := 2) (oi := { dst := Option.some 17, op := Op.convert 24 26 (Operand.tmp 16), type := 26, pos := "ref.go:49", after := #[{ on := 1, ground := Ground.data }], guard := Option.none }) rfl (by kernel_rfl) (by kernel_rfl) (by kernel_rfl) (fun _ _ _ h => h) (Or.inl ⟨by rfl, _⟩) (by assumption) _
    rotate_left
    · (intro wS hSw; (try dsimp only at hSw); go_simp; try with_reducible rfl)
    try simp only [Act.put, List.setIfInBounds_toArray, List.set_cons_zero, List.set_cons_succ]
    refine' wpAnyH_take (i := 5) (oi := { dst := Option.some 20, op := Op.fieldAddr 28 (Operand.tmp 3) 3, type := 0, pos := "ref.go:49", after := #[], guard := Option.none }) rfl (by kernel_rfl) (by kernel_rfl) (by kernel_rfl) (fun _ _ _ h => h) (Or.inl ⟨by rfl, _⟩) (by assumption) _
    rotate_left
    · (intro wS hSw; (try dsimp only at hSw); go_simp; try with_reducible rfl)
    try simp only [Act.put, List.setIfInBounds_toArray, List.set_cons_zero, List.set_cons_succ]
    refine' wpAnyH_take (i := 6) (oi := { dst := Option.some 21, op := Op.load 9 (Operand.tmp 20), type := 9, pos := "ref.go:49", after := #[{ on := 5, ground := Ground.data }], guard := Option.none }) rfl (by kernel_rfl) (by kernel_rfl) (by kernel_rfl) (fun _ _ _ h => h) (Or.inl ⟨by rfl, _⟩) (by assumption) _
    rotate_left
    · (intro wS hSw; (try dsimp only at hSw); go_simp; try with_reducible rfl)
    try simp only [Act.put, List.setIfInBounds_toArray, List.set_cons_zero, List.set_cons_succ]
    refine' wpAnyH_take (i := 7) (oi := { dst := Option.some 22, op := Op.call { callee := Callee.builtin Builtin.len, args := #[Operand.tmp 21], argTypes := #[9] }, type := 3, pos := "ref.go:49", after := #[{ on := 6, ground := Ground.data }], guard := Option.none }) rfl (by kernel_rfl) (by kernel_rfl) (by kernel_rfl) (fun _ _ _ h => h) (Or.inl ⟨by rfl, _⟩) (by assumption) _
    rotate_left
    · (intro wS hSw; (try dsimp only at hSw); go_simp; try with_reducible rfl)
    try simp only [Act.put, List.setIfInBounds_toArray, List.set_cons_zero, List.set_cons_succ]
    refine' wpAnyH_take (i := 8) (oi := { dst := Option.some 23, op := Op.convert 3 26 (Operand.tmp 22), type := 26, pos := "ref.go:49", after := #[{ on := 7, ground := Ground.data }], guard := Option.none }) rfl (by kernel_rfl) (by kernel_rfl) (by kernel_rfl) (fun _ _ _ h => h) (Or.inl ⟨by rfl, _⟩) (by assumption) _
    rotate_left
    · (intro wS hSw; (try dsimp only at hSw); go_simp; try with_reducible rfl)
    try simp only [Act.put, List.setIfInBounds_toArray, List.set_cons_zero, List.set_cons_succ]
    refine' wpAnyH_take (i := 11) (oi := { dst := Option.some 26, op := Op.fieldAddr 28 (Operand.tmp 3) 1, type := 0, pos := "ref.go:49", after := #[], guard := Option.none }) rfl (by kernel_rfl) (by kernel_rfl) (by kernel_rfl) (fun _ _ _ h => h) (Or.inl ⟨by rfl, _⟩) (by assumption) _
    rotate_left
    · (intro wS hSw; (try dsimp only at hSw); go_simp; try with_reducible rfl)
    try simp only [Act.put, List.setIfInBounds_toArray, List.set_cons_zero, List.set_cons_succ]
    refine' wpAnyH_take (i := 12) (oi := { dst := Option.some 27, op := Op.load 25 (Operand.tmp 26), type := 25, pos := "ref.go:49", after := #[{ on := 11, ground := Ground.data }], guard := Option.none }) rfl (by kernel_rfl) (by kernel_rfl) (by kernel_rfl) (fun _ _ _ h => h) (Or.inl ⟨by rfl, _⟩) (by assumption) _
    rotate_left
    · (intro wS hSw; (try dsimp only at hSw); go_simp; try with_reducible rfl)
    try simp only [Act.put, List.setIfInBounds_toArray, List.set_cons_zero, List.set_cons_succ]
    refine' wpAnyH_take (i := 13) (oi := { dst := Option.some 28, op := Op.convert 25 26 (Operand.tmp 27), type := 26, pos := "ref.go:49", after := #[{ on := 12, ground := Ground.data }], guard := Option.none }) rfl (by kernel_rfl) (by kernel_rfl) (by kernel_rfl) (fun _ _ _ h => h) (Or.inl ⟨by rfl, _⟩) (by assumption) _
    rotate_left
    · (intro wS hSw; (try dsimp only at hSw); go_simp; try with_reducible rfl)
    try simp only [Act.put, List.setIfInBounds_toArray, List.set_cons_zero, List.set_cons_succ]
    refine' wpAnyH_take (i := 18) (oi := { dst := Option.some 33, op := Op.fieldAddr 28 (Operand.tmp 3) 2, type := 0, pos := "ref.go:49", after := #[], guard := Option.none }) rfl (by kernel_rfl) (by kernel_rfl) (by kernel_rfl) (fun _ _ _ h => h) (Or.inl ⟨by rfl, _⟩) (by assumption) _
    rotate_left
    · (intro wS hSw; (try dsimp only at hSw); go_simp; try with_reducible rfl)
    try simp only [Act.put, List.setIfInBounds_toArray, List.set_cons_zero, List.set_cons_succ]
    refine' wpAnyH_take (i := 19) (oi := { dst := Option.some 34, op := Op.load 26 (Operand.tmp 33), type := 26, pos := "ref.go:49", after := #[{ on := 18, ground := Ground.data }], guard := Option.none }) rfl (by kernel_rfl) (by kernel_rfl) (by kernel_rfl) (fun _ _ _ h => h) (Or.inl ⟨by rfl, _⟩) (by assumption) _
    rotate_left
    · (intro wS hSw; (try dsimp only at hSw); go_simp; try with_reducible rfl)
    try simp only [Act.put, List.setIfInBounds_toArray, List.set_cons_zero, List.set_cons_succ]
    refine wpAnyH_ready (rs := [3]) (by kernel_rfl) (by simp) ?_
    refine AllReadyH.cons (o := { dst := Option.some 18, op := Op.call { callee := Callee.value (Operand.func 54), args := #[Operand.tmp 17, Operand.const (Value.int IntKind.i64 1)], argTypes := #[26, 3] }, type := 9, pos := "ref.go:49", after := #[{ on := 2, ground := Ground.data }], guard := Option.none }) rfl (fun K hK => ?_) AllReadyH.nil
    go_simp
    (go_at_call 54; refine (number_any _ _ _ (by omega) (by omega)).mono ?_; rintro e w12 ⟨rfl, hb12⟩)
    refine hK.out _ _ ?_ (fun hHeld => ?_)
    · (go_split_ands; exact ⟨cellB hb12 (by (try simp only [World.size_drew]); omega) (by assumption), cellB hb12 (by (try simp only [World.size_drew]); omega) (by assumption), cellB hb12 (by (try simp only [World.size_drew]); omega) (by assumption), cellB hb12 (by (try simp only [World.size_drew]); omega) (by assumption), cellB hb12 (by (try simp only [World.size_drew]); omega) (by assumption), cellB hb12 (by (try simp only [World.size_drew]); omega) (by assumption), Below.trans (by assumption) (hb12.mono (by (try simp only [World.size_drew]); omega)), Nat.lt_of_lt_of_le (by assumption) hb12.size⟩)
    clear hK K
    try simp only [Act.put, List.setIfInBounds_toArray, List.set_cons_zero, List.set_cons_succ]
    refine' wpAnyH_take (i := 4) (oi := { dst := Option.some 19, op := Op.binOp BinOp.add 9 (Operand.const (Value.string { data := #[72, 87, 80, 71, 1] })) (Operand.tmp 18) 9, type := 9, pos := "ref.go:49", after := #[{ on := 3, ground := Ground.data }], guard := Option.none }) rfl (by kernel_rfl) (by kernel_rfl) (by kernel_rfl) (fun _ _ _ h => h) (Or.inl ⟨by rfl, _⟩) (by assumption) _
    rotate_left
    · (intro wS hSw; (try dsimp only at hSw); go_simp; try with_reducible rfl)
    try simp only [Act.put, List.setIfInBounds_toArray, List.set_cons_zero, List.set_cons_succ]
    refine wpAnyH_ready (rs := [9]) (by kernel_rfl) (by simp) ?_
    refine AllReadyH.cons (o := { dst := Option.some 24, op := Op.call { callee := Callee.value (Operand.func 54), args := #[Operand.tmp 23, Operand.const (Value.int IntKind.i64 2)], argTypes := #[26, 3] }, type := 9, pos := "ref.go:49", after := #[{ on := 8, ground := Ground.data }, { on := 3, ground := Ground.chain }], guard := Option.none }) rfl (fun K hK => ?_) AllReadyH.nil
    go_simp
    (go_at_call 54; refine (number_any _ _ _ (by omega) (by omega)).mono ?_; rintro e w12 ⟨rfl, hb12⟩)
    refine hK.out _ _ ?_ (fun hHeld => ?_)
    · (go_split_ands; exact ⟨cellB hb12 (by (try simp only [World.size_drew]); omega) (by assumption), cellB hb12 (by (try simp only [World.size_drew]); omega) (by assumption), cellB hb12 (by (try simp only [World.size_drew]); omega) (by assumption), cellB hb12 (by (try simp only [World.size_drew]); omega) (by assumption), cellB hb12 (by (try simp only [World.size_drew]); omega) (by assumption), cellB hb12 (by (try simp only [World.size_drew]); omega) (by assumption), Below.trans (by assumption) (hb12.mono (by (try simp only [World.size_drew]); omega)), Nat.lt_of_lt_of_le (by assumption) hb12.size⟩)
    clear hK K
    try simp only [Act.put, List.setIfInBounds_toArray, List.set_cons_zero, List.set_cons_succ]
    refine' wpAnyH_take (i := 10) (oi := { dst := Option.some 25, op := Op.binOp BinOp.add 9 (Operand.tmp 19) (Operand.tmp 24) 9, type := 9, pos := "ref.go:49", after := #[{ on := 4, ground := Ground.data }, { on := 9, ground := Ground.data }], guard := Option.none }) rfl (by kernel_rfl) (by kernel_rfl) (by kernel_rfl) (fun _ _ _ h => h) (Or.inl ⟨by rfl, _⟩) (by assumption) _
    rotate_left
    · (intro wS hSw; (try dsimp only at hSw); go_simp; try with_reducible rfl)
    try simp only [Act.put, List.setIfInBounds_toArray, List.set_cons_zero, List.set_cons_succ]
    refine wpAnyH_ready (rs := [14]) (by kernel_rfl) (by simp) ?_
    refine AllReadyH.cons (o := { dst := Option.some 29, op := Op.call { callee := Callee.value (Operand.func 54), args := #[Operand.tmp 28, Operand.const (Value.int IntKind.i64 4)], argTypes := #[26, 3] }, type := 9, pos := "ref.go:49", after := #[{ on := 13, ground := Ground.data }, { on := 9, ground := Ground.chain }], guard := Option.none }) rfl (fun K hK => ?_) AllReadyH.nil
    go_simp
    (go_at_call 54; refine (number_any _ _ _ (by omega) (by omega)).mono ?_; rintro e w12 ⟨rfl, hb12⟩)
    refine hK.out _ _ ?_ (fun hHeld => ?_)
    · (go_split_ands; exact ⟨cellB hb12 (by (try simp only [World.size_drew]); omega) (by assumption), cellB hb12 (by (try simp only [World.size_drew]); omega) (by assumption), cellB hb12 (by (try simp only [World.size_drew]); omega) (by assumption), cellB hb12 (by (try simp only [World.size_drew]); omega) (by assumption), cellB hb12 (by (try simp only [World.size_drew]); omega) (by assumption), cellB hb12 (by (try simp only [World.size_drew]); omega) (by assumption), Below.trans (by assumption) (hb12.mono (by (try simp only [World.size_drew]); omega)), Nat.lt_of_lt_of_le (by assumption) hb12.size⟩)
    clear hK K
    try simp only [Act.put, List.setIfInBounds_toArray, List.set_cons_zero, List.set_cons_succ]
    refine' wpAnyH_take (i := 15) (oi := { dst := Option.some 30, op := Op.binOp BinOp.add 9 (Operand.tmp 25) (Operand.tmp 29) 9, type := 9, pos := "ref.go:49", after := #[{ on := 10, ground := Ground.data }, { on := 14, ground := Ground.data }], guard := Option.none }) rfl (by kernel_rfl) (by kernel_rfl) (by kernel_rfl) (fun _ _ _ h => h) (Or.inl ⟨by rfl, _⟩) (by assumption) _
    rotate_left
    · (intro wS hSw; (try dsimp only at hSw); go_simp; try with_reducible rfl)
    try simp only [Act.put, List.setIfInBounds_toArray, List.set_cons_zero, List.set_cons_succ]
    refine wpAnyH_ready (rs := [16]) (by kernel_rfl) (by simp) ?_
    refine AllReadyH.cons (o := { dst := Option.some 31, op := Op.call { callee := Callee.value (Operand.func 55), args := #[Operand.const (Value.int IntKind.i64 4)], argTypes := #[3] }, type := 9, pos := "ref.go:49", after := #[{ on := 14, ground := Ground.chain }], guard := Option.none }) rfl (fun K hK => ?_) AllReadyH.nil
    go_simp
    (go_at_call 55; refine (noughts_any _ _ (by omega)).mono ?_; rintro e w12 ⟨rfl, hb12⟩)
    refine hK.out _ _ ?_ (fun hHeld => ?_)
    · (go_split_ands; exact ⟨cellB hb12 (by (try simp only [World.size_drew]); omega) (by assumption), cellB hb12 (by (try simp only [World.size_drew]); omega) (by assumption), cellB hb12 (by (try simp only [World.size_drew]); omega) (by assumption), cellB hb12 (by (try simp only [World.size_drew]); omega) (by assumption), cellB hb12 (by (try simp only [World.size_drew]); omega) (by assumption), cellB hb12 (by (try simp only [World.size_drew]); omega) (by assumption), Below.trans (by assumption) (hb12.mono (by (try simp only [World.size_drew]); omega)), Nat.lt_of_lt_of_le (by assumption) hb12.size⟩)
    clear hK K
    try simp only [Act.put, List.setIfInBounds_toArray, List.set_cons_zero, List.set_cons_succ]
    refine' wpAnyH_take (i := 17) (oi := { dst := Option.some 32, op := Op.binOp BinOp.add 9 (Operand.tmp 30) (Operand.tmp 31) 9, type := 9, pos := "ref.go:49", after := #[{ on := 15, ground := Ground.data }, { on := 16, ground := Ground.data }], guard := Option.none }) rfl (by kernel_rfl) (by kernel_rfl) (by kernel_rfl) (fun _ _ _ h => h) (Or.inl ⟨by rfl, _⟩) (by assumption) _
    rotate_left
    · (intro wS hSw; (try dsimp only at hSw); go_simp; try with_reducible rfl)
    try simp only [Act.put, List.setIfInBounds_toArray, List.set_cons_zero, List.set_cons_succ]
    refine wpAnyH_ready (rs := [20]) (by kernel_rfl) (by simp) ?_
    refine AllReadyH.cons (o := { dst := Option.some 35, op := Op.call { callee := Callee.value (Operand.func 54), args := #[Operand.tmp 34, Operand.const (Value.int IntKind.i64 8)], argTypes := #[26, 3] }, type := 9, pos := "ref.go:49", after := #[{ on := 19, ground := Ground.data }, { on := 16, ground := Ground.chain }], guard := Option.none }) rfl (fun K hK => ?_) AllReadyH.nil
    go_simp
    (go_at_call 54; refine (number_any _ _ _ (by omega) (by omega)).mono ?_; rintro e w12 ⟨rfl, hb12⟩)
    refine hK.out _ _ ?_ (fun hHeld => ?_)
    · (go_split_ands; exact ⟨cellB hb12 (by (try simp only [World.size_drew]); omega) (by assumption), cellB hb12 (by (try simp only [World.size_drew]); omega) (by assumption), cellB hb12 (by (try simp only [World.size_drew]); omega) (by assumption), cellB hb12 (by (try simp only [World.size_drew]); omega) (by assumption), cellB hb12 (by (try simp only [World.size_drew]); omega) (by assumption), cellB hb12 (by (try simp only [World.size_drew]); omega) (by assumption), Below.trans (by assumption) (hb12.mono (by (try simp only [World.size_drew]); omega)), Nat.lt_of_lt_of_le (by assumption) hb12.size⟩)
    clear hK K
    try simp only [Act.put, List.setIfInBounds_toArray, List.set_cons_zero, List.set_cons_succ]
    refine' wpAnyH_take (i := 21) (oi := { dst := Option.some 36, op := Op.binOp BinOp.add 9 (Operand.tmp 32) (Operand.tmp 35) 9, type := 9, pos := "ref.go:49", after := #[{ on := 17, ground := Ground.data }, { on := 20, ground := Ground.data }], guard := Option.none }) rfl (by kernel_rfl) (by kernel_rfl) (by kernel_rfl) (fun _ _ _ h => h) (Or.inl ⟨by rfl, _⟩) (by assumption) _
    rotate_left
    · (intro wS hSw; (try dsimp only at hSw); go_simp; try with_reducible rfl)
    try simp only [Act.put, List.setIfInBounds_toArray, List.set_cons_zero, List.set_cons_succ]
    refine wpAnyH_ready (rs := [22]) (by kernel_rfl) (by simp) ?_
    refine AllReadyH.cons (o := { dst := Option.some 37, op := Op.call { callee := Callee.value (Operand.func 55), args := #[Operand.const (Value.int IntKind.i64 4)], argTypes := #[3] }, type := 9, pos := "ref.go:49", after := #[{ on := 20, ground := Ground.chain }], guard := Option.none }) rfl (fun K hK => ?_) AllReadyH.nil
    go_simp
    (go_at_call 55; refine (noughts_any _ _ (by omega)).mono ?_; rintro e w12 ⟨rfl, hb12⟩)
    refine hK.out _ _ ?_ (fun hHeld => ?_)
    · (go_split_ands; exact ⟨cellB hb12 (by (try simp only [World.size_drew]); omega) (by assumption), cellB hb12 (by (try simp only [World.size_drew]); omega) (by assumption), cellB hb12 (by (try simp only [World.size_drew]); omega) (by assumption), cellB hb12 (by (try simp only [World.size_drew]); omega) (by assumption), cellB hb12 (by (try simp only [World.size_drew]); omega) (by assumption), cellB hb12 (by (try simp only [World.size_drew]); omega) (by assumption), Below.trans (by assumption) (hb12.mono (by (try simp only [World.size_drew]); omega)), Nat.lt_of_lt_of_le (by assumption) hb12.size⟩)
    clear hK K
    try simp only [Act.put, List.setIfInBounds_toArray, List.set_cons_zero, List.set_cons_succ]
    refine' wpAnyH_take (i := 23) (oi := { dst := Option.some 38, op := Op.binOp BinOp.add 9 (Operand.tmp 36) (Operand.tmp 37) 9, type := 9, pos := "ref.go:49", after := #[{ on := 21, ground := Ground.data }, { on := 22, ground := Ground.data }], guard := Option.none }) rfl (by kernel_rfl) (by kernel_rfl) (by kernel_rfl) (fun _ _ _ h => h) (Or.inl ⟨by rfl, _⟩) (by assumption) _
    rotate_left
    · (intro wS hSw; (try dsimp only at hSw); go_simp; try with_reducible rfl)
    try simp only [Act.put, List.setIfInBounds_toArray, List.set_cons_zero, List.set_cons_succ]
    refine' wpAnyH_take (i := 24) (oi := { dst := Option.some 7, op := Op.assign (Operand.tmp 38), type := 9, pos := "ref.go:49", after := #[{ on := 23, ground := Ground.data }, { on := 22, ground := Ground.chain }, { on := 0, ground := Ground.phase }, { on := 1, ground := Ground.phase }, { on := 2, ground := Ground.phase }, { on := 3, ground := Ground.phase }, { on := 4, ground := Ground.phase }, { on := 5, ground := Ground.phase }, { on := 6, ground := Ground.phase }, { on := 7, ground := Ground.phase }, { on := 8, ground := Ground.phase }, { on := 9, ground := Ground.phase }, { on := 10, ground := Ground.phase }, { on := 11, ground := Ground.phase }, { on := 12, ground := Ground.phase }, { on := 13, ground := Ground.phase }, { on := 14, ground := Ground.phase }, { on := 15, ground := Ground.phase }, { on := 16, ground := Ground.phase }, { on := 17, ground := Ground.phase }, { on := 18, ground := Ground.phase }, { on := 19, ground := Ground.phase }, { on := 20, ground := Ground.phase }, { on := 21, ground := Ground.phase }, { on := 22, ground := Ground.phase }, { on := 23, ground := Ground.phase }], guard := Option.none }) rfl (by kernel_rfl) (by kernel_rfl) (by kernel_rfl) (fun _ _ _ h => h) (Or.inl ⟨by rfl, _⟩) (by assumption) _
    rotate_left
    · (intro wS hSw; (try dsimp only at hSw); go_simp; try with_reducible rfl)
    try simp only [Act.put, List.setIfInBounds_toArray, List.set_cons_zero, List.set_cons_succ]
    refine wpAnyH_done (by kernel_rfl) ?_ _
    have hH := hHeld
    clear hHeld
    clear w1k w2k w3k
    go_wp2_with fail
    generalize hhd : (⟨#[72, 87, 80, 71, 1]⟩ : ByteArray) ++ bstr (be 1 k.toNat) ++ bstr (be 2 s.size) ++ bstr (be 4 n.toNat) ++ bstr [0, 0, 0, 0] ++ bstr (be 8 r.toNat) ++ bstr [0, 0, 0, 0] = hd
    have Hhd := Lib.hid hhd
    clear hhd
    obtain ⟨m, hm⟩ : ∃ m : Nat, (m : Int) = a - 32 - (s.size : Int) := ⟨(a - 32 - (s.size : Int)).toNat, by omega⟩
    have w1k : IntKind.i64.wrap (a - 32) = a - 32 := IntWalk.i64_in _ (by omega)
    have w2k : IntKind.i64.wrap (a - 32 - (s.size : Int)) = (m : Int) := by rw [← hm]; exact IntWalk.i64_in _ (by omega)
    have Hm := Lib.hid hm
    have hm3 : m ≤ 8160 := by omega
    clear hm
    have hnl : ¬ (9223372036854775807 < s.size + m) := by omega
    refine wp_region_held_drew (S := (fun W => W.cell? ⟨w.heap.size, 0, none⟩ = some (.int .i64 a) ∧ W.cell? ⟨w.heap.size, 1, none⟩ = some (.int .i64 b) ∧ W.cell? ⟨w.heap.size + 1, 0, none⟩ = some (.int .u8 k) ∧ W.cell? ⟨w.heap.size + 1, 1, none⟩ = some (.int .u32 n) ∧ W.cell? ⟨w.heap.size + 1, 2, none⟩ = some (.int .u64 r) ∧ W.cell? ⟨w.heap.size + 1, 3, none⟩ = some (.string s) ∧ Below w.heap.size w W ∧ w.heap.size + 1 < W.heap.size)) (by kernel_rfl) ⟨hH.1, hH.2.1, hH.2.2.1, hH.2.2.2.1, hH.2.2.2.2.1, hH.2.2.2.2.2.1, hH.2.2.2.2.2.2.1.drew, hH.2.2.2.2.2.2.2⟩ (fun hHeld => ?_)
    have hz2 := hH.2.2.2.2.2.2.2
    clear hH
    refine' wpAnyH_take (i := 0) (oi := { dst := Option.some 39, op := Op.fieldAddr 28 (Operand.tmp 3) 3, type := 0, pos := "ref.go:50", after := #[], guard := Option.none }) rfl (by kernel_rfl) (by kernel_rfl) (by kernel_rfl) (fun _ _ _ h => h) (Or.inl ⟨by rfl, _⟩) (by assumption) _
    rotate_left
    · (intro wS hSw; (try dsimp only at hSw); go_simp; try with_reducible rfl)
    try simp only [Act.put, List.setIfInBounds_toArray, List.set_cons_zero, List.set_cons_succ]
    refine' wpAnyH_take (i := 1) (oi := { dst := Option.some 40, op := Op.load 9 (Operand.tmp 39), type := 9, pos := "ref.go:50", after := #[{ on := 0, ground := Ground.data }], guard := Option.none }) rfl (by kernel_rfl) (by kernel_rfl) (by kernel_rfl) (fun _ _ _ h => h) (Or.inl ⟨by rfl, _⟩) (by assumption) _
    rotate_left
    · (intro wS hSw; (try dsimp only at hSw); go_simp; try with_reducible rfl)
    try simp only [Act.put, List.setIfInBounds_toArray, List.set_cons_zero, List.set_cons_succ]
    refine' wpAnyH_take (i := 2) (oi := { dst := Option.some 41, op := Op.fieldAddr 23 (Operand.tmp 2) 0, type := 0, pos := "ref.go:50", after := #[], guard := Option.none }) rfl (by kernel_rfl) (by kernel_rfl) (by kernel_rfl) (fun _ _ _ h => h) (Or.inl ⟨by rfl, _⟩) (by assumption) _
    rotate_left
    · (intro wS hSw; (try dsimp only at hSw); go_simp; try with_reducible rfl)
    try simp only [Act.put, List.setIfInBounds_toArray, List.set_cons_zero, List.set_cons_succ]
    refine' wpAnyH_take (i := 3) (oi := { dst := Option.some 42, op := Op.load 3 (Operand.tmp 41), type := 3, pos := "ref.go:50", after := #[{ on := 2, ground := Ground.data }], guard := Option.none }) rfl (by kernel_rfl) (by kernel_rfl) (by kernel_rfl) (fun _ _ _ h => h) (Or.inl ⟨by rfl, _⟩) (by assumption) _
    rotate_left
    · (intro wS hSw; (try dsimp only at hSw); go_simp; try with_reducible rfl)
    try simp only [Act.put, List.setIfInBounds_toArray, List.set_cons_zero, List.set_cons_succ]
    refine' wpAnyH_take (i := 4) (oi := { dst := Option.some 43, op := Op.binOp BinOp.sub 3 (Operand.tmp 42) (Operand.const (Value.int IntKind.i64 32)) 3, type := 3, pos := "ref.go:50", after := #[{ on := 3, ground := Ground.data }], guard := Option.none }) rfl (by kernel_rfl) (by kernel_rfl) (by kernel_rfl) (fun _ _ _ h => h) (Or.inl ⟨by rfl, _⟩) (by assumption) _
    rotate_left
    · (intro wS hSw; (try dsimp only at hSw); go_simp; try with_reducible rfl)
    try simp only [Act.put, List.setIfInBounds_toArray, List.set_cons_zero, List.set_cons_succ]
    refine' wpAnyH_take (i := 5) (oi := { dst := Option.some 44, op := Op.fieldAddr 28 (Operand.tmp 3) 3, type := 0, pos := "ref.go:50", after := #[], guard := Option.none }) rfl (by kernel_rfl) (by kernel_rfl) (by kernel_rfl) (fun _ _ _ h => h) (Or.inl ⟨by rfl, _⟩) (by assumption) _
    rotate_left
    · (intro wS hSw; (try dsimp only at hSw); go_simp; try with_reducible rfl)
    try simp only [Act.put, List.setIfInBounds_toArray, List.set_cons_zero, List.set_cons_succ]
    refine' wpAnyH_take (i := 6) (oi := { dst := Option.some 45, op := Op.load 9 (Operand.tmp 44), type := 9, pos := "ref.go:50", after := #[{ on := 5, ground := Ground.data }], guard := Option.none }) rfl (by kernel_rfl) (by kernel_rfl) (by kernel_rfl) (fun _ _ _ h => h) (Or.inl ⟨by rfl, _⟩) (by assumption) _
    rotate_left
    · (intro wS hSw; (try dsimp only at hSw); go_simp; try with_reducible rfl)
    try simp only [Act.put, List.setIfInBounds_toArray, List.set_cons_zero, List.set_cons_succ]
    refine' wpAnyH_take (i := 7) (oi := { dst := Option.some 46, op := Op.call { callee := Callee.builtin Builtin.len, args := #[Operand.tmp 45], argTypes := #[9] }, type := 3, pos := "ref.go:50", after := #[{ on := 6, ground := Ground.data }], guard := Option.none }) rfl (by kernel_rfl) (by kernel_rfl) (by kernel_rfl) (fun _ _ _ h => h) (Or.inl ⟨by rfl, _⟩) (by assumption) _
    rotate_left
    · (intro wS hSw; (try dsimp only at hSw); go_simp; try with_reducible rfl)
    try simp only [Act.put, List.setIfInBounds_toArray, List.set_cons_zero, List.set_cons_succ]
    refine' wpAnyH_take (i := 8) (oi := { dst := Option.some 47, op := Op.binOp BinOp.sub 3 (Operand.tmp 43) (Operand.tmp 46) 3, type := 3, pos := "ref.go:50", after := #[{ on := 4, ground := Ground.data }, { on := 7, ground := Ground.data }], guard := Option.none }) rfl (by kernel_rfl) (by kernel_rfl) (by kernel_rfl) (fun _ _ _ h => h) (Or.inl ⟨by rfl, _⟩) (by assumption) _
    rotate_left
    · (intro wS hSw; (try dsimp only at hSw); go_simp; try with_reducible rfl)
    try simp only [Act.put, List.setIfInBounds_toArray, List.set_cons_zero, List.set_cons_succ]
    refine wpAnyH_ready (rs := [9]) (by kernel_rfl) (by simp) ?_
    refine AllReadyH.cons (o := { dst := Option.some 48, op := Op.call { callee := Callee.value (Operand.func 55), args := #[Operand.tmp 47], argTypes := #[3] }, type := 9, pos := "ref.go:50", after := #[{ on := 8, ground := Ground.data }], guard := Option.none }) rfl (fun K hK => ?_) AllReadyH.nil
    go_simp
    (go_at_call 55; refine (noughts_any _ _ (by omega)).mono ?_; rintro e w12 ⟨rfl, hb12⟩)
    refine hK.out _ _ ?_ (fun hHeld => ?_)
    · (go_split_ands; exact ⟨cellB hb12 (by (try simp only [World.size_drew]); omega) (by assumption), cellB hb12 (by (try simp only [World.size_drew]); omega) (by assumption), cellB hb12 (by (try simp only [World.size_drew]); omega) (by assumption), cellB hb12 (by (try simp only [World.size_drew]); omega) (by assumption), cellB hb12 (by (try simp only [World.size_drew]); omega) (by assumption), cellB hb12 (by (try simp only [World.size_drew]); omega) (by assumption), Below.trans (by assumption) (hb12.mono (by (try simp only [World.size_drew]); omega)), Nat.lt_of_lt_of_le (by assumption) hb12.size⟩)
    clear hK K
    try simp only [Act.put, List.setIfInBounds_toArray, List.set_cons_zero, List.set_cons_succ]
    refine' wpAnyH_take (i := 10) (oi := { dst := Option.some 49, op := Op.binOp BinOp.add 9 (Operand.tmp 40) (Operand.tmp 48) 9, type := 9, pos := "ref.go:50", after := #[{ on := 1, ground := Ground.data }, { on := 9, ground := Ground.data }], guard := Option.none }) rfl (by kernel_rfl) (by kernel_rfl) (by kernel_rfl) (fun _ _ _ h => h) (Or.inl ⟨by rfl, _⟩) (by assumption) _
    rotate_left
    · (intro wS hSw; (try dsimp only at hSw); go_simp; try with_reducible rfl)
    try simp only [Act.put, List.setIfInBounds_toArray, List.set_cons_zero, List.set_cons_succ]
    refine' wpAnyH_take (i := 11) (oi := { dst := Option.some 8, op := Op.assign (Operand.tmp 49), type := 9, pos := "ref.go:50", after := #[{ on := 10, ground := Ground.data }, { on := 9, ground := Ground.chain }, { on := 0, ground := Ground.phase }, { on := 1, ground := Ground.phase }, { on := 2, ground := Ground.phase }, { on := 3, ground := Ground.phase }, { on := 4, ground := Ground.phase }, { on := 5, ground := Ground.phase }, { on := 6, ground := Ground.phase }, { on := 7, ground := Ground.phase }, { on := 8, ground := Ground.phase }, { on := 9, ground := Ground.phase }, { on := 10, ground := Ground.phase }], guard := Option.none }) rfl (by kernel_rfl) (by kernel_rfl) (by kernel_rfl) (fun _ _ _ h => h) (Or.inl ⟨by rfl, _⟩) (by assumption) _
    rotate_left
    · (intro wS hSw; (try dsimp only at hSw); go_simp; try with_reducible rfl)
    try simp only [Act.put, List.setIfInBounds_toArray, List.set_cons_zero, List.set_cons_succ]
    refine wpAnyH_done (by kernel_rfl) ?_ _
    have hH := hHeld
    clear hHeld
    have hBy := Lib.hid hH.2.2.2.2.2.2.1
    have hz3 := hH.2.2.2.2.2.2.2
    clear hH w1k w2k hnl
    generalize hbd : s ++ bstr (List.replicate m 0) = bd
    have hs1 : hd.size ≤ 28 := by rw [← Hhd.out]; simp only [ByteArray.size_append, bstr_size, be_length]; decide
    have hs2 : bd.size ≤ 8160 := by rw [← hbd, ByteArray.size_append, bstr_size, List.length_replicate]; have := Hm.out; omega
    have hbd' : s ++ (⟨Array.replicate m 0⟩ : ByteArray) = bd := by
      rw [← hbd]
      unfold bstr
      rw [List.toArray_replicate]
    have Hbd := Lib.hid hbd'
    clear hbd hbd'
    have hs4 : (hd ++ bd).size ≤ 9223372036854775807 := by rw [ByteArray.size_append]; omega
    have hn0 : ¬ (9223372036854775807 < hd.size + bd.size) := by omega
    go_wp2_with fail
    refine (refCRC_any _ _ hs4).mono ?_
    rintro e w14 ⟨rfl, rfl⟩
    obtain ⟨x, hx⟩ : ∃ x : BitVec 32, crcOf (hd ++ bd).data.toList = x := ⟨_, rfl⟩
    rw [hx]
    have Hx := Lib.hid hx
    have bx := toU_bd x
    clear hx hs4 hn0
    go_wp2_with fail
    refine (number_any _ _ _ (by omega) (by omega)).mono ?_
    rintro e w15 ⟨rfl, hb15⟩
    generalize hcs : bstr (be (Int.toNat 4) (toU x).toNat) = cs
    have hs3 : cs.size ≤ 4 := by rw [← hcs, bstr_size, be_length]; exact Nat.le_refl _
    have hcs' : bstr (be 4 (toU (crcOf (hd.data.toList ++ bd.data.toList))).toNat) = cs := by rw [← hcs, ← Hx.out, ByteArray.data_append, Array.toList_append]; rfl
    have Hcs := Lib.hid hcs'
    clear hcs hcs'
    have hn1 : ¬ (9223372036854775807 < hd.size + cs.size) := by omega
    have hn2 : ¬ (9223372036854775807 < (hd ++ cs).size + bd.size) := by rw [ByteArray.size_append]; omega
    have hn3 : ¬ (9223372036854775807 < hd.size + cs.size + bd.size) := by omega
    go_wp2_with fail
    go_ret2
    refine ⟨?_, hBy.out.trans (hb15.mono (by omega))⟩
    rw [Hc.out, ← write_val hd cs bd s m Hc.out Hm.out (by rw [← Hhd.out]; exact refHead k n r s.size) Hbd.out Hcs.out]
    rfl
  · have Hc := Lib.hid hc
    obtain ⟨c, hcc⟩ : ∃ c, checkI a b k n r s.size = c := ⟨_, rfl⟩
    have hc0 : (c != 0) = true := by rw [bne_iff_ne]; rw [← hcc]; exact hc
    have Hcc := Lib.hid hcc
    clear hc hcc
    go_enter Try.func23, Try.ntmps23
    go_wp2_with fail
    refine (HC.out _ ha hk hn hr hs).mono ?_
    rintro e w1 ⟨rfl, hb1⟩
    rw [Hcc.out]
    obtain ⟨hb, hz, c0, c1, c2, c3, c4, c5⟩ := step w1 hb1
    clear hb1 step
    go_wp2_with fail
    go_ret2
    exact ⟨by rw [writeS, if_neg Hc.out, Hcc.out]; rfl, hb.out⟩
end Go.Proofs.Ytfhfeaipdmcekaa
