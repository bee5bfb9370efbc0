/-
  The walks of nil Sheets and shelves, and of the law PageNil.
-/
import Derived.Test.YtfhfeaipdmcekaaPageL2
namespace Go.Proofs.Ytfhfeaipdmcekaa
open Go.RowKit Hw
set_option linter.unusedVariables false

/-- what is answered of nothing -/
def nilV : Value := .tuple #[.agg #[.int .u8 0, .int .u32 0, .int .u64 0, .string ⟨#[]⟩], .int .i64 1]

theorem nil_done {w W4 : World} (e : W4 = ((((w.alloc (.cells #[.int .u8 0, .int .u32 0, .int .u64 0, .string ⟨#[]⟩] 28)).setCell ⟨w.heap.size, 0, none⟩ (.int .u8 0)).setCell ⟨w.heap.size, 1, none⟩ (.int .u32 0)).setCell ⟨w.heap.size, 2, none⟩ (.int .u64 0)).setCell ⟨w.heap.size, 3, none⟩ (.string ⟨#[]⟩)) :
    (W4.cell? ⟨w.heap.size, 0, none⟩ = some (.int .u8 0) ∧ W4.cell? ⟨w.heap.size, 1, none⟩ = some (.int .u32 0) ∧ W4.cell? ⟨w.heap.size, 2, none⟩ = some (.int .u64 0) ∧ W4.cell? ⟨w.heap.size, 3, none⟩ = some (.string ⟨#[]⟩)) ∧ Below w.heap.size w W4 := by
  obtain ⟨h4, hB⟩ := blk4_set (heap_new w (.cells #[.int .u8 0, .int .u32 0, .int .u64 0, .string ⟨#[]⟩] 28)) e
  obtain ⟨z0, z1, z2, z3, _⟩ := blk4 h4
  exact ⟨⟨z0, z1, z2, z3⟩, ((Below.refl _ _).alloc (Nat.le_refl _) _).trans (hB _ (Nat.le_refl _))⟩

theorem Sheets_nil (n : Int) (w : World) : Calls Try.prog 28 #[.pointer none, .int .u32 n] w fun e w' => e = .returned nilV ∧ Below w.heap.size w w' := by
  go_enter Try.func28, Try.ntmps28
  go_wp2_with fail
  exact bodyPost_ret (v := nilV) (by simp [results, Try.results28, go_sem]; rfl) rfl ⟨rfl, (Below.refl _ _).alloc (Nat.le_refl _) _⟩
theorem Sheets_zero (p : Nat) (n : Int) (w : World) (h : w.cell? ⟨p, 0, none⟩ = some .nilIface) : Calls Try.prog 28 #[.pointer (some ⟨p, 0, none⟩), .int .u32 n] w fun e w' => e = .returned nilV ∧ Below w.heap.size w w' := by
  have hl := World.block_lt_of_cell? w _ h
  go_enter Try.func28, Try.ntmps28
  go_wp2_with fail
  exact bodyPost_ret (v := nilV) (by simp [results, Try.results28, go_sem]; rfl) rfl ⟨rfl, (Below.refl _ _).alloc (Nat.le_refl _) _⟩
theorem dead_nil (w : World) : Calls Try.prog 59 #[.pointer none] w fun e w' => e = .returned (.bool true) ∧ w = w' := by
  go_enter Try.func59, Try.ntmps59
  go_wp2
  go_ret
  exact ⟨rfl, rfl⟩
theorem map_eq_nil (w : World) : Sem.run Try.prog (binOp .eql 84 (.map none) (.map none)) w = .ok (.bool true) w := by kernel_rfl
theorem dead_zero (p : Nat) (w : World) (h : w.cell? ⟨p, 2, none⟩ = some (.map none)) : Calls Try.prog 59 #[.pointer (some ⟨p, 0, none⟩)] w fun e w' => e = .returned (.bool true) ∧ w = w' := by
  go_enter Try.func59, Try.ntmps59
  have he := map_eq_nil
  go_wp2_with fail
  go_ret
  exact ⟨rfl, rfl⟩
/-- a shelf that is none, or that no call made -/
def NoShelf (w : World) (v : Value) : Prop := v = .pointer none ∨ ∃ p : Nat, v = .pointer (some ⟨p, 0, none⟩) ∧ w.cell? ⟨p, 2, none⟩ = some (.map none)
theorem NoShelf.below {w w' : World} {v : Value} (h : NoShelf w v) (hb : Below w.heap.size w w') : NoShelf w' v := by
  rcases h with h | ⟨p, h1, h2⟩
  · exact Or.inl h
  · exact Or.inr ⟨p, h1, cellB hb (World.block_lt_of_cell? w _ h2) h2⟩
theorem NoShelf.alloc {w : World} {v : Value} (h : NoShelf w v) (o : Obj) : NoShelf (w.alloc o) v := h.below ((Below.refl _ _).alloc (Nat.le_refl _) _)
theorem NoShelf.drew {w : World} {v : Value} (h : NoShelf w v) : NoShelf w.drew v := h
theorem dead_any (v : Value) (w : World) (h : NoShelf w v) : Calls Try.prog 59 #[v] w fun e w' => e = .returned (.bool true) ∧ w = w' := by
  rcases h with rfl | ⟨p, rfl, h⟩
  · exact dead_nil w
  · exact dead_zero p w h
theorem SPage_no (v : Value) (n : Int) (w : World) (h : NoShelf w v) : Calls Try.prog 31 #[v, .int .u32 n] w fun e w' => e = .returned nilV ∧ Below w.heap.size w w' := by
  go_enter Try.func31, Try.ntmps31
  go_wp2_with fail
  refine (dead_any _ _ (h.alloc _)).mono ?_
  rintro e w1 ⟨rfl, rfl⟩
  go_wp2_with fail
  exact bodyPost_ret (v := nilV) (by simp [results, Try.results31, go_sem]; rfl) rfl ⟨rfl, (Below.refl _ _).alloc (Nat.le_refl _) _⟩
theorem SLay_no (v : Value) (k n r : Int) (s : ByteArray) (w : World) (h : NoShelf w v) : Calls Try.prog 35 #[v, .agg #[.int .u8 k, .int .u32 n, .int .u64 r, .string s]] w fun e w' => e = .returned (.int .i64 1) ∧ Below w.heap.size w w' := by
  go_enter Try.func35, Try.ntmps35
  go_wp2_with fail
  refine (dead_any _ _ (h.alloc _)).mono ?_
  rintro e w1 ⟨rfl, rfl⟩
  go_wp2_with fail
  go_ret
  exact ⟨rfl, (Below.refl _ _).alloc (Nat.le_refl _) _⟩
theorem SNumbers_no (v : Value) (w : World) (h : NoShelf w v) : Calls Try.prog 36 #[v] w fun e w' => e = .returned (.slice none 0 0) ∧ Below w.heap.size w w' := by
  go_enter Try.func36, Try.ntmps36
  go_wp2_with fail
  refine (dead_any _ _ h).mono ?_
  rintro e w1 ⟨rfl, rfl⟩
  go_wp2_with fail
  go_ret
  exact ⟨rfl, Below.refl _ _⟩

set_option maxHeartbeats 2000000 in
theorem PageNil_walk (v0 : Value) (w : World) (h0 : ∃ k n r s, v0 = .agg #[.int .u8 k, .int .u32 n, .int .u64 r, .string s] ∧ (0 ≤ k ∧ k < 256) ∧ (0 ≤ n ∧ n < 4294967296) ∧ (0 ≤ r ∧ r < 18446744073709551616) ∧ s.size ≤ 9223372036854775807) :
    Calls Try.prog 13 #[v0] w fun e w' => e = .returned (.bool true) ∧ Below w.heap.size w w' := by
  obtain ⟨k, n, r, s, rfl, hk, hn, hr, hs⟩ := h0
  have P0 := Lib.hid (heap_new w (.cells #[.int .u8 k, .int .u32 n, .int .u64 r, .string s] 28))
  have B0 := Lib.hid ((Below.refl w.heap.size w).alloc (Nat.le_refl _) (.cells #[.int .u8 k, .int .u32 n, .int .u64 r, .string s] 28))
  go_enter Try.func13, Try.ntmps13
  go_wp2_with fail
  refine (Sheets_nil _ _).mono ?_
  rintro e w1 ⟨rfl, hb1⟩
  have P1 := Lib.hid (heap_below P0.out hb1 (by simp only [World.size_alloc]; omega))
  have B1 := Lib.hid (B0.out.trans (hb1.mono (by simp only [World.size_alloc]; omega)))
  have z1 := heap_lt P1.out
  obtain ⟨p0, p1, p2, p3, _⟩ := blk4 P1.out
  simp only [nilV]
  clear hb1 P0 B0
  go_wp2_with fail
  clear p0 p1 p2 p3
  refine (Sheets_zero _ _ _ (by go_simp)).mono ?_
  rintro e w2 ⟨rfl, hb2⟩
  have P2 := Lib.hid (heap_below (heap_alloc (heap_alloc P1.out)) hb2 (by simp only [World.size_alloc]; omega))
  have B2 := Lib.hid (((B1.out.alloc (by omega) _).alloc (by simp only [World.size_alloc]; omega) _).trans (hb2.mono (by simp only [World.size_alloc]; omega)))
  have z2 := heap_lt P2.out
  obtain ⟨p0, p1, p2, p3, _⟩ := blk4 P2.out
  simp only [nilV]
  clear hb2 P1 B1
  go_wp2_with fail
  clear p0 p1 p2 p3
  refine (SPage_no _ _ _ (Or.inl rfl)).mono ?_
  rintro e w3 ⟨rfl, hb3⟩
  have P3 := Lib.hid (heap_below (heap_alloc P2.out) hb3 (by simp only [World.size_alloc]; omega))
  have B3 := Lib.hid ((B2.out.alloc (by omega) _).trans (hb3.mono (by simp only [World.size_alloc]; omega)))
  have z3 := heap_lt P3.out
  obtain ⟨p0, p1, p2, p3, _⟩ := blk4 P3.out
  simp only [nilV]
  clear hb3 P2 B2
  go_wp2_with fail
  clear p0 p1 p2 p3
  refine (SPage_no _ _ _ (Or.inr ⟨_, rfl, by go_simp⟩)).mono ?_
  rintro e w4 ⟨rfl, hb4⟩
  have P4 := Lib.hid (heap_below (heap_alloc (heap_alloc P3.out)) hb4 (by simp only [World.size_alloc]; omega))
  have B4 := Lib.hid (((B3.out.alloc (by omega) _).alloc (by simp only [World.size_alloc]; omega) _).trans (hb4.mono (by simp only [World.size_alloc]; omega)))
  have z4 := heap_lt P4.out
  obtain ⟨p0, p1, p2, p3, _⟩ := blk4 P4.out
  simp only [nilV]
  clear hb4 P3 B3
  go_wp2_with fail
  have N4 : Hid (NoShelf ((w4.alloc (.cells #[.int .u8 0, .int .u32 0, .int .u64 0, .string ⟨#[]⟩] 28)).alloc (.cells #[.int .i64 0, .int .i64 0, .map none] 86)) (.pointer (some ⟨w4.heap.size + 1, 0, none⟩))) :=
    Lib.hid (Or.inr ⟨_, rfl, by go_simp⟩)
  clear p0 p1 p2 p3
  refine (SLay_no _ _ _ _ _ _ (Or.inl rfl)).mono ?_
  rintro e w5 ⟨rfl, hb5⟩
  have P5 := Lib.hid (heap_below (heap_alloc (heap_alloc P4.out)) hb5 (by simp only [World.size_alloc]; omega))
  have B5 := Lib.hid (((B4.out.alloc (by omega) _).alloc (by simp only [World.size_alloc]; omega) _).trans (hb5.mono (by simp only [World.size_alloc]; omega)))
  have N5 := Lib.hid (N4.out.below hb5)
  have z5 := heap_lt P5.out
  obtain ⟨p0, p1, p2, p3, _⟩ := blk4 P5.out
  clear hb5 P4 B4 N4
  go_wp2_with fail
  clear p0 p1 p2 p3
  refine (SLay_no _ _ _ _ _ _ N5.out).mono ?_
  rintro e w6 ⟨rfl, hb6⟩
  have B6 := Lib.hid (B5.out.trans (hb6.mono (by omega)))
  have N6 := Lib.hid (N5.out.below hb6)
  have z6 := hb6.size
  clear hb6 P5 B5 N5
  go_wp2_with fail
  refine (SNumbers_no _ _ (Or.inl rfl)).mono ?_
  rintro e w7 ⟨rfl, hb7⟩
  have B7 := Lib.hid (B6.out.trans (hb7.mono (by omega)))
  have N7 := Lib.hid (N6.out.below hb7)
  have z7 := hb7.size
  clear hb7 B6 N6
  go_wp2_with fail
  refine (SNumbers_no _ _ N7.out).mono ?_
  rintro e w8 ⟨rfl, hb8⟩
  have B8 := Lib.hid (B7.out.trans (hb8.mono (by omega)))
  have z8 := hb8.size
  clear hb8 B7 N7
  go_wp2_with fail
  refine (awake_any _).mono ?_
  rintro e w9 ⟨rfl, hb9⟩
  go_wp2_with fail
  go_ret
  exact ⟨rfl, B8.out.trans (hb9.mono (by omega))⟩
end Go.Proofs.Ytfhfeaipdmcekaa
