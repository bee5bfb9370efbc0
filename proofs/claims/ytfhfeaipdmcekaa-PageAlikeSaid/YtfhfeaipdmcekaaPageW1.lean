/-
  The walks of page.May, the reference's May, the laws' plain; the law PageMay.
-/
import Derived.Test.YtfhfeaipdmcekaaOwnB
namespace Go.Proofs.Ytfhfeaipdmcekaa
open Go.RowKit

def mayB (a b : Int) : Bool := (a == 1024 || a == 2048 || a == 4096 || a == 8192) && (decide (1 ≤ b) && decide (b ≤ 32))

theorem bcell {W w1 : World} (hb : Below W.heap.size W w1) : (∀ b o, b < W.heap.size → w1.cell? ⟨b, o, none⟩ = W.cell? ⟨b, o, none⟩) ∧ (∀ b o, b < W.heap.size → w1.frozen? ⟨b, o, none⟩ = W.frozen? ⟨b, o, none⟩) :=
  ⟨fun b o h => hb.cell (p := ⟨b, o, none⟩) h, fun b o h => hb.frozen (p := ⟨b, o, none⟩) h⟩

set_option maxHeartbeats 1000000 in
theorem May_any (a b : Int) (w : World) :
    Calls Try.prog 15 #[.agg #[.int .i64 a, .int .i64 b]] w fun e w' => e = .returned (.bool (mayB a b)) ∧ Below w.heap.size w w' := by
  by_cases h1 : a = 1024 ∨ a = 2048 ∨ a = 4096 ∨ a = 8192
  · rcases h1 with rfl | rfl | rfl | rfl
    all_goals
      by_cases h2 : 1 ≤ b
      · have hd : decide (1 ≤ b) = true := by simpa using h2
        go_enter Try.func15, Try.ntmps15
        go_wp2
        go_ret
        exact ⟨by simp [mayB, h2], (Below.refl _ _).alloc (Nat.le_refl _) _⟩
      · have hd : decide (1 ≤ b) = false := by simpa using h2
        go_enter Try.func15, Try.ntmps15
        go_wp2
        go_ret
        exact ⟨by simp only [mayB, hd]; rfl, (Below.refl _ _).alloc (Nat.le_refl _) _⟩
  · have e1 : (a == 1024) = false := by simp; omega
    have e2 : (a == 2048) = false := by simp; omega
    have e3 : (a == 4096) = false := by simp; omega
    have e4 : (a == 8192) = false := by simp; omega
    go_enter Try.func15, Try.ntmps15
    go_wp2
    go_ret
    exact ⟨by simp only [mayB, e1, e2, e3, e4]; rfl, (Below.refl _ _).alloc (Nat.le_refl _) _⟩

set_option maxHeartbeats 1000000 in
theorem refMay_any (a b : Int) (w : World) :
    Calls Try.prog 16 #[.agg #[.int .i64 a, .int .i64 b]] w fun e w' => e = .returned (.bool (mayB a b)) ∧ Below w.heap.size w w' := by
  by_cases h1 : a = 1024 ∨ a = 2048 ∨ a = 4096 ∨ a = 8192
  · rcases h1 with rfl | rfl | rfl | rfl
    all_goals
      by_cases h2 : 1 ≤ b
      · have hd : decide (1 ≤ b) = true := by simpa using h2
        go_enter Try.func16, Try.ntmps16
        go_wp2
        go_ret
        exact ⟨by simp [mayB, h2], (Below.refl _ _).alloc (Nat.le_refl _) _⟩
      · have hd : decide (1 ≤ b) = false := by simpa using h2
        go_enter Try.func16, Try.ntmps16
        go_wp2
        go_ret
        exact ⟨by simp only [mayB, hd]; rfl, (Below.refl _ _).alloc (Nat.le_refl _) _⟩
  · have e1 : (a == 1024) = false := by simp; omega
    have e2 : (a == 2048) = false := by simp; omega
    have e3 : (a == 4096) = false := by simp; omega
    have e4 : (a == 8192) = false := by simp; omega
    go_enter Try.func16, Try.ntmps16
    go_wp2
    go_ret
    exact ⟨by simp only [mayB, e1, e2, e3, e4]; rfl, (Below.refl _ _).alloc (Nat.le_refl _) _⟩

def ab : ByteArray := ⟨#[97, 98]⟩
set_option maxHeartbeats 1000000 in
theorem plain_any (w : World) :
    Calls Try.prog 14 #[] w fun e w' => e = .returned (.tuple #[.agg #[.int .i64 1024, .int .i64 32], .agg #[.int .u8 1, .int .u32 2, .int .u64 1, .string ab]]) ∧ Below w.heap.size w w' := by
  go_enter Try.func14, Try.ntmps14
  go_wp2
  exact bodyPost_ret (v := .tuple #[.agg #[.int .i64 1024, .int .i64 32], .agg #[.int .u8 1, .int .u32 2, .int .u64 1, .string ab]]) (by simp [results, Try.results14, go_sem, ab]) rfl ⟨rfl, ((Below.refl _ _).alloc (Nat.le_refl _) _).alloc (by simp) _⟩


set_option maxHeartbeats 1000000 in
theorem PageMay_any (a b : Int) (w : World) :
    Calls Try.prog 3 #[.agg #[.int .i64 a, .int .i64 b]] w fun e w' => e = .returned (.bool true) ∧ Below w.heap.size w w' := by
  have hg : mayB 1024 32 = true := rfl
  go_enter Try.func3, Try.ntmps3
  go_wp2_with fail
  refine (plain_any _).mono ?_
  rintro e w1 ⟨rfl, hb1⟩
  have hz1 : w.heap.size + 1 ≤ w1.heap.size := by have := hb1.size; simp at this; omega
  have hw1 : Below w.heap.size w w1 := ((Below.refl _ _).alloc (Nat.le_refl _) _).trans (hb1.mono (by simp))
  have c0 : w1.cell? ⟨w.heap.size, 0, none⟩ = some (.int .i64 a) := cellB hb1 (by simp) (by go_simp)
  have c1 : w1.cell? ⟨w.heap.size, 1, none⟩ = some (.int .i64 b) := cellB hb1 (by simp) (by go_simp)
  clear hb1
  go_wp2_with fail
  refine wp_name (fun W => W.cell? ⟨w.heap.size, 0, none⟩ = some (.int .i64 a) ∧ W.cell? ⟨w.heap.size, 1, none⟩ = some (.int .i64 b) ∧ W.cell? ⟨w1.heap.size, 0, none⟩ = some (.int .i64 1024) ∧ W.cell? ⟨w1.heap.size, 1, none⟩ = some (.int .i64 32) ∧ Below w.heap.size w W ∧ w1.heap.size < W.heap.size)
    ⟨cellA (cellA c0), cellA (cellA c1), by go_simp, by go_simp, (hw1.alloc (by omega) _).alloc (by simp; omega) _, by simp; omega⟩ ?_
  rintro Wb ⟨h1, h2, h3, h4, h5, h6⟩
  clear hw1 c0 c1
  go_region_held3 (fun W => W.cell? ⟨w.heap.size, 0, none⟩ = some (.int .i64 a) ∧ W.cell? ⟨w.heap.size, 1, none⟩ = some (.int .i64 b) ∧ W.cell? ⟨w1.heap.size, 0, none⟩ = some (.int .i64 1024) ∧ W.cell? ⟨w1.heap.size, 1, none⟩ = some (.int .i64 32) ∧ Below w.heap.size w W ∧ w1.heap.size < W.heap.size)
    (first | exact ⟨h1, h2, h3, h4, h5.drew, h6⟩ | (go_split_ands; exact ⟨cellB hb (by omega) (by assumption), cellB hb (by omega) (by assumption), cellB hb (by omega) (by assumption), cellB hb (by omega) (by assumption), Below.trans (by assumption) (hb.mono (by omega)), Nat.lt_of_lt_of_le (by assumption) hb.size⟩))
    (first | (go_at_call 15; refine (May_any _ _ _).mono ?_; rintro e w2 ⟨rfl, hb⟩) | (go_at_call 16; refine (refMay_any _ _ _).mono ?_; rintro e w2 ⟨rfl, hb⟩))
  rename_i hH
  go_wp2
  go_ret
  exact ⟨rfl, hH.2.2.2.2.1⟩

theorem PageMay_walk (v : Value) (w : World) (h : ∃ a b, v = .agg #[.int .i64 a, .int .i64 b] ∧ (-9223372036854775808 ≤ a ∧ a ≤ 9223372036854775807) ∧ (-9223372036854775808 ≤ b ∧ b ≤ 9223372036854775807)) :
    Calls Try.prog 3 #[v] w fun e w' => e = .returned (.bool true) ∧ Below w.heap.size w w' := by
  obtain ⟨a, b, rfl, _, _⟩ := h
  exact PageMay_any a b w
end Go.Proofs.Ytfhfeaipdmcekaa
