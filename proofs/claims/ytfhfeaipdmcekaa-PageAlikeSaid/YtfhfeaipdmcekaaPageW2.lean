/-
  The walks of page.named, Frame.Room, page.Check, the reference's Check.
-/
import Derived.Test.YtfhfeaipdmcekaaPageW1
namespace Go.Proofs.Ytfhfeaipdmcekaa
open Go.RowKit
set_option linter.unusedVariables false

def checkI (a b k n r : Int) (len : Nat) : Int :=
  if mayB a b = false then 2 else if k < 1 ∨ 3 < k then 50 else if n < 2 ∨ 2147483648 ≤ n ∨ r < 1 ∨ 1099511627776 < r then 2 else if a - 32 < len then 4 else 0

theorem mayB_page {a b : Int} (h : mayB a b = true) : (a = 1024 ∨ a = 2048 ∨ a = 4096 ∨ a = 8192) ∧ 1 ≤ b ∧ b ≤ 32 := by
  simp [mayB] at h; omega

theorem checkI_zero {a b k n r : Int} {len : Nat} (h : checkI a b k n r len = 0) : mayB a b = true ∧ 1 ≤ k ∧ k ≤ 3 ∧ 2 ≤ n ∧ n < 2147483648 ∧ 1 ≤ r ∧ r ≤ 1099511627776 ∧ (len : Int) ≤ a - 32 := by
  unfold checkI at h
  cases hm : mayB a b
  · rw [if_pos hm] at h; omega
  · rw [if_neg (by rw [hm]; simp)] at h
    by_cases h1 : k < 1 ∨ 3 < k
    · rw [if_pos h1] at h; omega
    · rw [if_neg h1] at h
      by_cases h2 : n < 2 ∨ 2147483648 ≤ n ∨ r < 1 ∨ 1099511627776 < r
      · rw [if_pos h2] at h; omega
      · rw [if_neg h2] at h
        by_cases h3 : a - 32 < (len : Int)
        · rw [if_pos h3] at h; omega
        · exact ⟨rfl, by omega⟩

def namedB (n : Int) : Bool := decide (2 ≤ n) && decide (n < 2147483648)
set_option maxHeartbeats 1000000 in
theorem named_any (n : Int) (w : World) (hn : 0 ≤ n ∧ n < 4294967296) :
    Calls Try.prog 37 #[.int .u32 n] w fun e w' => e = .returned (.bool (namedB n)) ∧ w = w' := by
  by_cases h : 2 ≤ n
  · have hd : decide (2 ≤ n) = true := by simpa using h
    go_enter Try.func37, Try.ntmps37
    go_wp2
    go_ret
    exact ⟨by simp only [namedB, hd, Bool.true_and]; rfl, rfl⟩
  · have hd : decide (2 ≤ n) = false := by simpa using h
    go_enter Try.func37, Try.ntmps37
    go_wp2
    go_ret
    exact ⟨by simp only [namedB, hd]; rfl, rfl⟩

set_option maxHeartbeats 1000000 in
theorem Room_any (a b : Int) (w : World) (ha : -9223372036854775776 ≤ a ∧ a ≤ 9223372036854775807) :
    Calls Try.prog 38 #[.agg #[.int .i64 a, .int .i64 b]] w fun e w' => e = .returned (.int .i64 (a - 32)) ∧ Below w.heap.size w w' := by
  go_enter Try.func38, Try.ntmps38
  go_wp2
  go_ret
  exact ⟨rfl, (Below.refl _ _).alloc (Nat.le_refl _) _⟩

set_option maxHeartbeats 4000000 in
theorem Check_any (a b k n r : Int) (s : ByteArray) (w : World) (ha : -9223372036854775808 ≤ a ∧ a ≤ 9223372036854775807) (hk : 0 ≤ k ∧ k < 256) (hn : 0 ≤ n ∧ n < 4294967296) (hr : 0 ≤ r ∧ r < 18446744073709551616) (hs : s.size ≤ 9223372036854775807) :
    Calls Try.prog 18 #[.agg #[.int .i64 a, .int .i64 b], .agg #[.int .u8 k, .int .u32 n, .int .u64 r, .string s]] w fun e w' => e = .returned (.int .i64 (checkI a b k n r s.size)) ∧ Below w.heap.size w w' := by
  have H0 : Below w.heap.size w ((w.alloc (.cells #[.int .i64 a, .int .i64 b] 23)).alloc (.cells #[.int .u8 k, .int .u32 n, .int .u64 r, .string s] 28)) := ((Below.refl _ _).alloc (Nat.le_refl _) _).alloc (by simp) _
  cases hm : mayB a b
  · have HM := Lib.hid hm
    go_enter Try.func18, Try.ntmps18
    go_wp2_with fail
    refine (May_any _ _ _).mono ?_
    rintro e w1 ⟨rfl, hb1⟩
    rw [HM.out]
    go_wp2_with fail
    go_ret
    exact ⟨by rw [checkI, if_pos HM.out]; rfl, H0.trans (hb1.mono (by simp only [World.size_alloc]; omega))⟩
  · have HM := Lib.hid hm
    have hp := mayB_page hm
    have hp1 : 1024 ≤ a ∧ a ≤ 8192 := by omega
    clear hm hp
    have step : ∀ (w1 : World), Below ((w.alloc (.cells #[.int .i64 a, .int .i64 b] 23)).alloc (.cells #[.int .u8 k, .int .u32 n, .int .u64 r, .string s] 28)).heap.size ((w.alloc (.cells #[.int .i64 a, .int .i64 b] 23)).alloc (.cells #[.int .u8 k, .int .u32 n, .int .u64 r, .string s] 28)) w1 →
        Hid (Below w.heap.size w w1) ∧ w.heap.size + 1 < w1.heap.size ∧ w1.cell? ⟨w.heap.size, 0, none⟩ = some (.int .i64 a) ∧ w1.cell? ⟨w.heap.size, 1, none⟩ = some (.int .i64 b) ∧ w1.cell? ⟨w.heap.size + 1, 0, none⟩ = some (.int .u8 k) ∧
        w1.cell? ⟨w.heap.size + 1, 1, none⟩ = some (.int .u32 n) ∧ w1.cell? ⟨w.heap.size + 1, 2, none⟩ = some (.int .u64 r) ∧ w1.cell? ⟨w.heap.size + 1, 3, none⟩ = some (.string s) := by
      intro w1 hb1
      have hz := hb1.size
      simp only [World.size_alloc] at hz
      exact ⟨H0.trans (hb1.mono (by simp only [World.size_alloc]; omega)), by omega, cellB hb1 (by simp only [World.size_alloc]; omega) (by go_simp), cellB hb1 (by simp only [World.size_alloc]; omega) (by go_simp), cellB hb1 (by simp only [World.size_alloc]; omega) (by go_simp), cellB hb1 (by simp only [World.size_alloc]; omega) (by go_simp), cellB hb1 (by simp only [World.size_alloc]; omega) (by go_simp), cellB hb1 (by simp only [World.size_alloc]; omega) (by go_simp)⟩
    by_cases k1 : k < 1
    · have k2 : decide (k < 1) = true := by simpa using k1
      go_enter Try.func18, Try.ntmps18
      go_wp2_with fail
      refine (May_any _ _ _).mono ?_
      rintro e w1 ⟨rfl, hb1⟩
      rw [HM.out]
      obtain ⟨hb, hz, c0, c1, c2, c3, c4, c5⟩ := step w1 hb1
      clear hb1 step
      go_wp2_with fail
      go_ret
      exact ⟨by rw [checkI, HM.out, if_neg (by simp), if_pos (by omega)]; rfl, hb.out⟩
    have k2 : decide (k < 1) = false := by simpa using k1
    by_cases k3 : 3 < k
    · have k4 : decide (3 < k) = true := by simpa using k3
      go_enter Try.func18, Try.ntmps18
      go_wp2_with fail
      refine (May_any _ _ _).mono ?_
      rintro e w1 ⟨rfl, hb1⟩
      rw [HM.out]
      obtain ⟨hb, hz, c0, c1, c2, c3, c4, c5⟩ := step w1 hb1
      clear hb1 step
      go_wp2_with fail
      go_ret
      exact ⟨by rw [checkI, HM.out, if_neg (by simp), if_pos (by omega)]; rfl, hb.out⟩
    have k4 : decide (3 < k) = false := by simpa using k3
    by_cases n1 : namedB n = false
    · have N1 := Lib.hid n1
      have n2 : n < 2 ∨ 2147483648 ≤ n := by simp [namedB] at n1; omega
      clear n1
      go_enter Try.func18, Try.ntmps18
      go_wp2_with fail
      refine (May_any _ _ _).mono ?_
      rintro e w1 ⟨rfl, hb1⟩
      rw [HM.out]
      obtain ⟨hb, hz, c0, c1, c2, c3, c4, c5⟩ := step w1 hb1
      clear hb1 step
      go_wp2_with fail
      refine (named_any _ _ hn).mono ?_
      rintro e w2 ⟨rfl, rfl⟩
      rw [N1.out]
      go_wp2_with fail
      go_ret
      exact ⟨by rw [checkI, HM.out, if_neg (by simp), if_neg (by omega), if_pos (by omega)]; rfl, hb.out⟩
    have n2 : namedB n = true := by simpa using n1
    have N1 := Lib.hid n2
    have n3 : 2 ≤ n ∧ n < 2147483648 := by simpa [namedB] using n2
    clear n1 n2
    by_cases r1 : r < 1
    · have r2 : decide (r < 1) = true := by simpa using r1
      go_enter Try.func18, Try.ntmps18
      go_wp2_with fail
      refine (May_any _ _ _).mono ?_
      rintro e w1 ⟨rfl, hb1⟩
      rw [HM.out]
      obtain ⟨hb, hz, c0, c1, c2, c3, c4, c5⟩ := step w1 hb1
      clear hb1 step
      go_wp2_with fail
      refine (named_any _ _ hn).mono ?_
      rintro e w2 ⟨rfl, rfl⟩
      rw [N1.out]
      go_wp2_with fail
      go_ret
      exact ⟨by rw [checkI, HM.out, if_neg (by simp), if_neg (by omega), if_pos (by omega)]; rfl, hb.out⟩
    have r2 : decide (r < 1) = false := by simpa using r1
    by_cases r3 : 1099511627776 < r
    · have r4 : decide (1099511627776 < r) = true := by simpa using r3
      go_enter Try.func18, Try.ntmps18
      go_wp2_with fail
      refine (May_any _ _ _).mono ?_
      rintro e w1 ⟨rfl, hb1⟩
      rw [HM.out]
      obtain ⟨hb, hz, c0, c1, c2, c3, c4, c5⟩ := step w1 hb1
      clear hb1 step
      go_wp2_with fail
      refine (named_any _ _ hn).mono ?_
      rintro e w2 ⟨rfl, rfl⟩
      rw [N1.out]
      go_wp2_with fail
      go_ret
      exact ⟨by rw [checkI, HM.out, if_neg (by simp), if_neg (by omega), if_pos (by omega)]; rfl, hb.out⟩
    have r4 : decide (1099511627776 < r) = false := by simpa using r3
    go_enter Try.func18, Try.ntmps18
    go_wp2_with fail
    refine (May_any _ _ _).mono ?_
    rintro e w1 ⟨rfl, hb1⟩
    rw [HM.out]
    obtain ⟨hb, hz, c0, c1, c2, c3, c4, c5⟩ := step w1 hb1
    clear hb1 step
    go_wp2_with fail
    refine (named_any _ _ hn).mono ?_
    rintro e w2 ⟨rfl, rfl⟩
    rw [N1.out]
    go_wp2_with fail
    clear c2 c3 c4
    go_region_held3 (fun W => W.cell? ⟨w.heap.size, 0, none⟩ = some (.int .i64 a) ∧ W.cell? ⟨w.heap.size, 1, none⟩ = some (.int .i64 b) ∧ W.cell? ⟨w.heap.size + 1, 3, none⟩ = some (.string s) ∧ Below w.heap.size w W ∧ w.heap.size + 1 < W.heap.size)
      (first | exact ⟨c0, c1, c5, hb.out.drew, hz⟩ | (go_split_ands; exact ⟨cellB hb2 (by omega) (by assumption), cellB hb2 (by omega) (by assumption), cellB hb2 (by omega) (by assumption), Below.trans (by assumption) (hb2.mono (by omega)), Nat.lt_of_lt_of_le (by assumption) hb2.size⟩))
      (first | (go_at_call 38; refine (Room_any _ _ _ (by omega)).mono ?_; rintro e w2 ⟨rfl, hb2⟩))
    rename_i hH
    by_cases l1 : a - 32 < (s.size : Int)
    · go_wp2
      go_ret
      exact ⟨by rw [checkI, HM.out, if_neg (by simp), if_neg (by omega), if_neg (by omega), if_pos l1]; rfl, hH.2.2.2.1⟩
    · go_wp2
      go_ret
      exact ⟨by rw [checkI, HM.out, if_neg (by simp), if_neg (by omega), if_neg (by omega), if_neg (by omega)]; rfl, hH.2.2.2.1⟩


set_option maxHeartbeats 4000000 in
theorem refCheck_any (a b k n r : Int) (s : ByteArray) (w : World) (ha : -9223372036854775808 ≤ a ∧ a ≤ 9223372036854775807) (hk : 0 ≤ k ∧ k < 256) (hn : 0 ≤ n ∧ n < 4294967296) (hr : 0 ≤ r ∧ r < 18446744073709551616) (hs : s.size ≤ 9223372036854775807) :
    Calls Try.prog 19 #[.agg #[.int .i64 a, .int .i64 b], .agg #[.int .u8 k, .int .u32 n, .int .u64 r, .string s]] w fun e w' => e = .returned (.int .i64 (checkI a b k n r s.size)) ∧ Below w.heap.size w w' := by
  have H0 : Below w.heap.size w ((w.alloc (.cells #[.int .i64 a, .int .i64 b] 23)).alloc (.cells #[.int .u8 k, .int .u32 n, .int .u64 r, .string s] 28)) := ((Below.refl _ _).alloc (Nat.le_refl _) _).alloc (by simp) _
  cases hm : mayB a b
  · have HM := Lib.hid hm
    go_enter Try.func19, Try.ntmps19
    go_wp2_with fail
    refine (refMay_any _ _ _).mono ?_
    rintro e w1 ⟨rfl, hb1⟩
    rw [HM.out]
    go_wp2_with fail
    go_ret
    exact ⟨by rw [checkI, if_pos HM.out]; rfl, H0.trans (hb1.mono (by simp only [World.size_alloc]; omega))⟩
  · have HM := Lib.hid hm
    have hp := mayB_page hm
    have hp1 : 1024 ≤ a ∧ a ≤ 8192 := by omega
    clear hm hp
    have step : ∀ (w1 : World), Below ((w.alloc (.cells #[.int .i64 a, .int .i64 b] 23)).alloc (.cells #[.int .u8 k, .int .u32 n, .int .u64 r, .string s] 28)).heap.size ((w.alloc (.cells #[.int .i64 a, .int .i64 b] 23)).alloc (.cells #[.int .u8 k, .int .u32 n, .int .u64 r, .string s] 28)) w1 →
        Hid (Below w.heap.size w w1) ∧ w.heap.size + 1 < w1.heap.size ∧ w1.cell? ⟨w.heap.size, 0, none⟩ = some (.int .i64 a) ∧ w1.cell? ⟨w.heap.size, 1, none⟩ = some (.int .i64 b) ∧ w1.cell? ⟨w.heap.size + 1, 0, none⟩ = some (.int .u8 k) ∧
        w1.cell? ⟨w.heap.size + 1, 1, none⟩ = some (.int .u32 n) ∧ w1.cell? ⟨w.heap.size + 1, 2, none⟩ = some (.int .u64 r) ∧ w1.cell? ⟨w.heap.size + 1, 3, none⟩ = some (.string s) := by
      intro w1 hb1
      have hz := hb1.size
      simp only [World.size_alloc] at hz
      exact ⟨H0.trans (hb1.mono (by simp only [World.size_alloc]; omega)), by omega, cellB hb1 (by simp only [World.size_alloc]; omega) (by go_simp), cellB hb1 (by simp only [World.size_alloc]; omega) (by go_simp), cellB hb1 (by simp only [World.size_alloc]; omega) (by go_simp), cellB hb1 (by simp only [World.size_alloc]; omega) (by go_simp), cellB hb1 (by simp only [World.size_alloc]; omega) (by go_simp), cellB hb1 (by simp only [World.size_alloc]; omega) (by go_simp)⟩
    by_cases k1 : k < 1
    · have k2 : decide (k < 1) = true := by simpa using k1
      go_enter Try.func19, Try.ntmps19
      go_wp2_with fail
      refine (refMay_any _ _ _).mono ?_
      rintro e w1 ⟨rfl, hb1⟩
      rw [HM.out]
      obtain ⟨hb, hz, c0, c1, c2, c3, c4, c5⟩ := step w1 hb1
      clear hb1 step
      go_wp2_with fail
      go_ret
      exact ⟨by rw [checkI, HM.out, if_neg (by simp), if_pos (by omega)]; rfl, hb.out⟩
    have k2 : decide (k < 1) = false := by simpa using k1
    by_cases k3 : 3 < k
    · have k4 : decide (3 < k) = true := by simpa using k3
      go_enter Try.func19, Try.ntmps19
      go_wp2_with fail
      refine (refMay_any _ _ _).mono ?_
      rintro e w1 ⟨rfl, hb1⟩
      rw [HM.out]
      obtain ⟨hb, hz, c0, c1, c2, c3, c4, c5⟩ := step w1 hb1
      clear hb1 step
      go_wp2_with fail
      go_ret
      exact ⟨by rw [checkI, HM.out, if_neg (by simp), if_pos (by omega)]; rfl, hb.out⟩
    have k4 : decide (3 < k) = false := by simpa using k3
    by_cases n0 : n < 2
    · have d0 : decide (n < 2) = true := by simpa using n0
      go_enter Try.func19, Try.ntmps19
      go_wp2_with fail
      refine (refMay_any _ _ _).mono ?_
      rintro e w1 ⟨rfl, hb1⟩
      rw [HM.out]
      obtain ⟨hb, hz, c0, c1, c2, c3, c4, c5⟩ := step w1 hb1
      clear hb1 step
      go_wp2_with fail
      go_ret
      exact ⟨by rw [checkI, HM.out, if_neg (by simp), if_neg (by omega), if_pos (by omega)]; rfl, hb.out⟩
    have d0 : decide (n < 2) = false := by simpa using n0
    by_cases n1 : 2147483648 ≤ n
    · have d1 : decide (2147483648 ≤ n) = true := by simpa using n1
      go_enter Try.func19, Try.ntmps19
      go_wp2_with fail
      refine (refMay_any _ _ _).mono ?_
      rintro e w1 ⟨rfl, hb1⟩
      rw [HM.out]
      obtain ⟨hb, hz, c0, c1, c2, c3, c4, c5⟩ := step w1 hb1
      clear hb1 step
      go_wp2_with fail
      go_ret
      exact ⟨by rw [checkI, HM.out, if_neg (by simp), if_neg (by omega), if_pos (by omega)]; rfl, hb.out⟩
    have d1 : decide (2147483648 ≤ n) = false := by simpa using n1
    by_cases n2 : r < 1
    · have d2 : decide (r < 1) = true := by simpa using n2
      go_enter Try.func19, Try.ntmps19
      go_wp2_with fail
      refine (refMay_any _ _ _).mono ?_
      rintro e w1 ⟨rfl, hb1⟩
      rw [HM.out]
      obtain ⟨hb, hz, c0, c1, c2, c3, c4, c5⟩ := step w1 hb1
      clear hb1 step
      go_wp2_with fail
      go_ret
      exact ⟨by rw [checkI, HM.out, if_neg (by simp), if_neg (by omega), if_pos (by omega)]; rfl, hb.out⟩
    have d2 : decide (r < 1) = false := by simpa using n2
    by_cases n3 : 1099511627776 < r
    · have d3 : decide (1099511627776 < r) = true := by simpa using n3
      go_enter Try.func19, Try.ntmps19
      go_wp2_with fail
      refine (refMay_any _ _ _).mono ?_
      rintro e w1 ⟨rfl, hb1⟩
      rw [HM.out]
      obtain ⟨hb, hz, c0, c1, c2, c3, c4, c5⟩ := step w1 hb1
      clear hb1 step
      go_wp2_with fail
      go_ret
      exact ⟨by rw [checkI, HM.out, if_neg (by simp), if_neg (by omega), if_pos (by omega)]; rfl, hb.out⟩
    have d3 : decide (1099511627776 < r) = false := by simpa using n3
    by_cases l1 : a - 32 < (s.size : Int)
    · go_enter Try.func19, Try.ntmps19
      go_wp2_with fail
      refine (refMay_any _ _ _).mono ?_
      rintro e w1 ⟨rfl, hb1⟩
      rw [HM.out]
      obtain ⟨hb, hz, c0, c1, c2, c3, c4, c5⟩ := step w1 hb1
      clear hb1 step
      go_wp2_with fail
      go_ret
      exact ⟨by rw [checkI, HM.out, if_neg (by simp), if_neg (by omega), if_neg (by omega), if_pos l1]; rfl, hb.out⟩
    · go_enter Try.func19, Try.ntmps19
      go_wp2_with fail
      refine (refMay_any _ _ _).mono ?_
      rintro e w1 ⟨rfl, hb1⟩
      rw [HM.out]
      obtain ⟨hb, hz, c0, c1, c2, c3, c4, c5⟩ := step w1 hb1
      clear hb1 step
      go_wp2_with fail
      go_ret
      exact ⟨by rw [checkI, HM.out, if_neg (by simp), if_neg (by omega), if_neg (by omega), if_neg (by omega)]; rfl, hb.out⟩

end Go.Proofs.Ytfhfeaipdmcekaa
