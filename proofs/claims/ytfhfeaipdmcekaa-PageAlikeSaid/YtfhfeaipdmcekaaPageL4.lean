/-
  The walk of the law PageBack.
-/
import Derived.Test.YtfhfeaipdmcekaaPageL3
namespace Go.Proofs.Ytfhfeaipdmcekaa
open Go.RowKit Hw
set_option linter.unusedVariables false

theorem told_bd (s : ByteArray) (i n : Nat) : told (piece s i n) < 256 ^ n := by
  have h := told_lt (piece s i n)
  have hl : (piece s i n).length ≤ n := by unfold piece; exact List.length_take_le _ _
  exact Nat.lt_of_lt_of_le h (Nat.pow_le_pow_right (by decide) hl)
theorem rd_bd (s : ByteArray) : rdK s < 256 ∧ rdN s < 4294967296 ∧ rdR s < 18446744073709551616 := by
  have h1 := told_bd s 5 1
  have h2 := told_bd s 8 4
  have h3 := told_bd s 16 8
  have e1 : (256 : Nat) ^ 1 = 256 := by decide
  have e2 : (256 : Nat) ^ 4 = 4294967296 := by decide
  have e3 : (256 : Nat) ^ 8 = 18446744073709551616 := by decide
  rw [e1] at h1
  rw [e2] at h2
  rw [e3] at h3
  exact ⟨h1, h2, h3⟩

theorem readC_zero {a b : Int} {s : ByteArray} (h : readC a b s = 0) :
    mayB a b = true ∧ (s.size : Int) = a ∧ bstr (sumOf s) = s.extract 28 32 ∧ (rdL s : Int) ≤ a - 32 ∧ writeS a b (rdK s) (rdN s) (rdR s) (rdB s) = s ∧ checkI a b (rdK s) (rdN s) (rdR s) (rdB s).size = 0 := by
  unfold readC at h
  by_cases h1 : mayB a b = false
  · rw [if_pos h1] at h; omega
  rw [if_neg h1] at h
  by_cases h2 : (s.size : Int) ≠ a
  · rw [if_pos h2] at h; omega
  rw [if_neg h2] at h
  by_cases h3 : bstr (sumOf s) ≠ s.extract 28 32
  · rw [if_pos h3] at h; omega
  rw [if_neg h3] at h
  by_cases h4 : a - 32 < (rdL s : Int)
  · rw [if_pos h4] at h; omega
  rw [if_neg h4] at h
  by_cases h5 : writeS a b (rdK s) (rdN s) (rdR s) (rdB s) ≠ s
  · rw [if_pos h5] at h; omega
  have hm : mayB a b = true := by simpa using h1
  have hs : (s.size : Int) = a := by simpa using h2
  have hw : writeS a b (rdK s) (rdN s) (rdR s) (rdB s) = s := by simpa using h5
  refine ⟨hm, hs, by simpa using h3, by omega, hw, ?_⟩
  refine Decidable.byContradiction fun hc => ?_
  rw [writeS, if_neg hc] at hw
  have hp := mayB_page hm
  rw [← hw] at hs
  have : ((⟨#[]⟩ : ByteArray).size : Int) = 0 := rfl
  omega

set_option maxHeartbeats 4000000 in
theorem PageBack_walk (v0 v1 : Value) (w : World) (h0 : ∃ a b, v0 = .agg #[.int .i64 a, .int .i64 b] ∧ (-9223372036854775808 ≤ a ∧ a ≤ 9223372036854775807) ∧ (-9223372036854775808 ≤ b ∧ b ≤ 9223372036854775807))
    (h1 : ∃ s, v1 = .string s ∧ s.size ≤ 9223372036854775807) :
    Calls Try.prog 6 #[v0, v1] w fun e w' => e = .returned (.bool true) ∧ Below w.heap.size w w' := by
  obtain ⟨a, b, rfl, ha, hb⟩ := h0
  obtain ⟨s, rfl, hs⟩ := h1
  obtain ⟨k, n, r, c, t, hV, hc, hv, hv'⟩ := readV_form a b s
  have hbd := rd_bd s
  have hfin : Hid (c = 0 → (0 ≤ k ∧ k < 256) ∧ (0 ≤ n ∧ n < 4294967296) ∧ (0 ≤ r ∧ r < 18446744073709551616) ∧ t.size ≤ 9223372036854775807 ∧ writeS a b k n r t = s ∧ checkI a b k n r t.size = 0 ∧ (s.size : Int) = a) := by
    intro h0
    obtain ⟨e1, e2, e3, e4⟩ := hv h0
    obtain ⟨g1, g2, g3, g4, g5, g6⟩ := readC_zero (hc.symm.trans h0)
    rw [e1, e2, e3, e4]
    have hp := mayB_page g1
    have hB : (rdB s).size ≤ s.size := by unfold rdB; rw [ByteArray.size_extract]; omega
    exact ⟨by omega, by omega, by omega, by omega, g5, g6, g2⟩
  have HR := Lib.hid (Read_any a b s)
  have Hv' := Lib.hid hv'
  rw [hV] at HR
  clear hV hc hv hbd hv'
  have B0 := Lib.hid ((Below.refl w.heap.size w).alloc (Nat.le_refl _) (.cells #[.int .i64 a, .int .i64 b] 23))
  have F0 := Lib.hid (heap_new w (.cells #[.int .i64 a, .int .i64 b] 23))
  go_enter Try.func6, Try.ntmps6
  go_wp2_with fail
  refine (HR.out _ ha hs).mono ?_
  rintro e w1 ⟨rfl, hb1⟩
  have B1 := Lib.hid (B0.out.trans (hb1.mono (by simp only [World.size_alloc]; omega)))
  have F1 := Lib.hid (heap_below F0.out hb1 (by simp only [World.size_alloc]; omega))
  have hz1 := heap_lt F1.out
  clear hb1 B0 F0
  have f0 : w1.cell? ⟨w.heap.size, 0, none⟩ = some (.int .i64 a) := by rw [heap_cell F1.out]; rfl
  have f1 : w1.cell? ⟨w.heap.size, 1, none⟩ = some (.int .i64 b) := by rw [heap_cell F1.out]; rfl
  by_cases hc0 : c = 0
  · obtain ⟨bk, bn, br, bt, hW, hC, hS⟩ := hfin.out hc0
    have HW := Lib.hid (Write_any a b k n r t)
    rw [hW, hC] at HW
    have HS := Lib.hid hS
    subst hc0
    clear hW hC hS
    go_wp2_with fail
    refine (HW.out _ ha bk bn br bt).mono ?_
    rintro e w2 ⟨rfl, hb2⟩
    have B2 := Lib.hid ((B1.out.alloc (by omega) _).trans (hb2.mono (by simp only [World.size_alloc]; omega)))
    have F2 := Lib.hid (heap_below (heap_alloc F1.out) hb2 (by simp only [World.size_alloc]; omega))
    clear hb2
    have g0 : w2.cell? ⟨w.heap.size, 0, none⟩ = some (.int .i64 a) := by rw [heap_cell F2.out]; rfl
    have d1 : ((s.size : Int) == a) = true := by rw [HS.out]; simp
    have hz2 := heap_lt F2.out
    go_wp2_with fail
    refine (awake_any _).mono ?_
    rintro e w5 ⟨rfl, hb5⟩
    go_wp2_with fail
    go_ret
    exact ⟨rfl, B2.out.trans (hb5.mono (by omega))⟩
  · have d0 : (c != 0) = true := by rw [bne_iff_ne]; exact hc0
    obtain ⟨rfl, rfl, rfl, rfl⟩ := Hv'.out hc0
    clear hc0
    go_wp2_with fail
    refine (awake_any _).mono ?_
    rintro e w5 ⟨rfl, hb5⟩
    go_wp2_with fail
    go_ret
    exact ⟨rfl, (B1.out.alloc (by omega) _).trans (hb5.mono (by simp only [World.size_alloc]; omega))⟩
end Go.Proofs.Ytfhfeaipdmcekaa
