/-
  The walk of the law PageWrite.
-/
import Derived.Test.YtfhfeaipdmcekaaPageL2
namespace Go.Proofs.Ytfhfeaipdmcekaa
open Go.RowKit Hw
set_option linter.unusedVariables false

theorem readV_form (a b : Int) (s : ByteArray) : ∃ (k n r c : Int) (t : ByteArray), readV a b s = .tuple #[.agg #[.int .u8 k, .int .u32 n, .int .u64 r, .string t], .int .i64 c] ∧ c = readC a b s ∧
    (c = 0 → k = rdK s ∧ n = rdN s ∧ r = rdR s ∧ t = rdB s) ∧ (c ≠ 0 → k = 0 ∧ n = 0 ∧ r = 0 ∧ t = ⟨#[]⟩) := by
  by_cases h0 : readC a b s = 0
  · exact ⟨rdK s, rdN s, rdR s, _, rdB s, by rw [readV, if_pos h0], rfl, fun _ => ⟨rfl, rfl, rfl, rfl⟩, fun h => absurd h0 h⟩
  · exact ⟨0, 0, 0, _, ⟨#[]⟩, by rw [readV, if_neg h0], rfl, fun h => absurd h h0, fun _ => ⟨rfl, rfl, rfl, rfl⟩⟩
theorem openV_form (a b no : Int) (s : ByteArray) : ∃ (k n r c : Int) (t : ByteArray), openV a b no s = .tuple #[.agg #[.int .u8 k, .int .u32 n, .int .u64 r, .string t], .int .i64 c] ∧ c = openC a b no s ∧
    (c = 0 → k = rdK s ∧ n = rdN s ∧ r = rdR s ∧ t = rdB s) ∧ (c ≠ 0 → k = 0 ∧ n = 0 ∧ r = 0 ∧ t = ⟨#[]⟩) := by
  by_cases h0 : openC a b no s = 0
  · exact ⟨rdK s, rdN s, rdR s, _, rdB s, by rw [openV, if_pos h0], rfl, fun _ => ⟨rfl, rfl, rfl, rfl⟩, fun h => absurd h0 h⟩
  · exact ⟨0, 0, 0, _, ⟨#[]⟩, by rw [openV, if_neg h0], rfl, fun h => absurd h h0, fun _ => ⟨rfl, rfl, rfl, rfl⟩⟩

set_option maxHeartbeats 4000000 in
theorem PageWrite_walk (v0 v1 : Value) (w : World) (h0 : ∃ a b, v0 = .agg #[.int .i64 a, .int .i64 b] ∧ (-9223372036854775808 ≤ a ∧ a ≤ 9223372036854775807) ∧ (-9223372036854775808 ≤ b ∧ b ≤ 9223372036854775807))
    (h1 : ∃ k n r s, v1 = .agg #[.int .u8 k, .int .u32 n, .int .u64 r, .string s] ∧ (0 ≤ k ∧ k < 256) ∧ (0 ≤ n ∧ n < 4294967296) ∧ (0 ≤ r ∧ r < 18446744073709551616) ∧ s.size ≤ 9223372036854775807) :
    Calls Try.prog 8 #[v0, v1] w fun e w' => e = .returned (.bool true) ∧ Below w.heap.size w w' := by
  obtain ⟨a, b, rfl, ha, hb⟩ := h0
  obtain ⟨k, n, r, s, rfl, hk, hn, hr, hs⟩ := h1
  have T0 := Lib.hid (TB.start w a b k n r s)
  have HW1 := Lib.hid (Write_any a b k n r s)
  have HW2 := Lib.hid (refWrite_any a b k n r s)
  -- what is written, and what is read of it
  obtain ⟨S, hS⟩ : ∃ S, writeS a b k n r s = S := ⟨_, rfl⟩
  obtain ⟨c, hc⟩ : ∃ c, checkI a b k n r s.size = c := ⟨_, rfl⟩
  have hSz : S.size ≤ 9223372036854775807 := by
    rw [← hS]
    by_cases h : checkI a b k n r s.size = 0
    · have hz := checkI_zero h
      have hp := mayB_page hz.1
      have hl : s.data.toList.length = s.size := by rw [Array.length_toList]; rfl
      rw [writeS, if_pos h, bstr_size, form_length (by rw [hl]; omega)]
      omega
    · rw [writeS, if_neg h]; decide
  obtain ⟨k1, n1, r1, c1, t1, hV1, hc1, hv1, hv1'⟩ := readV_form a b S
  obtain ⟨k2, n2, r2, c2, t2, hV2, hc2, hv2, hv2'⟩ := openV_form a b n S
  have hfin : Hid (c = 0 → (k1 = k ∧ n1 = n ∧ r1 = r ∧ t1 = s ∧ c1 = 0) ∧ (k2 = k ∧ n2 = n ∧ r2 = r ∧ t2 = s ∧ c2 = 0)) := by
    intro h0
    rw [h0] at hc
    obtain ⟨e1, e2, e3, e4, e5⟩ := read_write hk hn hr hc
    rw [hS] at e1 e2 e3 e4 e5
    have z1 : c1 = 0 := by rw [hc1, e1]
    have z2 : c2 = 0 := by rw [hc2, openC, e1, if_neg (by rw [e3]; simp)]
    obtain ⟨f1, f2, f3, f4⟩ := hv1 z1
    obtain ⟨g1, g2, g3, g4⟩ := hv2 z2
    exact ⟨⟨by rw [f1, e2], by rw [f2, e3], by rw [f3, e4], by rw [f4, e5], z1⟩, ⟨by rw [g1, e2], by rw [g2, e3], by rw [g3, e4], by rw [g4, e5], z2⟩⟩
  have HR := Lib.hid (Read_any a b S)
  have HO := Lib.hid (Open5_any a b n S)
  rw [hS, hc] at HW1 HW2
  rw [hV1] at HR
  rw [hV2] at HO
  have HSz := Lib.hid hSz
  clear hS hc hSz hV1 hc1 hv1 hv1' hV2 hc2 hv2 hv2'
  go_enter Try.func8, Try.ntmps8
  go_wp2_with fail
  refine (HW1.out _ ha hk hn hr hs).mono ?_
  rintro e w1 ⟨rfl, hb1⟩
  have T1 := Lib.hid (T0.out.below hb1 (by simp only [World.size_alloc]; omega))
  clear hb1 T0
  obtain ⟨f0, f1, p0, p1, p2, p3, _⟩ := T1.out.full
  go_wp2_with fail
  clear f0 f1 p0 p1 p2 p3
  refine (HW2.out _ ha hk hn hr hs).mono ?_
  rintro e w2 ⟨rfl, hb2⟩
  have T2 := Lib.hid (T1.out.call hb2)
  clear hb2 T1
  obtain ⟨f0, f1, p0, p1, p2, p3, _⟩ := T2.out.full
  go_wp2_with fail
  clear f0 f1 p0 p1 p2 p3
  refine (HR.out _ ha HSz.out).mono ?_
  rintro e w3 ⟨rfl, hb3⟩
  have T3 := Lib.hid (T2.out.call hb3)
  clear hb3 T2
  obtain ⟨f0, f1, p0, p1, p2, p3, _⟩ := T3.out.full
  have hz3 := T3.out.size
  have hy3 : w.heap.size < w3.heap.size := by omega
  go_wp2_with fail
  clear f0 f1 p0 p1 p2 p3
  refine (HO.out _ ha hn HSz.out).mono ?_
  rintro e w4 ⟨rfl, hb4⟩
  have T4 := Lib.hid ((T3.out.alloc _).call hb4)
  have hz4 := hb4.size
  simp only [World.size_alloc] at hz4
  have Q4 := Lib.hid (heap_below (heap_new w3 (.cells #[.int .u8 k1, .int .u32 n1, .int .u64 r1, .string t1] 28)) hb4 (by simp only [World.size_alloc]; omega))
  have hx4 := T4.out.size
  have hy4 : w.heap.size < w4.heap.size := by omega
  have hu4 : w3.heap.size < w4.heap.size := by omega
  clear hb4 T3
  obtain ⟨f0, f1, p0, p1, p2, p3, _⟩ := T4.out.full
  obtain ⟨q0, q1, q2, q3, _⟩ := blk4 Q4.out
  by_cases hc0 : c = 0
  · obtain ⟨⟨rfl, rfl, rfl, rfl, rfl⟩, ⟨rfl, rfl, rfl, rfl, rfl⟩⟩ := hfin.out hc0
    have d0 : (c != 0) = false := by rw [hc0]; rfl
    clear hc0
    go_wp2_with fail
    refine (awake_any _).mono ?_
    rintro e w5 ⟨rfl, hb5⟩
    have T5 := Lib.hid ((T4.out.alloc _).call hb5)
    clear hb5
    go_wp2_with fail
    go_ret
    exact ⟨rfl, T5.out.bel⟩
  · have d0 : (c != 0) = true := by rw [bne_iff_ne]; exact hc0
    clear hc0
    go_wp2_with fail
    refine (awake_any _).mono ?_
    rintro e w5 ⟨rfl, hb5⟩
    have T5 := Lib.hid ((T4.out.alloc _).call hb5)
    clear hb5
    go_wp2_with fail
    go_ret
    exact ⟨rfl, T5.out.bel⟩
end Go.Proofs.Ytfhfeaipdmcekaa
