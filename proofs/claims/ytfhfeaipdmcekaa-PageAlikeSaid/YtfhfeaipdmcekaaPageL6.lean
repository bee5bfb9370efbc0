/-
  The walks of the reference's Open and of the law PageRead.
-/
import Derived.Test.YtfhfeaipdmcekaaPageL5
namespace Go.Proofs.Ytfhfeaipdmcekaa
open Go.RowKit Hw
set_option linter.unusedVariables false

set_option maxHeartbeats 2000000 in
theorem refOpen5_any (a b no : Int) (s : ByteArray) (w : World) (ha : -9223372036854775808 ≤ a ∧ a ≤ 9223372036854775807) (hno : 0 ≤ no ∧ no < 4294967296) (hs : s.size ≤ 9223372036854775807) :
    Calls Try.prog 26 #[.agg #[.int .i64 a, .int .i64 b], .int .u32 no, .string s] w fun e w' => e = .returned (openV a b no s) ∧ Below w.heap.size w w' := by
  have HR := Lib.hid (refRead_any a b s)
  obtain ⟨c, hc⟩ : ∃ c, readC a b s = c := ⟨_, rfl⟩
  obtain ⟨k, n, r, t, hV, hkn⟩ : ∃ (k n r : Int) (t : ByteArray), readV a b s = .tuple #[.agg #[.int .u8 k, .int .u32 n, .int .u64 r, .string t], .int .i64 c] ∧
      (c = 0 → k = rdK s ∧ n = rdN s ∧ r = rdR s ∧ t = rdB s) ∧ (c ≠ 0 → k = 0 ∧ n = 0 ∧ r = 0 ∧ t = ⟨#[]⟩) := by
    by_cases h0 : c = 0
    · exact ⟨rdK s, rdN s, rdR s, rdB s, by rw [readV, hc, if_pos h0], fun _ => ⟨rfl, rfl, rfl, rfl⟩, fun h => absurd h0 h⟩
    · exact ⟨0, 0, 0, ⟨#[]⟩, by rw [readV, hc, if_neg h0], fun h => absurd h h0, fun _ => ⟨rfl, rfl, rfl, rfl⟩⟩
  rw [hV] at HR
  have Hkn := Lib.hid hkn
  have Hc := Lib.hid hc
  clear hV hkn hc
  have hres : (w.alloc (.cells #[.int .i64 a, .int .i64 b] 23)).alloc (.cells #[.int .u8 0, .int .u32 0, .int .u64 0, .string ⟨#[]⟩] 28) = (w.alloc (.cells #[.int .i64 a, .int .i64 b] 23)).alloc (.cells #[.int .u8 0, .int .u32 0, .int .u64 0, .string ⟨#[]⟩] 28) := rfl
  have R0 : ((w.alloc (.cells #[.int .i64 a, .int .i64 b] 23)).alloc (.cells #[.int .u8 0, .int .u32 0, .int .u64 0, .string ⟨#[]⟩] 28)).heap[w.heap.size + 1]? = some (.cells #[.int .u8 0, .int .u32 0, .int .u64 0, .string ⟨#[]⟩] 28 (0, 0)) := by
    have := heap_new (w.alloc (.cells #[.int .i64 a, .int .i64 b] 23)) (.cells #[.int .u8 0, .int .u32 0, .int .u64 0, .string ⟨#[]⟩] 28)
    simpa only [World.size_alloc] using this
  have B0 : Hid (Below w.heap.size w ((w.alloc (.cells #[.int .i64 a, .int .i64 b] 23)).alloc (.cells #[.int .u8 0, .int .u32 0, .int .u64 0, .string ⟨#[]⟩] 28))) := ((Below.refl _ _).alloc (Nat.le_refl _) _).alloc (by simp) _
  have HR0 := Lib.hid R0
  clear R0 hres
  go_enter Try.func26, Try.ntmps26
  go_wp2_with fail
  refine (HR.out _ ha hs).mono ?_
  rintro e w1 ⟨rfl, hb1⟩
  have R1 := Lib.hid (heap_below HR0.out hb1 (by simp only [World.size_alloc]; omega))
  have B1 := Lib.hid (B0.out.trans (hb1.mono (by simp only [World.size_alloc]; omega)))
  have hz1 := heap_lt R1.out
  clear hb1 HR0 B0
  have R2 := Lib.hid (heap_alloc (o' := .cells #[.int .u8 k, .int .u32 n, .int .u64 r, .string t] 28) R1.out)
  obtain ⟨q0, q1, q2, q3, k0, k1, k2, k3⟩ := blk4 R1.out
  by_cases hc0 : c = 0
  · have d0 : (c != 0) = false := by rw [hc0]; rfl
    by_cases hnn : n = no
    · have d1 : (n != no) = false := by rw [hnn]; simp
      have hO : Hid (openV a b no s = .tuple #[.agg #[.int .u8 k, .int .u32 n, .int .u64 r, .string t], .int .i64 0]) := by
        obtain ⟨e1, e2, e3, e4⟩ := Hkn.out.1 hc0
        have ho : openC a b no s = c := by rw [openC, Hc.out, if_neg (by rw [← e2]; exact fun h => h.2 hnn)]
        show _ = _
        rw [openV, ho, if_pos hc0, e1, e2, e3, e4, hc0]
      clear hc0 hnn
      go_wp2_with fail
      refine wpDone (fun W4 e4 => ?_)
      obtain ⟨h3, hB3⟩ := blk4_set_alloc R1.out e4
      obtain ⟨z0, z1, z2, z3, _⟩ := blk4 h3
      exact bodyPost_ret (v := .tuple #[.agg #[.int .u8 k, .int .u32 n, .int .u64 r, .string t], .int .i64 0]) (by simp [results, Try.results26, go_sem, z0, z1, z2, z3]) rfl ⟨by rw [hO.out], B1.out.trans (hB3 _ (by omega) (by omega))⟩
    · have d1 : (n != no) = true := by rw [bne_iff_ne]; exact hnn
      have hO : Hid (openV a b no s = .tuple #[.agg #[.int .u8 0, .int .u32 0, .int .u64 0, .string ⟨#[]⟩], .int .i64 54]) := by
        obtain ⟨e1, e2, e3, e4⟩ := Hkn.out.1 hc0
        have ho : openC a b no s = 54 := by rw [openC, Hc.out, if_pos ⟨hc0, by rw [← e2]; exact hnn⟩]
        show _ = _
        rw [openV, ho]; rfl
      clear hc0 hnn
      go_wp2_with fail
      refine wpDone (fun W4 e4 => ?_)
      obtain ⟨h3, hB3⟩ := blk4_set_alloc R1.out e4
      obtain ⟨z0, z1, z2, z3, _⟩ := blk4 h3
      exact bodyPost_ret (v := .tuple #[.agg #[.int .u8 0, .int .u32 0, .int .u64 0, .string ⟨#[]⟩], .int .i64 54]) (by simp [results, Try.results26, go_sem, z0, z1, z2, z3]) rfl ⟨by rw [hO.out], B1.out.trans (hB3 _ (by omega) (by omega))⟩
  · have d0 : (c != 0) = true := by rw [bne_iff_ne]; exact hc0
    obtain ⟨rfl, rfl, rfl, rfl⟩ := Hkn.out.2 hc0
    have hO : Hid (openV a b no s = .tuple #[.agg #[.int .u8 0, .int .u32 0, .int .u64 0, .string ⟨#[]⟩], .int .i64 c]) := by
      have ho : openC a b no s = c := by rw [openC, Hc.out, if_neg (fun h => hc0 h.1)]
      show _ = _
      rw [openV, ho, if_neg hc0]
    clear hc0
    go_wp2_with fail
    refine wpDone (fun W4 e4 => ?_)
    obtain ⟨h3, hB3⟩ := blk4_set_alloc R1.out e4
    obtain ⟨z0, z1, z2, z3, _⟩ := blk4 h3
    exact bodyPost_ret (v := .tuple #[.agg #[.int .u8 0, .int .u32 0, .int .u64 0, .string ⟨#[]⟩], .int .i64 c]) (by simp [results, Try.results26, go_sem, z0, z1, z2, z3]) rfl ⟨by rw [hO.out], B1.out.trans (hB3 _ (by omega) (by omega))⟩

set_option maxHeartbeats 4000000 in
theorem PageRead_walk (v0 v1 v2 : Value) (w : World) (h0 : ∃ a b, v0 = .agg #[.int .i64 a, .int .i64 b] ∧ (-9223372036854775808 ≤ a ∧ a ≤ 9223372036854775807) ∧ (-9223372036854775808 ≤ b ∧ b ≤ 9223372036854775807))
    (h1 : ∃ s, v1 = .string s ∧ s.size ≤ 9223372036854775807) (h2 : ∃ n, v2 = .int .u32 n ∧ (0 ≤ n ∧ n < 4294967296)) :
    Calls Try.prog 9 #[v0, v1, v2] w fun e w' => e = .returned (.bool true) ∧ Below w.heap.size w w' := by
  obtain ⟨a, b, rfl, ha, hb⟩ := h0
  obtain ⟨s, rfl, hs⟩ := h1
  obtain ⟨no, rfl, hno⟩ := h2
  obtain ⟨k1, n1, r1, c1, t1, hV1, _, _, _⟩ := readV_form a b s
  obtain ⟨k2, n2, r2, c2, t2, hV2, _, _, _⟩ := openV_form a b no s
  have HR1 := Lib.hid (Read_any a b s)
  have HR2 := Lib.hid (refRead_any a b s)
  have HO1 := Lib.hid (Open5_any a b no s)
  have HO2 := Lib.hid (refOpen5_any a b no s)
  rw [hV1] at HR1 HR2
  rw [hV2] at HO1 HO2
  clear hV1 hV2
  have B0 := Lib.hid ((Below.refl w.heap.size w).alloc (Nat.le_refl _) (.cells #[.int .i64 a, .int .i64 b] 23))
  have F0 := Lib.hid (heap_new w (.cells #[.int .i64 a, .int .i64 b] 23))
  go_enter Try.func9, Try.ntmps9
  go_wp2_with fail
  refine (HR1.out _ ha hs).mono ?_
  rintro e w1 ⟨rfl, hb1⟩
  have hz0 := hb1.size
  simp only [World.size_alloc] at hz0
  have hy1 : w.heap.size < w1.heap.size := by omega
  have B1 := Lib.hid ((B0.out.trans (hb1.mono (by simp only [World.size_alloc]; omega))).alloc (by omega) (.cells #[.int .u8 k1, .int .u32 n1, .int .u64 r1, .string t1] 28))
  have F1 := Lib.hid (heap_alloc (o' := .cells #[.int .u8 k1, .int .u32 n1, .int .u64 r1, .string t1] 28) (heap_below F0.out hb1 (by simp only [World.size_alloc]; omega)))
  have f0 : w1.cell? ⟨w.heap.size, 0, none⟩ = some (.int .i64 a) := by rw [heap_cell (heap_below F0.out hb1 (by simp only [World.size_alloc]; omega))]; rfl
  have f1 : w1.cell? ⟨w.heap.size, 1, none⟩ = some (.int .i64 b) := by rw [heap_cell (heap_below F0.out hb1 (by simp only [World.size_alloc]; omega))]; rfl
  have P1 := Lib.hid (heap_new w1 (.cells #[.int .u8 k1, .int .u32 n1, .int .u64 r1, .string t1] 28))
  clear hb1 B0 F0
  go_wp2_with fail
  clear f0 f1
  refine (HR2.out _ ha hs).mono ?_
  rintro e w2 ⟨rfl, hb2⟩
  have hz2 := hb2.size
  simp only [World.size_alloc] at hz2
  have hy2 : w.heap.size < w2.heap.size := by omega
  have hx2 : w1.heap.size < w2.heap.size := by omega
  have B2 := Lib.hid ((B1.out.trans (hb2.mono (by simp only [World.size_alloc]; omega))).alloc (by omega) (.cells #[.int .u8 k1, .int .u32 n1, .int .u64 r1, .string t1] 28))
  have F2' := Lib.hid (heap_below F1.out hb2 (by simp only [World.size_alloc]; omega))
  have P2' := Lib.hid (heap_below P1.out hb2 (by simp only [World.size_alloc]; omega))
  have F2 := Lib.hid (heap_alloc (o' := .cells #[.int .u8 k1, .int .u32 n1, .int .u64 r1, .string t1] 28) F2'.out)
  have P2 := Lib.hid (heap_alloc (o' := .cells #[.int .u8 k1, .int .u32 n1, .int .u64 r1, .string t1] 28) P2'.out)
  have Q2 := Lib.hid (heap_new w2 (.cells #[.int .u8 k1, .int .u32 n1, .int .u64 r1, .string t1] 28))
  have f0 : w2.cell? ⟨w.heap.size, 0, none⟩ = some (.int .i64 a) := by rw [heap_cell F2'.out]; rfl
  have f1 : w2.cell? ⟨w.heap.size, 1, none⟩ = some (.int .i64 b) := by rw [heap_cell F2'.out]; rfl
  clear hb2 B1 F1 P1 F2' P2'
  go_wp2_with fail
  clear f0 f1
  refine (HO1.out _ ha hno hs).mono ?_
  rintro e w3 ⟨rfl, hb3⟩
  have hz3 := hb3.size
  simp only [World.size_alloc] at hz3
  have hy3 : w.heap.size < w3.heap.size := by omega
  have hx3 : w1.heap.size < w3.heap.size := by omega
  have hv3 : w2.heap.size < w3.heap.size := by omega
  have B3 := Lib.hid ((B2.out.trans (hb3.mono (by simp only [World.size_alloc]; omega))).alloc (by omega) (.cells #[.int .u8 k2, .int .u32 n2, .int .u64 r2, .string t2] 28))
  have F3' := Lib.hid (heap_below F2.out hb3 (by simp only [World.size_alloc]; omega))
  have P3' := Lib.hid (heap_below P2.out hb3 (by simp only [World.size_alloc]; omega))
  have Q3' := Lib.hid (heap_below Q2.out hb3 (by simp only [World.size_alloc]; omega))
  have P3 := Lib.hid (heap_alloc (o' := .cells #[.int .u8 k2, .int .u32 n2, .int .u64 r2, .string t2] 28) P3'.out)
  have Q3 := Lib.hid (heap_alloc (o' := .cells #[.int .u8 k2, .int .u32 n2, .int .u64 r2, .string t2] 28) Q3'.out)
  have R3 := Lib.hid (heap_new w3 (.cells #[.int .u8 k2, .int .u32 n2, .int .u64 r2, .string t2] 28))
  have f0 : w3.cell? ⟨w.heap.size, 0, none⟩ = some (.int .i64 a) := by rw [heap_cell F3'.out]; rfl
  have f1 : w3.cell? ⟨w.heap.size, 1, none⟩ = some (.int .i64 b) := by rw [heap_cell F3'.out]; rfl
  clear hb3 B2 F2 P2 Q2 F3' P3' Q3'
  go_wp2_with fail
  clear f0 f1
  refine (HO2.out _ ha hno hs).mono ?_
  rintro e w4 ⟨rfl, hb4⟩
  have hz4 := hb4.size
  simp only [World.size_alloc] at hz4
  have hy4 : w.heap.size < w4.heap.size := by omega
  have hx4 : w1.heap.size < w4.heap.size := by omega
  have hv4 : w2.heap.size < w4.heap.size := by omega
  have hu4 : w3.heap.size < w4.heap.size := by omega
  have B4 := Lib.hid ((B3.out.trans (hb4.mono (by simp only [World.size_alloc]; omega))).alloc (by omega) (.cells #[.int .u8 k2, .int .u32 n2, .int .u64 r2, .string t2] 28))
  have P4 := Lib.hid (heap_below P3.out hb4 (by simp only [World.size_alloc]; omega))
  have Q4 := Lib.hid (heap_below Q3.out hb4 (by simp only [World.size_alloc]; omega))
  have R4 := Lib.hid (heap_below R3.out hb4 (by simp only [World.size_alloc]; omega))
  clear hb4 B3 P3 Q3 R3
  obtain ⟨p0, p1, p2, p3, _⟩ := blk4 P4.out
  obtain ⟨q0, q1, q2, q3, _⟩ := blk4 Q4.out
  obtain ⟨o0, o1, o2, o3, _⟩ := blk4 R4.out
  have u1 := heap_lt P4.out
  have u2 := heap_lt Q4.out
  have u3 := heap_lt R4.out
  go_wp2_with fail
  refine (awake_any _).mono ?_
  rintro e w5 ⟨rfl, hb5⟩
  go_wp2_with fail
  go_ret
  exact ⟨rfl, B4.out.trans (hb5.mono (by simp only [World.size_alloc]; omega))⟩
end Go.Proofs.Ytfhfeaipdmcekaa
