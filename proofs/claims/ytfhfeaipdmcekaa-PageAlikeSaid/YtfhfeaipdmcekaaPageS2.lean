/-
  Sheets over the law's blocks.
-/
import Derived.Test.YtfhfeaipdmcekaaPageS1
import Derived.Test.YtfhfeaipdmcekaaKept
namespace Go.Proofs.Ytfhfeaipdmcekaa
open Go.RowKit Hw
set_option linter.unusedVariables false

/-- the law's blocks: their block -/
def BB (W : World) (B : Nat) (lv : Value) (asked last : Int) : Prop := W.heap[B]? = some (.cells #[lv, .int .i64 asked, .int .u32 last] 55 (0, 0))

set_option maxHeartbeats 2000000 in
theorem BRead_any (W0 : World) (B : Nat) (lv : Value) (l : List Blk) (asked last no : Int) (w : World) (hl : BlkRow W0 lv l) (h0 : W0.heap.size ≤ B) (hw : Below W0.heap.size W0 w) (hB : Hid (BB w B lv asked last))
    (hk : 0 ≤ asked ∧ asked < 9223372036854775807) :
    Calls Try.prog 118 #[.pointer (some ⟨B, 0, none⟩), .int .u32 no] w fun e w' =>
      e = .returned (.tuple #[.string (blkFind no l).1, .int .i64 (blkFind no l).2]) ∧ BB w' B lv (asked + 1) no ∧ Kept B w w' := by
  have h1 : Hid (BB (w.setCell ⟨B, 1, none⟩ (.int .i64 (asked + 1))) B lv (asked + 1) last) := heap_set (o := 1) hB.out (.int .i64 (asked + 1))
  have h2 : Hid (BB ((w.setCell ⟨B, 1, none⟩ (.int .i64 (asked + 1))).setCell ⟨B, 2, none⟩ (.int .u32 no)) B lv (asked + 1) no) := heap_set (o := 2) h1.out (.int .u32 no)
  have hk2 := Lib.hid ((Kept.set (B := B) w 1 (.int .i64 (asked + 1))).trans (Kept.set (w.setCell ⟨B, 1, none⟩ (.int .i64 (asked + 1))) 2 (.int .u32 no)))
  have hw2 := Lib.hid (hw.trans (hk2.out.below h0 hw.size))
  have hl2 := Lib.hid (hl.below hw2.out)
  have c0 : w.cell? ⟨B, 0, none⟩ = some lv := by rw [heap_cell hB.out]; rfl
  have c1 : w.cell? ⟨B, 1, none⟩ = some (.int .i64 asked) := by rw [heap_cell hB.out]; rfl
  have c2 : w.cell? ⟨B, 2, none⟩ = some (.int .u32 last) := by rw [heap_cell hB.out]; rfl
  have k0 := heap_free hB.out 0
  have k1 := heap_free hB.out 1
  have k2 := heap_free hB.out 2
  have hw1 : IntKind.i64.wrap (asked + 1) = asked + 1 := IntWalk.i64_in _ (by omega)
  clear hw h1 hk
  go_enter Try.func118, Try.ntmps118
  go_wp2_with fail
  refine (Blocks_any lv l no _ hl2.out).mono ?_
  rintro e w1 ⟨rfl, hb1⟩
  go_wp2_with fail
  go_ret2
  exact ⟨rfl, heap_below h2.out hb1 (heap_lt h2.out), hk2.out.trans (Kept.of hb1)⟩

/-- (270: the seat's types and one more, as the walk spells it) -/
theorem methRead (a : Addr) (w : World) : Sem.run Try.prog (method 270 53 (.pointer (some a)) "Read") w = .ok (118, .pointer (some a)) w := by kernel_rfl
set_option maxHeartbeats 4000000 in
theorem SheetsPage_any (W0 : World) (S B : Nat) (lv : Value) (l : List Blk) (a b asked last no A1 L1 : Int) (w : World) (hA1 : Hid (A1 = if namedB no = true then asked + 1 else asked)) (hL1 : Hid (L1 = if namedB no = true then no else last)) (ha : -9223372036854775808 ≤ a ∧ a ≤ 9223372036854775807) (hno : 0 ≤ no ∧ no < 4294967296) (hl : BlkRow W0 lv l) (h0 : W0.heap.size ≤ B)
    (hw : Hid (Below W0.heap.size W0 w)) (hB : Hid (BB w B lv asked last)) (hk : 0 ≤ asked ∧ asked < 9223372036854775807) (hSB : S ≠ B)
    (hS : Hid (w.heap[S]? = some (.cells #[.iface 53 (.pointer (some ⟨B, 0, none⟩)), .int .i64 a, .int .i64 b] 83 (0, 0)))) :
    Calls Try.prog 28 #[.pointer (some ⟨S, 0, none⟩), .int .u32 no] w fun e w' =>
      e = .returned (sheetV a b no l) ∧ BB w' B lv A1 L1 ∧ Kept B w w' := by
  have s0 : w.cell? ⟨S, 0, none⟩ = some (.iface 53 (.pointer (some ⟨B, 0, none⟩))) := by rw [heap_cell hS.out]; rfl
  have hSl := heap_lt hS.out
  have R0 := Lib.hid (heap_new w (.cells #[.int .u8 0, .int .u32 0, .int .u64 0, .string ⟨#[]⟩] 28))
  have B0 := Lib.hid ((Below.refl w.heap.size w).alloc (Nat.le_refl _) (.cells #[.int .u8 0, .int .u32 0, .int .u64 0, .string ⟨#[]⟩] 28))
  have HS := Lib.hid (blkFind_ok no l hl.2.1)
  have HL := Lib.hid hl
  have HN := Lib.hid (named_any no)
  obtain ⟨m, hm⟩ : ∃ m, namedB no = m := ⟨_, rfl⟩
  rw [hm] at HN
  cases m
  · have hv : Hid (sheetV a b no l = .tuple #[.agg #[.int .u8 0, .int .u32 0, .int .u64 0, .string ⟨#[]⟩], .int .i64 2]) := by show _ = _; rw [sheetV, if_pos hm]
    have hM := Lib.hid hm
    clear hm hl
    go_enter Try.func28, Try.ntmps28
    go_wp2_with fail
    refine (HN.out _ hno).mono ?_
    rintro e w1 ⟨rfl, rfl⟩
    go_wp2_with fail
    exact bodyPost_ret (v := .tuple #[.agg #[.int .u8 0, .int .u32 0, .int .u64 0, .string ⟨#[]⟩], .int .i64 2]) (by simp [results, Try.results28, go_sem]) rfl ⟨by rw [hv.out], by rw [hA1.out, hL1.out, hM.out]; exact heap_alloc hB.out, Kept.of B0.out⟩
  · have hM := Lib.hid hm
    clear hm hl
    go_enter Try.func28, Try.ntmps28
    go_wp2_with fail
    refine (HN.out _ hno).mono ?_
    rintro e w1 ⟨rfl, rfl⟩
    have hinv := methRead
    have hB1 : Hid (BB (w.alloc (.cells #[.int .u8 0, .int .u32 0, .int .u64 0, .string ⟨#[]⟩] 28)) B lv asked last) := heap_alloc hB.out
    have hw1 := hw.out.trans (B0.out.mono hw.out.size)
    go_wp2_with fail
    refine (BRead_any W0 B lv l asked last no _ HL.out h0 hw1 hB1 hk).mono ?_
    rintro e w1 ⟨rfl, hB2, hK⟩
    have hBl := heap_lt hB.out
    have R1 := Lib.hid (hK.heap R0.out (by omega))
    have S1 := Lib.hid (hK.heap (heap_alloc hS.out) hSB)
    have HB2 : Hid (BB w1 B lv A1 L1) := by show BB w1 B lv A1 L1; rw [hA1.out, hL1.out, hM.out]; exact hB2
    have K1 := Lib.hid ((Kept.of (B := B) B0.out).trans hK)
    have z1 := heap_lt R1.out
    have z2 := heap_lt S1.out
    have z3 := heap_lt hB2
    clear hB2 hK hB1 hw1 R0 B0 hinv hS s0 hB
    obtain ⟨s, hs⟩ : ∃ s, (blkFind no l).1 = s := ⟨_, rfl⟩
    obtain ⟨c, hc⟩ : ∃ c, (blkFind no l).2 = c := ⟨_, rfl⟩
    rw [hs] at HS
    rw [hs, hc]
    have Hs := Lib.hid hs
    have Hc := Lib.hid hc
    clear hs hc
    obtain ⟨q0, q1, q2, q3, k0, k1, k2, k3⟩ := blk4 R1.out
    by_cases hc0 : c = 0
    · have d3 : (c != 0) = false := by rw [hc0]; rfl
      have hv : Hid (sheetV a b no l = openV a b no s) := by show _ = _; rw [sheetV, if_neg (by rw [hM.out]; decide), Hc.out, if_neg (by rw [hc0]; simp), Hs.out]
      clear hc0
      have f0 : w1.cell? ⟨S, 1, none⟩ = some (.int .i64 a) := by rw [heap_cell S1.out]; rfl
      have f1 : w1.cell? ⟨S, 2, none⟩ = some (.int .i64 b) := by rw [heap_cell S1.out]; rfl
      go_wp2_with fail
      clear f0 f1 q0 q1 q2 q3 k0 k1 k2 k3
      obtain ⟨k, n, r, c1, t, hV, j1, j2, j3⟩ := openV_form a b no s
      clear j1 j2 j3
      have HO := Lib.hid (Open5_any a b no s)
      rw [hV] at HO
      refine (HO.out _ ha hno HS.out).mono ?_
      rintro e w2 ⟨rfl, hb2⟩
      have R2 := Lib.hid (heap_below R1.out hb2 z1)
      have K2 := Lib.hid (K1.out.trans (Kept.of hb2))
      have HB3 := Lib.hid (heap_below HB2.out hb2 z3)
      clear hb2
      obtain ⟨q0, q1, q2, q3, k0, k1, k2, k3⟩ := blk4 R2.out
      have HV := Lib.hid hV
      clear hV
      go_wp2_with fail
      refine wpDone (fun W4 e4 => ?_)
      obtain ⟨h3, hB3⟩ := blk4_set R2.out e4
      obtain ⟨z0, z1, z2, z3, _⟩ := blk4 h3
      refine bodyPost_ret (v := .tuple #[.agg #[.int .u8 k, .int .u32 n, .int .u64 r, .string t], .int .i64 c1]) (by simp [results, Try.results28, go_sem, z0, z1, z2, z3]) rfl ⟨by rw [hv.out, HV.out], heap_below HB3.out (hB3 w.heap.size (Nat.le_refl _)) hBl, K2.out.low (hB3 _ (Nat.le_refl _))⟩
    · have d3 : (c != 0) = true := by rw [bne_iff_ne]; exact hc0
      have hv : Hid (sheetV a b no l = .tuple #[.agg #[.int .u8 0, .int .u32 0, .int .u64 0, .string ⟨#[]⟩], .int .i64 c]) := by show _ = _; rw [sheetV, if_neg (by rw [hM.out]; decide), Hc.out, if_pos hc0]
      clear hc0
      go_wp2_with fail
      refine wpDone (fun W4 e4 => ?_)
      obtain ⟨h3, hB3⟩ := blk4_set R1.out e4
      obtain ⟨z0, z1, z2, z3, _⟩ := blk4 h3
      refine bodyPost_ret (v := .tuple #[.agg #[.int .u8 0, .int .u32 0, .int .u64 0, .string ⟨#[]⟩], .int .i64 c]) (by simp [results, Try.results28, go_sem, z0, z1, z2, z3]) rfl ⟨by rw [hv.out], heap_below HB2.out (hB3 w.heap.size (Nat.le_refl _)) hBl, K1.out.low (hB3 _ (Nat.le_refl _))⟩
theorem sheetV_form (a b no : Int) (l : List Blk) : ∃ (k n r c : Int) (t : ByteArray), sheetV a b no l = .tuple #[.agg #[.int .u8 k, .int .u32 n, .int .u64 r, .string t], .int .i64 c] := by
  unfold sheetV
  split
  · exact ⟨_, _, _, _, _, rfl⟩
  split
  · exact ⟨_, _, _, _, _, rfl⟩
  · obtain ⟨k, n, r, c, t, h, _⟩ := openV_form a b no (blkFind no l).1
    exact ⟨k, n, r, c, t, h⟩
theorem named_split (x : Int) : (decide (2 ≤ x) = false ∧ True ∧ namedB x = false) ∨ (decide (2 ≤ x) = true ∧ decide (x < 2147483648) = false ∧ namedB x = false) ∨ (decide (2 ≤ x) = true ∧ decide (x < 2147483648) = true ∧ namedB x = true) := by
  unfold namedB
  cases h1 : decide (2 ≤ x) <;> cases h2 : decide (x < 2147483648) <;> simp

/-- a slice of numbers -/
def NumRow (w : World) (v : Value) (l : List Int) : Prop :=
  l.length ≤ 9223372036854775807 ∧ (∀ x ∈ l, 0 ≤ x ∧ x < 4294967296) ∧ ∃ a c, v = .slice a l.length c ∧ (0 < l.length → ∃ b o, a = some ⟨b, o, none⟩ ∧ ∀ i (h : i < l.length), w.cell? ⟨b, o + i, none⟩ = some (.int .u32 l[i]))
theorem NumRow.below {w w' : World} {v : Value} {l : List Int} (h : NumRow w v l) (hb : Below w.heap.size w w') : NumRow w' v l := by
  obtain ⟨h0, h1, a, c, h2, h3⟩ := h
  refine ⟨h0, h1, a, c, h2, fun hl => ?_⟩
  obtain ⟨b, o, ha, hc⟩ := h3 hl
  exact ⟨b, o, ha, fun i hi => (hb.cell (p := ⟨b, o + i, none⟩) (World.block_lt_of_cell? w _ (hc i hi))).trans (hc i hi)⟩

/-- the block of the law's Sheets -/
def SB (w W : World) (a b : Int) (lv av : Value) : Prop := W.heap[w.heap.size]? = some (.cells #[.int .i64 a, .int .i64 b, lv, av] 52 (0, 0))
theorem BB.cells {W : World} {B : Nat} {lv : Value} {asked last : Int} (h : BB W B lv asked last) : B < W.heap.size ∧ W.cell? ⟨B, 0, none⟩ = some lv ∧ W.cell? ⟨B, 1, none⟩ = some (.int .i64 asked) ∧ W.cell? ⟨B, 2, none⟩ = some (.int .u32 last) :=
  ⟨heap_lt h, by rw [heap_cell h]; rfl, by rw [heap_cell h]; rfl, by rw [heap_cell h]; rfl⟩
theorem SB.cells {w W : World} {a b : Int} {lv av : Value} (h : SB w W a b lv av) : w.heap.size < W.heap.size ∧ W.cell? ⟨w.heap.size, 0, none⟩ = some (.int .i64 a) ∧ W.cell? ⟨w.heap.size, 1, none⟩ = some (.int .i64 b) ∧ W.cell? ⟨w.heap.size, 2, none⟩ = some lv ∧ W.cell? ⟨w.heap.size, 3, none⟩ = some av :=
  ⟨heap_lt h, by rw [heap_cell h]; rfl, by rw [heap_cell h]; rfl, by rw [heap_cell h]; rfl, by rw [heap_cell h]; rfl⟩

set_option maxHeartbeats 4000000 in
theorem PageSheets_walk (v0 : Value) (w : World) (h0 : ∃ a b lv av l ns, v0 = .agg #[.int .i64 a, .int .i64 b, lv, av] ∧ (-9223372036854775808 ≤ a ∧ a ≤ 9223372036854775807) ∧ BlkRow w lv l ∧ NumRow w av ns) :
    Calls Try.prog 10 #[v0] w fun e w' => e = .returned (.bool true) ∧ Below w.heap.size w w' := by
  obtain ⟨a, b, lv, av, l, ns, rfl, ha, hl, hns⟩ := h0
  have HL := Lib.hid hl
  have HNS := Lib.hid hns
  obtain ⟨_, _, la, lc, rfl, _⟩ := hl
  obtain ⟨hn0, _, na, nc, rfl, _⟩ := hns
  obtain ⟨lv, hlv⟩ : ∃ lv, lv = Value.slice la l.length lc := ⟨_, rfl⟩
  have S0 : Hid (SB w (w.alloc (.cells #[.int .i64 a, .int .i64 b, .slice la l.length lc, .slice na ns.length nc] 52)) a b (.slice la l.length lc) (.slice na ns.length nc)) := heap_new _ _
  have S1 : Hid (SB w ((w.alloc (.cells #[.int .i64 a, .int .i64 b, .slice la l.length lc, .slice na ns.length nc] 52)).alloc (.cells #[.slice la l.length lc, .int .i64 0, .int .u32 0] 55)) a b (.slice la l.length lc) (.slice na ns.length nc)) := heap_alloc S0.out
  have B1 : Hid (Below w.heap.size w ((w.alloc (.cells #[.int .i64 a, .int .i64 b, .slice la l.length lc, .slice na ns.length nc] 52)).alloc (.cells #[.slice la l.length lc, .int .i64 0, .int .u32 0] 55))) := ((Below.refl w.heap.size w).alloc (Nat.le_refl _) _).alloc (by simp) _
  have V1 : Hid (BB ((w.alloc (.cells #[.int .i64 a, .int .i64 b, .slice la l.length lc, .slice na ns.length nc] 52)).alloc (.cells #[.slice la l.length lc, .int .i64 0, .int .u32 0] 55)) (w.heap.size + 1) (.slice la l.length lc) 0 0) := by
    have := heap_new (w.alloc (.cells #[.int .i64 a, .int .i64 b, .slice la l.length lc, .slice na ns.length nc] 52)) (.cells #[.slice la l.length lc, .int .i64 0, .int .u32 0] 55)
    simp only [World.size_alloc] at this
    exact this
  clear S0
  obtain ⟨m, hm⟩ : ∃ m, mayB a b = m := ⟨_, rfl⟩
  have HON := Lib.hid (fun w => Over_nil a b m w hm)
  have HMy := Lib.hid (refMay_any a b)
  rw [hm] at HMy
  have HM := Lib.hid hm
  cases m
  · have HOS := Lib.hid (fun t u w => Over_no a b t u w hm)
    clear hm hlv
    go_enter Try.func10, Try.ntmps10
    go_wp2_with fail
    refine (HON.out _).mono ?_
    rintro e w1 ⟨rfl, hb1⟩
    have S2 := Lib.hid (heap_below S1.out hb1 (by simp only [World.size_alloc]; omega))
    have V2 := Lib.hid (heap_below V1.out hb1 (by simp only [World.size_alloc]; omega))
    have B2 := Lib.hid (B1.out.trans (hb1.mono (by simp only [World.size_alloc]; omega)))
    obtain ⟨z1, f0, f1, f2, f3⟩ := SB.cells S2.out
    simp only [if_neg (show ¬ (false = true) by decide)]
    clear hb1
    go_wp2_with fail
    clear f0 f1 f2 f3
    refine (HMy.out _).mono ?_
    rintro e w2 ⟨rfl, hb2⟩
    have S3 := Lib.hid (heap_below S2.out hb2 z1)
    have V3 := Lib.hid (heap_below V2.out hb2 (heap_lt V2.out))
    have B3 := Lib.hid (B2.out.trans (hb2.mono (by omega)))
    obtain ⟨z2, f0, f1, f2, f3⟩ := SB.cells S3.out
    clear hb2
    go_wp2_with fail
    clear f0 f1 f2 f3
    refine (HOS.out _ _ _).mono ?_
    rintro e w3 ⟨rfl, hb3⟩
    have S4 := Lib.hid (heap_below S3.out hb3 z2)
    have V4 := Lib.hid (heap_below V3.out hb3 (heap_lt V3.out))
    have B4 := Lib.hid (B3.out.trans (hb3.mono (by omega)))
    obtain ⟨z3, f0, f1, f2, f3⟩ := SB.cells S4.out
    clear hb3
    go_wp2_with fail
    clear f0 f1 f2 f3
    refine (HMy.out _).mono ?_
    rintro e w4 ⟨rfl, hb4⟩
    have V5 := Lib.hid (heap_below V4.out hb4 (heap_lt V4.out))
    have B5 := Lib.hid (B4.out.trans (hb4.mono (by omega)))
    obtain ⟨z5, g0, g1, g2⟩ := BB.cells V5.out
    clear hb4
    go_wp2_with fail
    refine (awake_any _).mono ?_
    rintro e w9 ⟨rfl, hb9⟩
    go_wp2_with fail
    go_ret
    exact ⟨rfl, B5.out.trans (hb9.mono (by omega))⟩
  · have HOS := Lib.hid (fun t u w => Over_some a b t u w hm)
    clear hm hlv
    go_enter Try.func10, Try.ntmps10
    go_wp2_with fail
    refine (HON.out _).mono ?_
    rintro e w1 ⟨rfl, hb1⟩
    have S2 := Lib.hid (heap_below S1.out hb1 (by simp only [World.size_alloc]; omega))
    have V2 := Lib.hid (heap_below V1.out hb1 (by simp only [World.size_alloc]; omega))
    have B2 := Lib.hid (B1.out.trans (hb1.mono (by simp only [World.size_alloc]; omega)))
    obtain ⟨z1, f0, f1, f2, f3⟩ := SB.cells S2.out
    simp only [if_true]
    clear hb1
    go_wp2_with fail
    clear f0 f1 f2 f3
    refine (HMy.out _).mono ?_
    rintro e w2 ⟨rfl, hb2⟩
    have S3 := Lib.hid (heap_below S2.out hb2 z1)
    have V3 := Lib.hid (heap_below V2.out hb2 (heap_lt V2.out))
    have B3 := Lib.hid (B2.out.trans (hb2.mono (by omega)))
    obtain ⟨z2, f0, f1, f2, f3⟩ := SB.cells S3.out
    clear hb2
    go_wp2_with fail
    clear f0 f1 f2 f3
    refine (HOS.out _ _ _).mono ?_
    rintro e w3 ⟨S, rfl, hSz, hS, hb3⟩
    have S4 := Lib.hid (heap_below S3.out hb3 z2)
    have V4 := Lib.hid (heap_below V3.out hb3 (heap_lt V3.out))
    have B4 := Lib.hid (B3.out.trans (hb3.mono (by omega)))
    have HSS := Lib.hid hS
    have hzV := heap_lt V3.out
    obtain ⟨z3, f0, f1, f2, f3⟩ := SB.cells S4.out
    clear hb3 hS
    go_wp2_with fail
    clear f0 f1 f2 f3
    refine (HMy.out _).mono ?_
    rintro e w4 ⟨rfl, hb4⟩
    have S5 := Lib.hid (heap_below S4.out hb4 z3)
    have V5 := Lib.hid (heap_below V4.out hb4 (heap_lt V4.out))
    have B5 := Lib.hid (B4.out.trans (hb4.mono (by omega)))
    have HS5 := Lib.hid (heap_below HSS.out hb4 (heap_lt HSS.out))
    obtain ⟨z5, g0, g1, g2⟩ := BB.cells V5.out
    clear hb4
    go_wp2_with fail
    clear g0 g1 g2
    go_loopw [7] (fun i wr => ∃ (q : Nat) (asked last : Int), q ≤ ns.length ∧ Hid (0 ≤ asked ∧ asked ≤ q) ∧ Hid (SB w wr a b (.slice la l.length lc) (.slice na ns.length nc)) ∧ Hid (BB wr (w.heap.size + 1) (.slice la l.length lc) asked last) ∧
      Hid (wr.heap[S]? = some (.cells #[.iface 53 (.pointer (some ⟨w.heap.size + 1, 0, none⟩)), .int .i64 a, .int .i64 b] 83 (0, 0))) ∧ Hid (Below w.heap.size w wr) ∧ i = .int .i64 (q : Int)) (fun i _ => ns.length - (intOf i).toNat)
    case atStart => exact ⟨0, 0, 0, Nat.zero_le _, ⟨by omega, by omega⟩, S5, V5, HS5, B5, rfl⟩
    case round =>
      obtain ⟨q, asked, last, hq, Hk, Sq, Vq, SSq, Bq, rfl⟩ := hrel
      obtain ⟨y0, f0, f1, f2, f3⟩ := SB.cells Sq.out
      by_cases hlt : q < ns.length
      · obtain ⟨_, hbd, _, _, heq, hrow⟩ := HNS.out.below Bq.out
        obtain ⟨nb, no, hna, hcell⟩ := hrow (by omega)
        simp only [Value.slice.injEq] at heq
        obtain ⟨rfl, _, rfl⟩ := heq
        subst hna
        have c0 := hcell q hlt
        obtain ⟨x, hx⟩ : ∃ x, ns[q] = x := ⟨_, rfl⟩
        have hxb : 0 ≤ x ∧ x < 4294967296 := by rw [← hx]; exact hbd _ (List.getElem_mem hlt)
        rw [hx] at c0
        clear hx hcell hrow hbd
        obtain ⟨z5, g0, g1, g2⟩ := BB.cells Vq.out
        have hSB : S ≠ w.heap.size + 1 := by omega
        have hkk : 0 ≤ asked ∧ asked < 9223372036854775807 := by have := Hk.out; omega
        have hqb : (0 : Int) ≤ (q : Int) ∧ (q : Int) < (ns.length : Int) := by omega
        obtain ⟨A1, hA1⟩ : ∃ A1, A1 = if namedB x = true then asked + 1 else asked := ⟨_, rfl⟩
        obtain ⟨L1, hL1⟩ : ∃ L1, L1 = if namedB x = true then x else last := ⟨_, rfl⟩
        have HA1 := Lib.hid hA1
        have HL1 := Lib.hid hL1
        clear hA1 hL1
        obtain ⟨k1, n1, r1, e1, t1, hV⟩ := sheetV_form a b x l
        have HP := Lib.hid (SheetsPage_any w S (w.heap.size + 1) (.slice la l.length lc) l a b asked last x A1 L1 wr HA1 HL1 ha hxb HL.out (by omega) Bq Vq hkk hSB SSq)
        have HR := Lib.hid (fun W h => Sheet_any a b x (.slice la l.length lc) l W ha hxb h)
        rw [hV] at HP HR
        clear hV
        go_wp2_with fail
        clear f0 f1 f2 f3 g0 g1 g2 c0
        refine HP.out.mono ?_
        rintro e w1 ⟨rfl, hB1, hK1⟩
        have V1 : Hid (BB (w1.alloc (.cells #[.int .u8 k1, .int .u32 n1, .int .u64 r1, .string t1] 28)) (w.heap.size + 1) (.slice la l.length lc) A1 L1) := heap_alloc hB1
        have y1 := heap_lt hB1
        have S1' : Hid (SB w w1 a b (.slice la l.length lc) (.slice (some ⟨nb, no, none⟩) ns.length nc)) := hK1.heap Sq.out (by omega)
        have Bw1 := Lib.hid (Bq.out.trans (hK1.below (by omega) (by omega)))
        have SS1 := Lib.hid (heap_alloc (o' := .cells #[.int .u8 k1, .int .u32 n1, .int .u64 r1, .string t1] 28) (hK1.heap SSq.out hSB))
        have S1 : Hid (SB w (w1.alloc (.cells #[.int .u8 k1, .int .u32 n1, .int .u64 r1, .string t1] 28)) a b (.slice la l.length lc) (.slice (some ⟨nb, no, none⟩) ns.length nc)) := heap_alloc S1'.out
        have P1 := Lib.hid (heap_new w1 (.cells #[.int .u8 k1, .int .u32 n1, .int .u64 r1, .string t1] 28))
        have B1' := Lib.hid (Bw1.out.alloc (by omega) (.cells #[.int .u8 k1, .int .u32 n1, .int .u64 r1, .string t1] 28))
        obtain ⟨y2, f0, f1, f2, f3⟩ := SB.cells S1'.out
        clear hB1 hK1 S1' HP
        go_wp2_with fail
        clear f0 f1 f2 f3
        refine (HR.out _ (HL.out.below B1'.out)).mono ?_
        rintro e w2 ⟨rfl, hb2⟩
        have S2' := Lib.hid (heap_below S1.out hb2 (heap_lt S1.out))
        have V2' : Hid (BB w2 (w.heap.size + 1) (.slice la l.length lc) A1 L1) := heap_below V1.out hb2 (heap_lt V1.out)
        have SS2 := Lib.hid (heap_below SS1.out hb2 (heap_lt SS1.out))
        have P2 := Lib.hid (heap_below P1.out hb2 (by simp only [World.size_alloc]; omega))
        have B2' := Lib.hid (B1'.out.trans (hb2.mono (by simp only [World.size_alloc]; omega)))
        clear hb2 S1 V1 SS1 P1 B1'
        obtain ⟨y3, g0, g1, g2⟩ := BB.cells V2'.out
        obtain ⟨p0, p1, p2, p3, _⟩ := blk4 P2.out
        have y4 := heap_lt P2.out
        have y5 := heap_lt S2'.out
        have HA := HA1.out
        have HLL := HL1.out
        rcases named_split x with ⟨d1, d2, hnm⟩ | ⟨d1, d2, hnm⟩ | ⟨d1, d2, hnm⟩
        · rw [hnm, if_neg (by decide)] at HA HLL
          subst HA HLL
          have wA : IntKind.i64.wrap A1 = A1 := IntWalk.i64_in _ (by omega)
          clear hnm HA1 HL1
          set_option maxRecDepth 100000 in go_wp2_with fail
          go_roundw
          case rel => exact ⟨q + 1, A1, L1, by omega, Lib.hid (by have := Hk.out; omega), heap_alloc S2'.out, heap_alloc V2'.out, heap_alloc SS2.out, B2'.out.alloc (by omega) _, by go_num⟩
          case measure => simp [intOf]; omega
        · rw [hnm, if_neg (by decide)] at HA HLL
          subst HA HLL
          have wA : IntKind.i64.wrap A1 = A1 := IntWalk.i64_in _ (by omega)
          clear hnm HA1 HL1
          set_option maxRecDepth 100000 in go_wp2_with fail
          go_roundw
          case rel => exact ⟨q + 1, A1, L1, by omega, Lib.hid (by have := Hk.out; omega), heap_alloc S2'.out, heap_alloc V2'.out, heap_alloc SS2.out, B2'.out.alloc (by omega) _, by go_num⟩
          case measure => simp [intOf]; omega
        · rw [hnm, if_pos rfl] at HA HLL
          have wA : IntKind.i64.wrap (asked + 1) = asked + 1 := IntWalk.i64_in _ (by omega)
          subst HA HLL
          clear hnm HA1 HL1
          set_option maxRecDepth 100000 in go_wp2_with fail
          go_roundw
          case rel => exact ⟨q + 1, asked + 1, L1, by omega, Lib.hid (by have := Hk.out; omega), heap_alloc S2'.out, heap_alloc V2'.out, heap_alloc SS2.out, B2'.out.alloc (by omega) _, by go_num⟩
          case measure => simp [intOf]; omega
      · go_wp2_with fail
        refine (awake_any _).mono ?_
        rintro e w9 ⟨rfl, hb9⟩
        go_wp2_with fail
        go_ret
        exact ⟨rfl, Bq.out.trans (hb9.mono (by omega))⟩
end Go.Proofs.Ytfhfeaipdmcekaa
