/-
  Sheets over blocks whose list lies anywhere; rows of blocks of the call's own.
-/
import Derived.Test.YtfhfeaipdmcekaaShelfW
import Derived.Deep.AppendLies
namespace Go.Proofs.Ytfhfeaipdmcekaa
open Go.RowKit Hw
set_option linter.unusedVariables false

theorem BlkRow.other {w w' : World} {v : Value} {l : List Blk} {B : Nat} (h : BlkRow w v l) (hne : v.ownBlock ≠ some B) (hk : Kept B w w') : BlkRow w' v l := by
  obtain ⟨h0, h1, a, c, rfl, h3⟩ := h
  refine ⟨h0, h1, a, c, rfl, fun hl => ?_⟩
  obtain ⟨b, o, rfl, hc⟩ := h3 hl
  have hb : b ≠ B := fun e => hne (by rw [e]; rfl)
  have hcell : ∀ q v, w.cell? ⟨b, q, none⟩ = some v → w'.cell? ⟨b, q, none⟩ = some v := fun q v e => by
    rw [← e]
    exact World.cell?_of_block (a := ⟨b, q, none⟩) (hk.block b (World.block_lt_of_cell? _ _ e) hb)
  exact ⟨b, o, rfl, fun i hi => ⟨hcell _ _ (hc i hi).1, hcell _ _ (hc i hi).2.1, hcell _ _ (hc i hi).2.2⟩⟩

set_option maxHeartbeats 2000000 in
theorem BRead_own (B : Nat) (lv : Value) (l : List Blk) (asked last no : Int) (w : World) (hl : BlkRow w lv l) (hne : lv.ownBlock ≠ some B) (hB : Hid (BB w B lv asked last))
    (hk : 0 ≤ asked ∧ asked < 9223372036854775807) :
    Calls Try.prog 118 #[.pointer (some ⟨B, 0, none⟩), .int .u32 no] w fun e w' =>
      e = .returned (.tuple #[.string (blkFind no l).1, .int .i64 (blkFind no l).2]) ∧ BB w' B lv (asked + 1) no ∧ Kept B w w' := by
  have h1 : Hid (BB (w.setCell ⟨B, 1, none⟩ (.int .i64 (asked + 1))) B lv (asked + 1) last) := heap_set (o := 1) hB.out (.int .i64 (asked + 1))
  have h2 : Hid (BB ((w.setCell ⟨B, 1, none⟩ (.int .i64 (asked + 1))).setCell ⟨B, 2, none⟩ (.int .u32 no)) B lv (asked + 1) no) := heap_set (o := 2) h1.out (.int .u32 no)
  have hk2 := Lib.hid ((Kept.set (B := B) w 1 (.int .i64 (asked + 1))).trans (Kept.set (w.setCell ⟨B, 1, none⟩ (.int .i64 (asked + 1))) 2 (.int .u32 no)))
  have hl2 := Lib.hid (hl.other hne hk2.out)
  obtain ⟨_, _, la, lc, rfl, _⟩ := hl
  have c0 : w.cell? ⟨B, 0, none⟩ = some (.slice la l.length lc) := by rw [heap_cell hB.out]; rfl
  have c1 : w.cell? ⟨B, 1, none⟩ = some (.int .i64 asked) := by rw [heap_cell hB.out]; rfl
  have c2 : w.cell? ⟨B, 2, none⟩ = some (.int .u32 last) := by rw [heap_cell hB.out]; rfl
  have k0 := heap_free hB.out 0
  have k1 := heap_free hB.out 1
  have k2 := heap_free hB.out 2
  have hw1 : IntKind.i64.wrap (asked + 1) = asked + 1 := IntWalk.i64_in _ (by omega)
  clear h1 hk hne
  go_enter Try.func118, Try.ntmps118
  go_wp2_with fail
  refine (Blocks_any _ l no _ hl2.out).mono ?_
  rintro e w1 ⟨rfl, hb1⟩
  go_wp2_with fail
  go_ret2
  exact ⟨rfl, heap_below h2.out hb1 (heap_lt h2.out), hk2.out.trans (Kept.of hb1)⟩

set_option maxHeartbeats 4000000 in
theorem SheetsPage_own (S B : Nat) (lv : Value) (l : List Blk) (a b asked last no A1 L1 : Int) (w : World) (hA1 : Hid (A1 = if namedB no = true then asked + 1 else asked)) (hL1 : Hid (L1 = if namedB no = true then no else last)) (ha : -9223372036854775808 ≤ a ∧ a ≤ 9223372036854775807) (hno : 0 ≤ no ∧ no < 4294967296) (hl : BlkRow w lv l) (hne : lv.ownBlock ≠ some B)
    (hB : Hid (BB w B lv asked last)) (hk : 0 ≤ asked ∧ asked < 9223372036854775807) (hSB : S ≠ B)
    (hS : Hid (w.heap[S]? = some (.cells #[.iface 53 (.pointer (some ⟨B, 0, none⟩)), .int .i64 a, .int .i64 b] 83 (0, 0)))) :
    Calls Try.prog 28 #[.pointer (some ⟨S, 0, none⟩), .int .u32 no] w fun e w' =>
      e = .returned (sheetV a b no l) ∧ BB w' B lv A1 L1 ∧ Kept B w w' := by
  have s0 : w.cell? ⟨S, 0, none⟩ = some (.iface 53 (.pointer (some ⟨B, 0, none⟩))) := by rw [heap_cell hS.out]; rfl
  have hSl := heap_lt hS.out
  have R0 := Lib.hid (heap_new w (.cells #[.int .u8 0, .int .u32 0, .int .u64 0, .string ⟨#[]⟩] 28))
  have B0 := Lib.hid ((Below.refl w.heap.size w).alloc (Nat.le_refl _) (.cells #[.int .u8 0, .int .u32 0, .int .u64 0, .string ⟨#[]⟩] 28))
  have HS := Lib.hid (blkFind_ok no l hl.2.1)
  have HL := Lib.hid (hl.below B0.out)
  have HN := Lib.hid (named_any no)
  obtain ⟨m, hm⟩ : ∃ m, namedB no = m := ⟨_, rfl⟩
  rw [hm] at HN
  cases m
  · have hv : Hid (sheetV a b no l = .tuple #[.agg #[.int .u8 0, .int .u32 0, .int .u64 0, .string ⟨#[]⟩], .int .i64 2]) := by show _ = _; rw [sheetV, if_pos hm]
    have hM := Lib.hid hm
    clear hm hl
    go_enter Try.func28, Try.ntmps28
    go_wp2_with fail
    refine (HN.out _ hno).mono ?_
    rintro e w1 ⟨rfl, rfl⟩
    go_wp2_with fail
    exact bodyPost_ret (v := .tuple #[.agg #[.int .u8 0, .int .u32 0, .int .u64 0, .string ⟨#[]⟩], .int .i64 2]) (by simp [results, Try.results28, go_sem]) rfl ⟨by rw [hv.out], by rw [hA1.out, hL1.out, hM.out]; exact heap_alloc hB.out, Kept.of B0.out⟩
  · have hM := Lib.hid hm
    clear hm hl
    go_enter Try.func28, Try.ntmps28
    go_wp2_with fail
    refine (HN.out _ hno).mono ?_
    rintro e w1 ⟨rfl, rfl⟩
    have hinv := methRead
    have hB1 : Hid (BB (w.alloc (.cells #[.int .u8 0, .int .u32 0, .int .u64 0, .string ⟨#[]⟩] 28)) B lv asked last) := heap_alloc hB.out
    go_wp2_with fail
    refine (BRead_own B lv l asked last no _ HL.out hne hB1 hk).mono ?_
    rintro e w1 ⟨rfl, hB2, hK⟩
    have hBl := heap_lt hB.out
    have R1 := Lib.hid (hK.heap R0.out (by omega))
    have S1 := Lib.hid (hK.heap (heap_alloc hS.out) hSB)
    have HB2 : Hid (BB w1 B lv A1 L1) := by show BB w1 B lv A1 L1; rw [hA1.out, hL1.out, hM.out]; exact hB2
    have K1 := Lib.hid ((Kept.of (B := B) B0.out).trans hK)
    have z1 := heap_lt R1.out
    have z2 := heap_lt S1.out
    have z3 := heap_lt hB2
    clear hB2 hK hB1 R0 B0 hinv hS s0 hB
    obtain ⟨s, hs⟩ : ∃ s, (blkFind no l).1 = s := ⟨_, rfl⟩
    obtain ⟨c, hc⟩ : ∃ c, (blkFind no l).2 = c := ⟨_, rfl⟩
    rw [hs] at HS
    rw [hs, hc]
    have Hs := Lib.hid hs
    have Hc := Lib.hid hc
    clear hs hc
    obtain ⟨q0, q1, q2, q3, k0, k1, k2, k3⟩ := blk4 R1.out
    by_cases hc0 : c = 0
    · have d3 : (c != 0) = false := by rw [hc0]; rfl
      have hv : Hid (sheetV a b no l = openV a b no s) := by show _ = _; rw [sheetV, if_neg (by rw [hM.out]; decide), Hc.out, if_neg (by rw [hc0]; simp), Hs.out]
      clear hc0
      have f0 : w1.cell? ⟨S, 1, none⟩ = some (.int .i64 a) := by rw [heap_cell S1.out]; rfl
      have f1 : w1.cell? ⟨S, 2, none⟩ = some (.int .i64 b) := by rw [heap_cell S1.out]; rfl
      go_wp2_with fail
      clear f0 f1 q0 q1 q2 q3 k0 k1 k2 k3
      obtain ⟨k, n, r, c1, t, hV, j1, j2, j3⟩ := openV_form a b no s
      clear j1 j2 j3
      have HO := Lib.hid (Open5_any a b no s)
      rw [hV] at HO
      refine (HO.out _ ha hno HS.out).mono ?_
      rintro e w2 ⟨rfl, hb2⟩
      have R2 := Lib.hid (heap_below R1.out hb2 z1)
      have K2 := Lib.hid (K1.out.trans (Kept.of hb2))
      have HB3 := Lib.hid (heap_below HB2.out hb2 z3)
      clear hb2
      obtain ⟨q0, q1, q2, q3, k0, k1, k2, k3⟩ := blk4 R2.out
      have HV := Lib.hid hV
      clear hV
      go_wp2_with fail
      refine wpDone (fun W4 e4 => ?_)
      obtain ⟨h3, hB3⟩ := blk4_set R2.out e4
      obtain ⟨z0, z1, z2, z3, _⟩ := blk4 h3
      refine bodyPost_ret (v := .tuple #[.agg #[.int .u8 k, .int .u32 n, .int .u64 r, .string t], .int .i64 c1]) (by simp [results, Try.results28, go_sem, z0, z1, z2, z3]) rfl ⟨by rw [hv.out, HV.out], heap_below HB3.out (hB3 w.heap.size (Nat.le_refl _)) hBl, K2.out.low (hB3 _ (Nat.le_refl _))⟩
    · have d3 : (c != 0) = true := by rw [bne_iff_ne]; exact hc0
      have hv : Hid (sheetV a b no l = .tuple #[.agg #[.int .u8 0, .int .u32 0, .int .u64 0, .string ⟨#[]⟩], .int .i64 c]) := by show _ = _; rw [sheetV, if_neg (by rw [hM.out]; decide), Hc.out, if_pos hc0]
      clear hc0
      go_wp2_with fail
      refine wpDone (fun W4 e4 => ?_)
      obtain ⟨h3, hB3⟩ := blk4_set R1.out e4
      obtain ⟨z0, z1, z2, z3, _⟩ := blk4 h3
      refine bodyPost_ret (v := .tuple #[.agg #[.int .u8 0, .int .u32 0, .int .u64 0, .string ⟨#[]⟩], .int .i64 c]) (by simp [results, Try.results28, go_sem, z0, z1, z2, z3]) rfl ⟨by rw [hv.out], heap_below HB2.out (hB3 w.heap.size (Nat.le_refl _)) hBl, K1.out.low (hB3 _ (Nat.le_refl _))⟩

/-! rows of blocks of the call's own -/
def kv (x : Blk) : List Value := [.int .u32 x.no, .string x.text, .int .i64 x.code]
def OwnK (w : World) (B : Nat) (v : Value) (xs : List Blk) : Prop := w.ownsRow B 67 3 v xs.length (xs.flatMap kv)
theorem info_blk : (Try.prog.info? 67).map (fun i => (i.zero, i.size, i.bytes)) = some (some (.agg #[.int .u32 0, .string ⟨#[]⟩, .int .i64 0]), 3, 32) := by kernel_rfl
theorem kv_at : ∀ (xs : List Blk) (i : Nat) (h : i < xs.length) (j : Nat), j < 3 → (xs.flatMap kv)[i * 3 + j]? = (kv xs[i])[j]?
  | x :: xs, 0, h, j, hj => by
    rw [List.flatMap_cons, List.getElem?_append_left (by show 0 * 3 + j < 3; omega), Nat.zero_mul, Nat.zero_add]
    rfl
  | x :: xs, i + 1, h, j, hj => by
    have e : (i + 1) * 3 + j = 3 + (i * 3 + j) := by omega
    rw [List.flatMap_cons, e, List.getElem?_append_right (by show (kv x).length ≤ _; simp [kv])]
    have e2 : 3 + (i * 3 + j) - (kv x).length = i * 3 + j := by simp [kv]
    rw [e2, kv_at xs i (by simpa using h) j hj]
    rfl
theorem kv_one (xs : List Blk) : ∀ u ∈ xs.flatMap kv, u.oneCell' = true := by
  intro u hu
  obtain ⟨x, _, hx⟩ := List.mem_flatMap.1 hu
  simp only [kv, List.mem_cons, List.not_mem_nil, or_false] at hx
  rcases hx with rfl | rfl | rfl <;> rfl
theorem OwnK.nil (w : World) (B : Nat) : OwnK w B (.slice none 0 0) [] := World.ownsRow_nil w B _ 3
theorem OwnK.lt {w : World} {B : Nat} {v : Value} {xs : List Blk} (h : OwnK w B v xs) : ∀ g, v.ownBlock = some g → B ≤ g ∧ g < w.heap.size := World.ownsRow.lt h
theorem OwnK.below {w w' : World} {B C : Nat} {v : Value} {xs : List Blk} (h : OwnK w B v xs) (hb : Below C w w') (hC : ∀ g, v.ownBlock = some g → g < C) : OwnK w' B v xs := by
  refine ⟨h.1, ?_⟩
  rcases h.2 with hn | ⟨g, cap, cur, rfl, hB, hg, r⟩
  · exact .inl hn
  · exact .inr ⟨g, cap, cur, rfl, hB, heap_below hg hb (hC g rfl), r⟩
theorem OwnK.other {w w' : World} {B C : Nat} {v : Value} {xs : List Blk} (h : OwnK w B v xs) (hk : Kept C w w') (hC : C < B) : OwnK w' B v xs := by
  refine ⟨h.1, ?_⟩
  rcases h.2 with hn | ⟨g, cap, cur, rfl, hB, hg, r⟩
  · exact .inl hn
  · exact .inr ⟨g, cap, cur, rfl, hB, hk.heap hg (by omega), r⟩
theorem OwnK.setOther {w : World} {B : Nat} {v : Value} {xs : List Blk} (h : OwnK w B v xs) {a : Addr} (hC : a.block < B) (u : Value) : OwnK (w.setCell a u) B v xs := by
  refine ⟨h.1, ?_⟩
  rcases h.2 with hn | ⟨g, cap, cur, rfl, hB, hg, r⟩
  · exact .inl hn
  · exact .inr ⟨g, cap, cur, rfl, hB, heap_setOther hg (by omega) _, r⟩
theorem OwnK.row {w : World} {B : Nat} {v : Value} {xs : List Blk} (h : OwnK w B v xs) (hok : ∀ x ∈ xs, BlkOk x) (hn : xs.length ≤ 9223372036854775807) : BlkRow w v xs := by
  rcases h.2 with ⟨rfl, h0⟩ | ⟨g, cap, cur, rfl, hB, hg, r⟩
  · have : xs = [] := List.length_eq_zero_iff.1 h0
    subst this
    exact ⟨by simp, by simp, none, 0, rfl, fun h => by simp at h⟩
  · refine ⟨hn, hok, _, _, rfl, fun _ => ⟨g, 0, rfl, fun i hi => ?_⟩⟩
    have hc : ∀ j u, j < 3 → (kv xs[i])[j]? = some u → w.cell? ⟨g, i * 3 + j, none⟩ = some u := fun j u hj hu => by
      have h1 := World.ownsRow.cells (w := w) h (g := g) rfl (i * 3 + j) u (by rw [kv_at xs i hi j hj]; exact hu)
      have hadd : (⟨g, 0, none⟩ : Addr).add (i * 3 + j) = ⟨g, i * 3 + j, none⟩ := by unfold Addr.add; split <;> simp_all
      rw [hadd] at h1
      exact h1
    refine ⟨?_, ?_, ?_⟩
    · rw [Nat.zero_add]; exact hc 0 _ (by omega) rfl
    · rw [Nat.zero_add]; exact hc 1 _ (by omega) rfl
    · rw [Nat.zero_add]; exact hc 2 _ (by omega) rfl
theorem wp_appK {o : Oper} {a : Act} {K : Act → World → Prop} {Q : Exit → Act → World → Prop} (W : World) (x : Blk) (s y : Operand)
    (ho : o.op = .call { callee := .builtin .append, args := #[s, y], argTypes := #[49, 49] })
    (B : Nat) (v : Value) (xs : List Blk) (hs : a.eval s = v) (hown : OwnK W B v xs) (g c : Nat) (hy : a.eval y = .slice (some ⟨g, 0, none⟩) 1 c) (ty : TypeId) (hn : W.heap[g]? = some (.cells #[.int .u32 x.no, .string x.text, .int .i64 x.code] ty (0, 0)))
    (hlen : xs.length ≤ 4294967296) (hB : B ≤ W.heap.size)
    (h : ∀ g2 cap2 w', OwnK w' B (.slice (some ⟨g2, 0, none⟩) (xs.length + 1) cap2) (xs ++ [x]) → W.grownBy w' v.ownBlock → K (a.put o.dst (.slice (some ⟨g2, 0, none⟩) (xs.length + 1) cap2)) w') : o.wp Try.prog a W K Q := by
  obtain ⟨i, hi, hz0, hz1, hz2⟩ := info_parts info_blk
  refine wp_append_lies W s y 49 ho B 67 i (.agg #[.int .u32 0, .string ⟨#[]⟩, .int .i64 0]) 3 32 Try.underlying49 hi hz0 hz1 hz2 rfl (by decide) v xs.length (xs.flatMap kv) hs hown ⟨g, 0, none⟩ 1 c (kv x) hy rfl ?_ (fun u hu => kv_one [x] u (by simpa using hu)) (by decide) (by rw [maxLen_eq]; omega) (by omega) hB W.heap.size rfl ?_
  · intro j u hu
    have hadd : (⟨g, 0, none⟩ : Addr).add j = ⟨g, j, none⟩ := by unfold Addr.add; split <;> simp_all
    rw [hadd, heap_cell hn]
    match j, hu with
    | 0, hu => exact hu
    | 1, hu => exact hu
    | 2, hu => exact hu
  · intro g' cap w' h1 h2 h3 _
    refine h g' cap w' ?_ h2
    unfold OwnK
    rw [List.length_append, List.flatMap_append]
    simpa using h1
end Go.Proofs.Ytfhfeaipdmcekaa
