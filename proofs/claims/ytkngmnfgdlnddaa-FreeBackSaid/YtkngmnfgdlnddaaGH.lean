/-
  The walk of the law's own calls whose answers the document fixes. Views of numbers, of chains, of a need.
-/
import Derived.Test.YtkngmnfgdlnddaaGC
import Derived.Test.YtkngmnfgdlnddaaTakH
import Derived.Test.YtkngmnfgdlnddaaGA
import Derived.Deep.Slices
import Derived.Deep.Strs
import Derived.Lib.SmallJoins
set_option linter.unusedSimpArgs false
set_option linter.unusedVariables false
namespace Go.Proofs.Ytkngmnfgdlnddaa
open Go.RowKit Go.Lib Hw Go.Maps
set_option linter.unusedSimpArgs false
set_option linter.unusedVariables false

theorem small_any (w : World) : Calls Try.prog 53 #[] w fun e w' => e = .returned (.agg #[.int .i64 1024, .int .i64 32]) ∧ Below w.heap.size w w' := by
  obtain ⟨N, hN⟩ : ∃ N, w.heap.size = N := ⟨_, rfl⟩
  have HN := Lib.hid hN
  rw [hN]
  clear hN
  go_enter Try.func53, Try.ntmps53
  go_upto_region 0 with fail
  with_reducible refine wp_region_list ?_
  refine wpList_allocB rfl 23 rfl N HN.out (.agg #[.int .i64 0, .int .i64 0]) (fun _ => by kernel_rfl) ?_
  intro w1 e1 b1 z1
  (try simp only [Act.put, nA, nB, nC])
  have g0 := heap_cell e1 (o := 0)
  have g1 := heap_cell e1 (o := 1)
  have f0 := heap_free e1 0
  have f1 := heap_free e1 1
  go_wp2_with fail
  have BW := (b1.setCell (p := ⟨N, 0, none⟩) (Nat.le_refl _) (.int .i64 1024)).setCell (p := ⟨N, 1, none⟩) (Nat.le_refl _) (.int .i64 32)
  have HW := heap_set (o := 1) (heap_set (o := 0) e1 (.int .i64 1024)) (.int .i64 32)
  obtain ⟨W, hW⟩ : ∃ W, ((w1.setCell ⟨N, 0, none⟩ (.int .i64 1024)).setCell ⟨N, 1, none⟩ (.int .i64 32)) = W := ⟨_, rfl⟩
  rw [hW] at BW HW
  rw [hW]
  have c0 := heap_cell HW (o := 0)
  have c1 := heap_cell HW (o := 1)
  exact bodyPost_ret (v := .agg #[.int .i64 1024, .int .i64 32]) (by simp [results, Try.results53, go_sem, c0, c1]) rfl ⟨rfl, BW⟩
/-- the text that the document fixes -/
def fixS : ByteArray := ⟨#[0, 0, 0, 0, 0, 0, 0, 2, 0, 0, 0, 5, 0, 0, 0, 9]⟩
theorem fix_body : bodyS 1024 32 0 [5, 9] = fixS ∧ bodyE 1024 32 0 [5, 9] = 0 := by decide +kernel
theorem fix_from : fromB 1024 32 fixS = true ∧ nextOf fixS = 0 ∧ numsOf fixS (cntOf fixS) = [5, 9] := by decide +kernel
theorem fix_plan : planF 1024 32 [(6, [2, 4])] 7 [] 1 [5] 9 = .inr ⟨[2], [(4, [5, 6])], 1, 7⟩ := by kernel_rfl
theorem fix_ent : entI 1024 32 = 246 := by decide
/-- list pages of the call's own, read as a chain -/
theorem Dealt.row {w : World} {N : Nat} {lv : Value} {bs : List (Nat × Value)} {cs : List (Nat × List Nat)} (h : OwnC w N lv bs) (hd : Dealt w N lv bs cs) (hp : ∀ c ∈ cs, c.1 < 4294967296 ∧ All4 c.2) : CRow w lv cs := by
  obtain ⟨hl, h1, _⟩ := hd
  obtain ⟨ad, cap, rfl, h2, h3, h4⟩ := h.shape
  refine ⟨fun c hc => (hp c hc).1, ad, cap, by rw [hl], by omega, h3, fun h0 => ?_⟩
  obtain ⟨g, rfl⟩ := h4 (by omega)
  refine ⟨g, 0, rfl, (h.lt g rfl).2, fun i hi => ⟨(bs[i]).2, ?_, (h1 i hi).2.1.row (hp _ (List.getElem_mem hi)).2⟩⟩
  have h5 := h.cell i (by omega)
  intro j u hu
  rw [Nat.zero_add]
  match j, hu with
  | 0, hu => rw [Nat.add_zero, h5.1, (h1 i hi).1]; exact hu
  | 1, hu => rw [h5.2]; exact hu
/-- a row of two numbers that was written out -/
theorem row2 (w : World) (x y : Nat) (hx : x < 4294967296) (hy : y < 4294967296) (t : TypeId) : URow (w.alloc (.cells #[.int .u32 (x : Int), .int .u32 (y : Int)] t)) (.slice (some ⟨w.heap.size, 0, none⟩) 2 2) [x, y] := by
  refine ⟨fun z hz => ?_, _, 2, rfl, Nat.le_refl _, by decide, fun _ => ⟨w.heap.size, 0, rfl, by simp, fun i hi => ?_⟩⟩
  · rcases List.mem_cons.1 hz with rfl | hz
    · exact hx
    · rw [List.mem_singleton.1 hz]; exact hy
  · rw [heap_cell (heap_alloc_new w _)]
    match i, hi with
    | 0, _ => rfl
    | 1, _ => rfl
theorem row1 (w : World) (x : Nat) (hx : x < 4294967296) (t : TypeId) : URow (w.alloc (.cells #[.int .u32 (x : Int)] t)) (.slice (some ⟨w.heap.size, 0, none⟩) 1 1) [x] := by
  refine ⟨fun z hz => ?_, _, 1, rfl, Nat.le_refl _, by decide, fun _ => ⟨w.heap.size, 0, rfl, by simp, fun i hi => ?_⟩⟩
  · rw [List.mem_singleton.1 hz]; exact hx
  · rw [heap_cell (heap_alloc_new w _)]
    match i, hi with
    | 0, _ => rfl
/-- a chain of one batch that was written out -/
theorem chain1 (w : World) (x : Nat) (v : Value) (xs : List Nat) (hx : x < 4294967296) (h : URow w v xs) (t : TypeId) : CRow (w.alloc (.cells #[.int .u32 (x : Int), v] t)) (.slice (some ⟨w.heap.size, 0, none⟩) 1 1) [(x, xs)] := by
  refine ⟨fun c hc => by rw [List.mem_singleton.1 hc]; exact hx, _, 1, rfl, Nat.le_refl _, by decide, fun _ => ⟨w.heap.size, 0, rfl, by simp, fun i hi => ?_⟩⟩
  match i, hi with
  | 0, _ =>
    refine ⟨v, fun j u hu => ?_, h.below ((Below.refl _ _).alloc (Nat.le_refl _) _)⟩
    rw [heap_cell (heap_alloc_new w _)]
    match j, hu with
    | 0, hu => exact hu
    | 1, hu => exact hu
set_option maxRecDepth 5000 in
set_option maxHeartbeats 16000000 in
theorem awake_any (w : World) : Calls Try.prog 20 #[] w fun e w' => e = .returned (.bool true) ∧ Below w.heap.size w w' := by
  obtain ⟨N, hN⟩ : ∃ N, w.heap.size = N := ⟨_, rfl⟩
  have HN := Lib.hid hN
  rw [hN]
  clear hN
  go_enter Try.func20, Try.ntmps20
  go_upto_region 1 with fail
  with_reducible refine wp_region_list ?_
  with_reducible refine wpList_plain rfl ?_
  intro K hK
  go_simp
  refine (small_any w).mono ?_; rintro e w1 ⟨rfl, b1⟩
  first | with_reducible refine hK _ _ ?_ | refine hK _ _ ?_
  clear hK K
  (try simp only [Act.put, nA, nB, nC])
  (with_reducible refine wpList_plain rfl ?_); intro K hK; go_simp; (with_reducible refine hK _ _ ?_); clear hK K; try simp only [Act.put, nA, nB, nC]
  obtain ⟨v2, hv2⟩ : ∃ v, Value.slice (some ⟨w1.heap.size, 0, none⟩) 2 2 = v := ⟨_, rfl⟩
  obtain ⟨w2, hw2⟩ : ∃ W, w1.alloc (.cells #[.int .u32 5, .int .u32 9] 27) = W := ⟨_, rfl⟩
  have R2 : Hid (URow w2 v2 [5, 9]) := by rw [← hv2, ← hw2]; exact row2 w1 5 9 (by decide) (by decide) _
  have b2 : Below w1.heap.size w1 w2 := by rw [← hw2]; exact (Below.refl _ _).alloc (Nat.le_refl _) _
  have B2 : Hid (Below N w w2) := by rw [← HN.out]; exact b1.trans (b2.mono b1.size)
  rw [hw2, hv2]
  clear hw2 b1 b2
  have hB : Calls Try.prog 23 #[.agg #[.int .i64 1024, .int .i64 32], .int .u32 0, v2] w2 (fun e w' => e = .returned (.tuple #[.string fixS, .int .i64 0]) ∧ Below w2.heap.size w2 w') := by
    have h := Body_any 1024 32 0 v2 [5, 9] w2 (by decide) R2
    refine h.mono ?_
    rintro e w' ⟨he, hb⟩
    rw [fix_body.1, fix_body.2] at he
    exact ⟨he, hb⟩
  have HB := Lib.hid hB
  clear hB
  with_reducible refine wpList_plain rfl ?_
  intro K hK
  go_simp
  refine HB.out.mono ?_; rintro e w3 ⟨rfl, b3⟩
  first | with_reducible refine hK _ _ ?_ | refine hK _ _ ?_
  clear hK K
  (try simp only [Act.put, nA, nB, nC])
  have B3 : Hid (Below N w w3) := B2.out.trans (b3.mono (by have := B2.out.size; have := HN.out; omega))
  clear b3 HB R2 B2 hv2
  (with_reducible refine wpList_plain rfl ?_); intro K hK; go_simp; (with_reducible refine hK _ _ ?_); clear hK K; try simp only [Act.put, nA, nB, nC]
  (with_reducible refine wpList_plain rfl ?_); intro K hK; go_simp; (with_reducible refine hK _ _ ?_); clear hK K; try simp only [Act.put, nA, nB, nC]
  (with_reducible refine wpList_plain rfl ?_); intro K hK; go_simp; (with_reducible refine hK _ _ ?_); clear hK K; try simp only [Act.put, nA, nB, nC]
  (with_reducible refine wpList_plain rfl ?_); intro K hK; go_simp; (with_reducible refine hK _ _ ?_); clear hK K; try simp only [Act.put, nA, nB, nC]
  (with_reducible refine wpList_plain rfl ?_); intro K hK; go_simp; (with_reducible refine hK _ _ ?_); clear hK K; try simp only [Act.put, nA, nB, nC]
  go_upto_region 2 with fail
  with_reducible refine wp_region_list ?_
  with_reducible refine wpList_plain rfl ?_
  intro K hK
  go_simp
  refine (small_any w3).mono ?_; rintro e w4 ⟨rfl, b4⟩
  first | with_reducible refine hK _ _ ?_ | refine hK _ _ ?_
  clear hK K
  (try simp only [Act.put, nA, nB, nC])
  have B4 : Hid (Below N w w4) := B3.out.trans (b4.mono (by have := B3.out.size; have := HN.out; omega))
  clear b4 B3
  have hF : Calls Try.prog 26 #[.agg #[.int .i64 1024, .int .i64 32], .string fixS] w4 (fun e w' => ∃ v, e = .returned (.tuple #[.int .u32 0, v, .int .i64 0]) ∧ OwnM w' w4.heap.size v [5, 9] ∧ Below w4.heap.size w4 w') := by
    have h := FromBody_any 1024 32 fixS w4 (by decide)
    refine h.mono ?_
    rintro e w' (⟨_, v, he, ho, hb⟩ | ⟨h1, _⟩)
    · rw [fix_from.2.1] at he
      rw [fix_from.2.2] at ho
      exact ⟨v, he, ho, hb⟩
    · rw [fix_from.1] at h1; cases h1
  have HF := Lib.hid hF
  clear hF
  (with_reducible refine wpList_plain rfl ?_); intro K hK; go_simp; (with_reducible refine hK _ _ ?_); clear hK K; try simp only [Act.put, nA, nB, nC]
  with_reducible refine wpList_plain rfl ?_
  intro K hK
  go_simp
  refine HF.out.mono ?_; rintro e w5 ⟨v5, rfl, o5, b5⟩
  first | with_reducible refine hK _ _ ?_ | refine hK _ _ ?_
  clear hK K
  (try simp only [Act.put, nA, nB, nC])
  have R5 : Hid (URow w5 v5 [5, 9]) := o5.row (by intro z hz; simp at hz; omega)
  have B5 : Hid (Below N w w5) := B4.out.trans (b5.mono (by have := B4.out.size; have := HN.out; omega))
  have hz5 : N ≤ w5.heap.size := by have := B5.out.size; have := HN.out; omega
  clear b5 o5 HF B4
  (with_reducible refine wpList_plain rfl ?_); intro K hK; go_simp; (with_reducible refine hK _ _ ?_); clear hK K; try simp only [Act.put, nA, nB, nC]
  (with_reducible refine wpList_plain rfl ?_); intro K hK; go_simp; (with_reducible refine hK _ _ ?_); clear hK K; try simp only [Act.put, nA, nB, nC]
  (with_reducible refine wpList_plain rfl ?_); intro K hK; go_simp; (with_reducible refine hK _ _ ?_); clear hK K; try simp only [Act.put, nA, nB, nC]
  (with_reducible refine wpList_plain rfl ?_); intro K hK; go_simp; (with_reducible refine hK _ _ ?_); clear hK K; try simp only [Act.put, nA, nB, nC]
  (with_reducible refine wpList_plain rfl ?_); intro K hK; go_simp; (with_reducible refine hK _ _ ?_); clear hK K; try simp only [Act.put, nA, nB, nC]
  (with_reducible refine wpList_plain rfl ?_); intro K hK; go_simp; (with_reducible refine hK _ _ ?_); clear hK K; try simp only [Act.put, nA, nB, nC]
  (with_reducible refine wpList_plain rfl ?_); intro K hK; go_simp; (with_reducible refine hK _ _ ?_); clear hK K; try simp only [Act.put, nA, nB, nC]
  go_upto_region 3 with fail
  with_reducible refine wp_region_list ?_
  with_reducible refine wpList_plain rfl ?_
  intro K hK
  go_simp
  refine (small_any w5).mono ?_; rintro e w6 ⟨rfl, b6⟩
  first | with_reducible refine hK _ _ ?_ | refine hK _ _ ?_
  clear hK K
  (try simp only [Act.put, nA, nB, nC])
  (with_reducible refine wpList_plain rfl ?_); intro K hK; go_simp; (with_reducible refine hK _ _ ?_); clear hK K; try simp only [Act.put, nA, nB, nC]
  obtain ⟨n7, hn7⟩ : ∃ k, w6.heap.size = k := ⟨_, rfl⟩
  obtain ⟨w7, hw7⟩ : ∃ W, w6.alloc (.cells #[.int .u32 2, .int .u32 4] 27) = W := ⟨_, rfl⟩
  have R7 : Hid (URow w7 (.slice (some ⟨n7, 0, none⟩) 2 2) [2, 4]) := by rw [← hn7, ← hw7]; exact row2 w6 2 4 (by decide) (by decide) _
  have b7 : Below w6.heap.size w6 w7 := by rw [← hw7]; exact (Below.refl _ _).alloc (Nat.le_refl _) _
  have hz7 : N ≤ w7.heap.size := by have := b7.size; have := b6.size; omega
  have B7 : Hid (Below N w w7) := B5.out.trans ((b6.mono hz5).trans (b7.mono (by have := b6.size; omega)))
  have R6 : Hid (URow w7 v5 [5, 9]) := (R5.out.below b6).below b7
  rw [hw7]
  clear hw7 b7 b6 R5 B5
  (with_reducible refine wpList_plain rfl ?_); intro K hK; go_simp; (with_reducible refine hK _ _ ?_); clear hK K; try simp only [Act.put, nA, nB, nC]
  (with_reducible refine wpList_plain rfl ?_); intro K hK; go_simp; (with_reducible refine hK _ _ ?_); clear hK K; try simp only [Act.put, nA, nB, nC]
  obtain ⟨n8, hn8⟩ : ∃ k, w7.heap.size = k := ⟨_, rfl⟩
  obtain ⟨w8, hw8⟩ : ∃ W, w7.alloc (.cells #[.int .u32 6, .slice (some ⟨n7, 0, none⟩) 2 2] 64) = W := ⟨_, rfl⟩
  have C8 : Hid (CRow w8 (.slice (some ⟨n8, 0, none⟩) 1 1) [(6, [2, 4])]) := by rw [← hn8, ← hw8]; exact chain1 w7 6 _ [2, 4] (by decide) R7.out _
  have b8 : Below w7.heap.size w7 w8 := by rw [← hw8]; exact (Below.refl _ _).alloc (Nat.le_refl _) _
  have hz8 : N ≤ w8.heap.size := by have := b8.size; omega
  have B8 : Hid (Below N w w8) := B7.out.trans (b8.mono (by omega))
  have R8 : Hid (URow w8 v5 [5, 9]) := R6.out.below b8
  rw [hw8]
  clear hw8 b8 R6 B7 R7
  (with_reducible refine wpList_plain rfl ?_); intro K hK; go_simp; (with_reducible refine hK _ _ ?_); clear hK K; try simp only [Act.put, nA, nB, nC]
  obtain ⟨n9, hn9⟩ : ∃ k, w8.heap.size = k := ⟨_, rfl⟩
  obtain ⟨w9, hw9⟩ : ∃ W, w8.alloc (.cells #[.int .u32 5] 27) = W := ⟨_, rfl⟩
  have R9 : Hid (URow w9 (.slice (some ⟨n9, 0, none⟩) 1 1) [5]) := by rw [← hn9, ← hw9]; exact row1 w8 5 (by decide) _
  have b9 : Below w8.heap.size w8 w9 := by rw [← hw9]; exact (Below.refl _ _).alloc (Nat.le_refl _) _
  have hz9 : N ≤ w9.heap.size := by have := b9.size; omega
  have B9 : Hid (Below N w w9) := B8.out.trans (b9.mono (by omega))
  have S9 : Hid (URow w9 v5 [5, 9]) := R8.out.below b9
  have C9 : Hid (CRow w9 (.slice (some ⟨n8, 0, none⟩) 1 1) [(6, [2, 4])]) := C8.out.below b9
  rw [hw9]
  clear hw9 b9 R8 B8 C8
  (with_reducible refine wpList_plain rfl ?_); intro K hK; go_simp; (with_reducible refine hK _ _ ?_); clear hK K; try simp only [Act.put, nA, nB, nC]
  have hP : Calls Try.prog 31 #[.agg #[.int .i64 1024, .int .i64 32], .agg #[.slice (some ⟨n8, 0, none⟩) 1 1, .int .u32 7, .slice none 0 0, .int .i64 1, .slice (some ⟨n9, 0, none⟩) 1 1, .int .u32 9]] w9 (fun e w' => ∃ ad cp ad2 cp2, e = .returned (.tuple #[.agg #[.slice ad 1 cp, .slice ad2 1 cp2, .int .i64 1, .int .u32 7], .int .i64 0]) ∧ URow w' (.slice ad 1 cp) [2] ∧ CRow w' (.slice ad2 1 cp2) [(4, [5, 6])] ∧ Below w9.heap.size w9 w') := by
    have h := Plan_any 1024 32 7 9 1 _ (.slice none 0 0) _ [(6, [2, 4])] [] [5] w9 C9 (URow.nil _) R9 (by decide) (by decide) (by decide)
    rw [fix_plan] at h
    refine h.mono ?_
    rintro e w' ⟨hb, tv, lv, bs, N1, he, _, ho, _, hc, hd⟩
    have hr : URow w' tv [2] := ho.row (by intro z hz; simp at hz; omega)
    have hcr : CRow w' lv [(4, [5, 6])] := hd.row hc (by intro c hc; simp at hc; subst hc; exact ⟨by decide, by intro z hz; simp at hz; omega⟩)
    obtain ⟨ad, cp, h1, _⟩ := hr.form
    obtain ⟨ad2, cp2, h2, _⟩ := hcr.form
    subst h1 h2
    exact ⟨ad, cp, ad2, cp2, he, hr, hcr, hb⟩
  have HP := Lib.hid hP
  clear hP
  with_reducible refine wpList_plain rfl ?_
  intro K hK
  go_simp
  refine HP.out.mono ?_; rintro e w10 ⟨ad, cp, ad2, cp2, rfl, r10, c10, b10⟩
  first | with_reducible refine hK _ _ ?_ | refine hK _ _ ?_
  clear hK K
  (try simp only [Act.put, nA, nB, nC])
  have B10 : Hid (Below N w w10) := B9.out.trans (b10.mono (by omega))
  have S10 : Hid (URow w10 v5 [5, 9]) := S9.out.below b10
  have R10 := Lib.hid r10
  have C10 := Lib.hid c10
  have hz10 : N ≤ w10.heap.size := by have := b10.size; omega
  clear b10 r10 c10 HP B9 S9 C9 R9
  (with_reducible refine wpList_plain rfl ?_); intro K hK; go_simp; (with_reducible refine hK _ _ ?_); clear hK K; try simp only [Act.put, nA, nB, nC]
  (with_reducible refine wpList_plain rfl ?_); intro K hK; go_simp; (with_reducible refine hK _ _ ?_); clear hK K; try simp only [Act.put, nA, nB, nC]
  (with_reducible refine wpList_plain rfl ?_); intro K hK; go_simp; (with_reducible refine hK _ _ ?_); clear hK K; try simp only [Act.put, nA, nB, nC]
  obtain ⟨m, hm⟩ : ∃ k, w10.heap.size = k := ⟨_, rfl⟩
  refine wpList_allocB rfl 48 rfl m hm (.agg #[.slice none 0 0, .slice none 0 0, .int .i64 0, .int .u32 0]) (fun _ => by kernel_rfl) ?_
  intro w11 e11 b11 z11
  (try simp only [Act.put, nA, nB, nC])
  refine wpList_storeB rfl 48 _ _ rfl m #[.slice ad 1 cp, .slice ad2 1 cp2, .int .i64 1, .int .u32 7] rfl rfl 48 _ e11 (by kernel_rfl) rfl (by simp [Value.oneCell']) ?_
  intro w12 e12 m12
  (try simp only [Act.put, nA, nB, nC])
  (with_reducible refine wpList_plain rfl ?_); intro K hK; go_simp; (with_reducible refine hK _ _ ?_); clear hK K; try simp only [Act.put, nA, nB, nC]
  have b12 : Below w10.heap.size w10 w12 := by rw [hm]; exact b11.trans (m12.below (n := m) (fun k hk e => by omega) (by omega))
  have B12 : Hid (Below N w w12) := B10.out.trans (b12.mono (by omega))
  have S12 : Hid (URow w12 v5 [5, 9]) := S10.out.below b12
  have R12 : Hid (URow w12 (.slice ad 1 cp) [2]) := R10.out.below b12
  have C12 : Hid (CRow w12 (.slice ad2 1 cp2) [(4, [5, 6])]) := C10.out.below b12
  have E12 := Lib.hid e12
  have hz12 : m < w12.heap.size := heap_lt e12
  have hNm : N ≤ m := by omega
  clear e11 b11 z11 m12 b12 e12 B10 S10 R10 C10 hm
  go_upto_region 4 with fail
  with_reducible refine wp_region_list ?_
  have hs : (fixS.toList == [0, 0, 0, 0, 0, 0, 0, 2, 0, 0, 0, 5, 0, 0, 0, 9]) = true := by decide +kernel
  (with_reducible refine wpList_plain rfl ?_); intro K hK; go_simp; (with_reducible refine hK _ _ ?_); clear hK K; try simp only [Act.put, nA, nB, nC]
  (with_reducible refine wpList_plain rfl ?_); intro K hK; go_simp; (with_reducible refine hK _ _ ?_); clear hK K; try simp only [Act.put, nA, nB, nC]
  (with_reducible refine wpList_plain rfl ?_); intro K hK; go_simp; (with_reducible refine hK _ _ ?_); clear hK K; try simp only [Act.put, nA, nB, nC]
  clear hs
  (with_reducible refine wpList_step ?_); intro K hK; rw [if_pos (by rfl)]; go_simp; (with_reducible refine hK _ _ ?_); clear hK K; try simp only [Act.put, nA, nB, nC]
  (with_reducible refine wpList_step ?_); intro K hK; rw [if_pos (by rfl)]; go_simp; (with_reducible refine hK _ _ ?_); clear hK K; try simp only [Act.put, nA, nB, nC]
  (with_reducible refine wpList_plain rfl ?_); intro K hK; go_simp; (with_reducible refine hK _ _ ?_); clear hK K; try simp only [Act.put, nA, nB, nC]
  (with_reducible refine wpList_plain rfl ?_); intro K hK; go_simp; (with_reducible refine hK _ _ ?_); clear hK K; try simp only [Act.put, nA, nB, nC]
  (with_reducible refine wpList_step ?_); intro K hK; rw [if_pos (by rfl)]; go_simp; (with_reducible refine hK _ _ ?_); clear hK K; try simp only [Act.put, nA, nB, nC]
  (with_reducible refine wpList_step ?_); intro K hK; rw [if_pos (by rfl)]; go_simp; (with_reducible refine hK _ _ ?_); clear hK K; try simp only [Act.put, nA, nB, nC]
  (with_reducible refine wpList_plain rfl ?_); intro K hK; go_simp; (with_reducible refine hK _ _ ?_); clear hK K; try simp only [Act.put, nA, nB, nC]
  (with_reducible refine wpList_plain rfl ?_); intro K hK; go_simp; (with_reducible refine hK _ _ ?_); clear hK K; try simp only [Act.put, nA, nB, nC]
  (with_reducible refine wpList_step ?_); intro K hK; rw [if_pos (by rfl)]; go_simp; (with_reducible refine hK _ _ ?_); clear hK K; try simp only [Act.put, nA, nB, nC]
  (with_reducible refine wpList_step ?_); intro K hK; rw [if_pos (by rfl)]; go_simp; (with_reducible refine hK _ _ ?_); clear hK K; try simp only [Act.put, nA, nB, nC]
  obtain ⟨n13, hn13⟩ : ∃ k, w12.heap.size = k := ⟨_, rfl⟩
  obtain ⟨w13, hw13⟩ : ∃ W, w12.alloc (.cells #[.int .u32 5, .int .u32 9] 27) = W := ⟨_, rfl⟩
  have Q13 : Hid (URow w13 (.slice (some ⟨n13, 0, none⟩) 2 2) [5, 9]) := by rw [← hn13, ← hw13]; exact row2 w12 5 9 (by decide) (by decide) _
  have b13 : Below w12.heap.size w12 w13 := by rw [← hw13]; exact (Below.refl _ _).alloc (Nat.le_refl _) _
  have hz13 : m < w13.heap.size := by have := b13.size; omega
  have B13 : Hid (Below N w w13) := B12.out.trans (b13.mono (by omega))
  have S13 : Hid (URow w13 v5 [5, 9]) := S12.out.below b13
  have R13 : Hid (URow w13 (.slice ad 1 cp) [2]) := R12.out.below b13
  have C13 : Hid (CRow w13 (.slice ad2 1 cp2) [(4, [5, 6])]) := C12.out.below b13
  have E13 := Lib.hid (heap_below E12.out b13 (by omega))
  rw [hw13]
  clear hw13 b13 S12 R12 C12 E12 B12
  with_reducible refine wpList_step ?_
  intro K hK
  rw [if_pos (by rfl)]
  go_simp
  refine (SameNumbers_any v5 _ [5, 9] [5, 9] w13 S13 Q13).mono ?_; rintro e w14 ⟨rfl, b14⟩; rw [show decide (([5, 9] : List Nat) = [5, 9]) = true from rfl]
  first | with_reducible refine hK _ _ ?_ | refine hK _ _ ?_
  clear hK K
  (try simp only [Act.put, nA, nB, nC])
  have hz14 : m < w14.heap.size := by have := b14.size; omega
  have B14 : Hid (Below N w w14) := B13.out.trans (b14.mono (by omega))
  have R14 : Hid (URow w14 (.slice ad 1 cp) [2]) := R13.out.below b14
  have C14 : Hid (CRow w14 (.slice ad2 1 cp2) [(4, [5, 6])]) := C13.out.below b14
  have E14 := Lib.hid (heap_below E13.out b14 (by omega))
  clear b14 R13 C13 E13 B13 S13 Q13
  (with_reducible refine wpList_step ?_); intro K hK; rw [if_pos (by rfl)]; go_simp; (with_reducible refine hK _ _ ?_); clear hK K; try simp only [Act.put, nA, nB, nC]
  (with_reducible refine wpList_plain rfl ?_); intro K hK; go_simp; (with_reducible refine hK _ _ ?_); clear hK K; try simp only [Act.put, nA, nB, nC]
  (with_reducible refine wpList_plain rfl ?_); intro K hK; go_simp; (with_reducible refine hK _ _ ?_); clear hK K; try simp only [Act.put, nA, nB, nC]
  (with_reducible refine wpList_step ?_); intro K hK; rw [if_pos (by rfl)]; go_simp; (with_reducible refine hK _ _ ?_); clear hK K; try simp only [Act.put, nA, nB, nC]
  (with_reducible refine wpList_step ?_); intro K hK; rw [if_pos (by rfl)]; go_simp; (with_reducible refine hK _ _ ?_); clear hK K; try simp only [Act.put, nA, nB, nC]
  (with_reducible refine wpList_plain rfl ?_); intro K hK; go_simp; (with_reducible refine hK _ _ ?_); clear hK K; try simp only [Act.put, nA, nB, nC]
  (with_reducible refine wpList_plain rfl ?_); intro K hK; go_simp; (with_reducible refine hK _ _ ?_); clear hK K; try simp only [Act.put, nA, nB, nC]
  (with_reducible refine wpList_step ?_); intro K hK; rw [if_pos (by rfl)]; go_simp; (with_reducible refine hK _ _ ?_); clear hK K; try simp only [Act.put, nA, nB, nC]
  (with_reducible refine wpList_step ?_); intro K hK; rw [if_pos (by rfl)]; go_simp; (with_reducible refine hK _ _ ?_); clear hK K; try simp only [Act.put, nA, nB, nC]
  (with_reducible refine wpList_plain rfl ?_); intro K hK; go_simp; (with_reducible refine hK _ _ ?_); clear hK K; try simp only [Act.put, nA, nB, nC]
  have c0 := heap_cell E14.out (o := 0)
  have c1 := heap_cell E14.out (o := 1)
  have c2 := heap_cell E14.out (o := 2)
  have c3 := heap_cell E14.out (o := 3)
  go_upto_region 6 with fail
  with_reducible refine wp_region_list ?_
  (with_reducible refine wpList_plain rfl ?_); intro K hK; go_simp; (with_reducible refine hK _ _ ?_); clear hK K; try simp only [Act.put, nA, nB, nC]
  (with_reducible refine wpList_plain rfl ?_); intro K hK; go_simp; (with_reducible refine hK _ _ ?_); clear hK K; try simp only [Act.put, nA, nB, nC]
  clear c0 c1 c2 c3
  obtain ⟨n15, hn15⟩ : ∃ k, w14.heap.size = k := ⟨_, rfl⟩
  obtain ⟨w15, hw15⟩ : ∃ W, w14.alloc (.cells #[.int .u32 2] 27) = W := ⟨_, rfl⟩
  have Q15 : Hid (URow w15 (.slice (some ⟨n15, 0, none⟩) 1 1) [2]) := by rw [← hn15, ← hw15]; exact row1 w14 2 (by decide) _
  have b15 : Below w14.heap.size w14 w15 := by rw [← hw15]; exact (Below.refl _ _).alloc (Nat.le_refl _) _
  have hz15 : m < w15.heap.size := by have := b15.size; omega
  have B15 : Hid (Below N w w15) := B14.out.trans (b15.mono (by omega))
  have R15 : Hid (URow w15 (.slice ad 1 cp) [2]) := R14.out.below b15
  have C15 : Hid (CRow w15 (.slice ad2 1 cp2) [(4, [5, 6])]) := C14.out.below b15
  rw [hw15]
  clear hw15 b15 R14 C14 B14 E14
  (with_reducible refine wpList_plain rfl ?_); intro K hK; go_simp; (with_reducible refine hK _ _ ?_); clear hK K; try simp only [Act.put, nA, nB, nC]
  obtain ⟨n16, hn16⟩ : ∃ k, w15.heap.size = k := ⟨_, rfl⟩
  obtain ⟨w16, hw16⟩ : ∃ W, w15.alloc (.cells #[.int .u32 5, .int .u32 6] 27) = W := ⟨_, rfl⟩
  have P16 : Hid (URow w16 (.slice (some ⟨n16, 0, none⟩) 2 2) [5, 6]) := by rw [← hn16, ← hw16]; exact row2 w15 5 6 (by decide) (by decide) _
  have b16 : Below w15.heap.size w15 w16 := by rw [← hw16]; exact (Below.refl _ _).alloc (Nat.le_refl _) _
  have hz16 : m < w16.heap.size := by have := b16.size; omega
  have B16 : Hid (Below N w w16) := B15.out.trans (b16.mono (by omega))
  have R16 : Hid (URow w16 (.slice ad 1 cp) [2]) := R15.out.below b16
  have C16 : Hid (CRow w16 (.slice ad2 1 cp2) [(4, [5, 6])]) := C15.out.below b16
  have Q16 : Hid (URow w16 (.slice (some ⟨n15, 0, none⟩) 1 1) [2]) := Q15.out.below b16
  rw [hw16]
  clear hw16 b16 R15 C15 B15 Q15
  (with_reducible refine wpList_plain rfl ?_); intro K hK; go_simp; (with_reducible refine hK _ _ ?_); clear hK K; try simp only [Act.put, nA, nB, nC]
  (with_reducible refine wpList_plain rfl ?_); intro K hK; go_simp; (with_reducible refine hK _ _ ?_); clear hK K; try simp only [Act.put, nA, nB, nC]
  obtain ⟨n17, hn17⟩ : ∃ k, w16.heap.size = k := ⟨_, rfl⟩
  obtain ⟨w17, hw17⟩ : ∃ W, w16.alloc (.cells #[.int .u32 4, .slice (some ⟨n16, 0, none⟩) 2 2] 64) = W := ⟨_, rfl⟩
  have D17 : Hid (CRow w17 (.slice (some ⟨n17, 0, none⟩) 1 1) [(4, [5, 6])]) := by rw [← hn17, ← hw17]; exact chain1 w16 4 _ [5, 6] (by decide) P16.out _
  have b17 : Below w16.heap.size w16 w17 := by rw [← hw17]; exact (Below.refl _ _).alloc (Nat.le_refl _) _
  have hz17 : m < w17.heap.size := by have := b17.size; omega
  have B17 : Hid (Below N w w17) := B16.out.trans (b17.mono (by omega))
  have R17 : Hid (URow w17 (.slice ad 1 cp) [2]) := R16.out.below b17
  have C17 : Hid (CRow w17 (.slice ad2 1 cp2) [(4, [5, 6])]) := C16.out.below b17
  have Q17 : Hid (URow w17 (.slice (some ⟨n15, 0, none⟩) 1 1) [2]) := Q16.out.below b17
  rw [hw17]
  clear hw17 b17 R16 C16 B16 Q16 P16
  (with_reducible refine wpList_plain rfl ?_); intro K hK; go_simp; (with_reducible refine hK _ _ ?_); clear hK K; try simp only [Act.put, nA, nB, nC]
  have hS : Calls Try.prog 32 #[.agg #[.slice ad 1 cp, .slice ad2 1 cp2, .int .i64 1, .int .u32 7], .agg #[.slice (some ⟨n15, 0, none⟩) 1 1, .slice (some ⟨n17, 0, none⟩) 1 1, .int .i64 1, .int .u32 7]] w17 (SamePost true w17) :=
    SamePlan_any _ _ _ _ [2] [2] [(4, [5, 6])] [(4, [5, 6])] 1 1 7 7 w17 R17 Q17 C17 D17
  have HS := Lib.hid hS
  clear hS
  with_reducible refine wpList_plain rfl ?_
  intro K hK
  go_simp
  refine HS.out.mono ?_; rintro e w18 ⟨rfl, b18⟩
  first | with_reducible refine hK _ _ ?_ | refine hK _ _ ?_
  clear hK K
  (try simp only [Act.put, nA, nB, nC])
  have B18 : Hid (Below N w w18) := B17.out.trans (b18.mono (by omega))
  have hz18 : m < w18.heap.size := by have := b18.size; omega
  clear b18 HS R17 C17 Q17 D17 B17
  (with_reducible refine wpList_plain rfl ?_); intro K hK; go_simp; (with_reducible refine hK _ _ ?_); clear hK K; try simp only [Act.put, nA, nB, nC]
  with_reducible refine wpList_step ?_
  intro K hK
  rw [if_pos (by rfl)]
  go_simp
  refine (small_any w18).mono ?_; rintro e w19 ⟨rfl, b19⟩
  first | with_reducible refine hK _ _ ?_ | refine hK _ _ ?_
  clear hK K
  (try simp only [Act.put, nA, nB, nC])
  have B19 : Hid (Below N w w19) := B18.out.trans (b19.mono (by omega))
  have hz19 : m < w19.heap.size := by have := b19.size; omega
  clear b19
  with_reducible refine wpList_step ?_
  intro K hK
  rw [if_pos (by rfl)]
  go_simp
  refine (Entries_any 1024 32 w19).mono ?_; rintro e w20 ⟨rfl, b20⟩; rw [fix_ent]
  first | with_reducible refine hK _ _ ?_ | refine hK _ _ ?_
  clear hK K
  (try simp only [Act.put, nA, nB, nC])
  have B20 : Hid (Below N w w20) := B19.out.trans (b20.mono (by omega))
  clear b20
  (with_reducible refine wpList_step ?_); intro K hK; rw [if_pos (by rfl)]; go_simp; (with_reducible refine hK _ _ ?_); clear hK K; try simp only [Act.put, nA, nB, nC]
  (with_reducible refine wpList_plain rfl ?_); intro K hK; go_simp; (with_reducible refine hK _ _ ?_); clear hK K; try simp only [Act.put, nA, nB, nC]
  (with_reducible refine wpList_plain rfl ?_); intro K hK; go_simp; (with_reducible refine hK _ _ ?_); clear hK K; try simp only [Act.put, nA, nB, nC]
  go_wp2_with fail
  go_ret
  exact ⟨rfl, B20.out⟩
end Go.Proofs.Ytkngmnfgdlnddaa

namespace Go.Proofs.Ytkngmnfgdlnddaa
open Go.Deep Go.ChangeShapes Go.WideShapes Go.ChangeAt Go.RowKit Go.Joins Hw
set_option linter.unusedVariables false
section
variable {H : Type} {enc : TypeId × Value → H} {W : World} {base : Nat} {sp : Nat → Bool} {b1 : Nat} {held : Bool}
theorem fcells_u32 : Try.prog.cellsOf 27 = 1 := by kernel_rfl
theorem fcells_int : Try.prog.cellsOf 3 = 1 := by kernel_rfl
theorem fcells_us : Try.prog.cellsOf 28 = 1 := by kernel_rfl
theorem fcells_bs : Try.prog.cellsOf 44 = 1 := by kernel_rfl
theorem fcells_Batch : Try.prog.cellsOf 64 = 2 := by kernel_rfl
theorem fcells_Need : Try.prog.cellsOf 46 = 6 := by kernel_rfl
theorem fbytes_u32 : Try.prog.bytesOf 27 = 4 := by kernel_rfl
theorem fbytes_Batch : Try.prog.bytesOf 64 = 32 := by kernel_rfl
theorem flat_add (a : Addr) (h : a.spot = none) (k : Nat) : a.add k = ⟨a.block, a.off + k, none⟩ := by
  obtain ⟨b, o, s⟩ := a
  obtain rfl : s = none := h
  unfold Addr.add
  by_cases hk : k = 0
  · rw [if_pos hk, hk]; rfl
  · rw [if_neg hk]
theorem fweightsAll_get {n : Nat} (e : TypeId) : ∀ (i : Nat) (ds : List (DataW H)) (d : DataW H), (DataW.weightsAll Try.prog e ds).all (· ≤ n) = true → ds[i]? = some d → (d.weights Try.prog e).all (· ≤ n) = true
  | 0, d' :: ds, d, h, hd => by
    simp only [List.getElem?_cons_zero, Option.some.injEq] at hd
    subst hd
    rw [DataW.weightsAll, List.all_append, Bool.and_eq_true] at h
    exact h.1
  | i + 1, d' :: ds, d, h, hd => by
    rw [DataW.weightsAll, List.all_append, Bool.and_eq_true] at h
    exact fweightsAll_get e i ds d h.2 (by simpa using hd)
  | _, [], _, _, hd => by simp at hd
/-- numbers that a law was handed: their length fits a memory -/
def NumsZ (W : World) (v : Value) (l : List Nat) : Prop := URow W v l ∧ l.length * 4 ≤ 140737488351232
set_option maxRecDepth 100000 in
theorem trod_nums {n : Nat} {v : Value} {y : DataW H × List MemPlace} (hz : (y.1.weights Try.prog 28).all (· ≤ reachBytes) = true) (h : DataW.trod enc Try.prog W base sp held n 28 [v] = some y) : ∃ l, NumsZ W v l := by
  rcases open_slice1 Try.underlying28 fcells_u32 h with ⟨hc, _⟩ | ⟨a, len, cap, m, k, V, D, Pl, hc, _, hlc, hcm, hm, hy, hx⟩
  · simp only [List.cons.injEq, and_true] at hc
    subst hc
    exact ⟨[], URow.nil _, by simp⟩
  · simp only [List.cons.injEq, and_true] at hc
    subst hc
    have hlm : len ≤ m := by rw [hm]; split <;> omega
    obtain ⟨d, pl⟩ := y
    have hd : d = _ := congrArg Prod.fst hy
    subst hd
    rw [DataW.weights, Try.underlying28] at hz
    simp only [List.all_cons, List.all_append, Bool.and_eq_true, decide_eq_true_eq, List.length_map, List.length_range, fbytes_u32] at hz
    have h2 : reachBytes = 140737488351232 := rfl
    have hzl := hz.1
    have each : ∀ i, i < len → ∃ x : Nat, W.cell? (a.add i) = some (uN x) ∧ x < 4294967296 := by
      intro i hi
      obtain ⟨h1, h2⟩ := hx i (by omega)
      obtain ⟨x, e, _, wx⟩ := DataW.trod_int Try.underlying27 h2
      simp at e
      have hb := wf_u32_bd wx
      refine ⟨x.toNat, ?_, by omega⟩
      rw [h1, e]
      unfold uN
      rw [Int.toNat_of_nonneg hb.1]
    obtain ⟨f, hf⟩ := choose_lt each
    refine ⟨(List.range len).map f, ⟨?_, some a, cap, by simp, by simpa using hlc, by simp [maxLen] at hcm; omega, ?_⟩, by simp; omega⟩
    · intro x hx
      simp at hx
      obtain ⟨i, hi, rfl⟩ := hx
      exact (hf i hi).2
    · intro hl
      simp at hl
      have h0 := World.cell?_spot (hf 0 hl).1
      have ha : a = ⟨a.block, a.off, none⟩ := by
        cases a with
        | mk b o s => simp [Addr.add] at h0; simp [h0]
      have hblk : a.block < W.heap.size := by
        have := World.block_lt_of_cell? _ _ (hf 0 hl).1
        simpa [Addr.add] using this
      refine ⟨a.block, a.off, by rw [← ha], hblk, fun i hi => ?_⟩
      simp at hi
      have h1 := (hf i hi).1
      have hadd : a.add i = ⟨a.block, a.off + i, none⟩ := flat_add a (by rw [ha]) i
      rw [hadd] at h1
      simpa using h1
/-- a chain that a law was handed -/
def ChainZ (W : World) (v : Value) (cs : List (Nat × List Nat)) : Prop := CRow W v cs ∧ cs.length * 32 ≤ 140737488351232 ∧ ∀ c ∈ cs, c.2.length * 4 ≤ 140737488351232
set_option maxRecDepth 100000 in
theorem trod_chain {n : Nat} {v : Value} {y : DataW H × List MemPlace} (hz : (y.1.weights Try.prog 44).all (· ≤ reachBytes) = true) (h : DataW.trod enc Try.prog W base sp held n 44 [v] = some y) : ∃ cs, ChainZ W v cs := by
  rcases open_slice Try.underlying44 h with ⟨hc, hy⟩ | ⟨a, len, cap, m, k, D, Pl, hc, _, hlc, hcm, hm, hy, hx⟩
  · simp only [List.cons.injEq, and_true] at hc
    subst hc
    exact ⟨[], ⟨fun c hc => by simp at hc, none, 0, rfl, Nat.le_refl _, by decide, fun h => by simp at h⟩, by simp, fun c hc => by simp at hc⟩
  · simp only [List.cons.injEq, and_true] at hc
    subst hc
    have hlm : len ≤ m := by rw [hm]; split <;> omega
    obtain ⟨d, pl⟩ := y
    have hd : d = _ := congrArg Prod.fst hy
    subst hd
    rw [DataW.weights, Try.underlying44] at hz
    simp only [List.all_cons, List.all_append, Bool.and_eq_true, decide_eq_true_eq, List.length_map, List.length_range, fbytes_Batch] at hz
    have h2 : reachBytes = 140737488351232 := rfl
    have hw := hz.2.1
    have hzl := hz.1
    have each : ∀ i, i < len → ∃ x : Nat × Value × List Nat, W.cell? (a.add (i * 2)) = some (uN x.1) ∧ W.cell? ((a.add (i * 2)).add 1) = some x.2.1 ∧ x.1 < 4294967296 ∧ NumsZ W x.2.1 x.2.2 := by
      intro i hi
      obtain ⟨cs', h1, h3⟩ := hx i (by omega)
      rw [fcells_Batch] at h1
      obtain ⟨_, hlen, hcell⟩ := World.cells?_some h1
      have hwi := fweightsAll_get 64 i _ (D i) hw (by rw [List.getElem?_map, List.getElem?_range hi]; rfl)
      match cs', hlen with
      | [v0, v1], _ =>
        obtain ⟨z0, z1, n0, hzz, _, g0, g1⟩ := trod_struct2 Try.underlying64 h3
        simp [fcells_u32, fcells_us] at g0 g1
        have hD : D i = _ := congrArg Prod.fst hzz
        rw [hD, DataW.weights, Try.underlying64] at hwi
        have w1 := weights_get 1 _ _ _ _ hwi rfl rfl
        obtain ⟨x, e, _, wx⟩ := DataW.trod_int Try.underlying27 g0
        simp at e
        have hb := wf_u32_bd wx
        obtain ⟨l, hl⟩ := trod_nums w1 g1
        have c0 := hcell 0 (by omega)
        have c1 := hcell 1 (by omega)
        have a0 : (a.add (i * 2)).add 0 = a.add (i * 2) := by simp [Addr.add]
        rw [a0] at c0
        refine ⟨(x.toNat, v1, l), ?_, c1, by show x.toNat < _; omega, hl⟩
        rw [c0]
        show some v0 = some (uN x.toNat)
        rw [e]
        unfold uN
        rw [Int.toNat_of_nonneg hb.1]
    haveI : Inhabited (Nat × Value × List Nat) := ⟨(0, .slice none 0 0, [])⟩
    obtain ⟨f, hf⟩ := choose_lt each
    refine ⟨(List.range len).map (fun i => ((f i).1, (f i).2.2)), ⟨?_, some a, cap, by simp, by simpa using hlc, by simp [maxLen] at hcm; omega, ?_⟩, by simp; omega, ?_⟩
    · intro c hc
      simp at hc
      obtain ⟨i, hi, rfl⟩ := hc
      exact (hf i hi).2.2.1
    · intro hl
      simp at hl
      have h0 := World.cell?_spot (hf 0 hl).1
      have ha : a = ⟨a.block, a.off, none⟩ := by
        cases a with
        | mk b o s => simp [Addr.add] at h0; simp [h0]
      have hblk : a.block < W.heap.size := by
        have := World.block_lt_of_cell? _ _ (hf 0 hl).1
        simpa [Addr.add] using this
      refine ⟨a.block, a.off, by rw [← ha], hblk, fun i hi => ?_⟩
      simp at hi
      obtain ⟨h1, h3, h4, h5⟩ := hf i hi
      have hadd : a.add (i * 2) = ⟨a.block, a.off + i * 2, none⟩ := flat_add a (by rw [ha]) (i * 2)
      rw [hadd] at h1 h3
      rw [flat_add _ rfl 1] at h3
      refine ⟨(f i).2.1, fun j u hu => ?_, ?_⟩
      · match j, hu with
        | 0, hu => simp at hu; subst hu; exact h1
        | 1, hu => simp at hu; subst hu; exact h3
      · simpa using h5.1
    · intro c hc
      simp at hc
      obtain ⟨i, hi, rfl⟩ := hc
      exact (hf i hi).2.2.2.2
def IsNums (W : World) (v : Value) : Prop := ∃ l, NumsZ W v l
def IsChain (W : World) (v : Value) : Prop := ∃ cs, ChainZ W v cs
set_option maxRecDepth 100000 in
theorem view_us_sz {v : Value} {d : DataW H} {p : List MemPlace} (hz : (d.weights Try.prog 28).all (· ≤ reachBytes) = true) (hv : Value.okWide Try.prog W .any b1 28 v) (h : DataW.Trod enc Try.prog W base sp held 28 v d p) : IsNums W v := by
  obtain ⟨a0, len, cap, rfl⟩ := okWide_slice Try.underlying28 hv
  obtain ⟨n, h⟩ := h
  exact trod_nums (y := (d, p)) hz h
set_option maxRecDepth 100000 in
theorem view_chain_sz {v : Value} {d : DataW H} {p : List MemPlace} (hz : (d.weights Try.prog 44).all (· ≤ reachBytes) = true) (hv : Value.okWide Try.prog W .any b1 44 v) (h : DataW.Trod enc Try.prog W base sp held 44 v d p) : IsChain W v := by
  obtain ⟨a0, len, cap, rfl⟩ := okWide_slice Try.underlying44 hv
  obtain ⟨n, h⟩ := h
  exact trod_chain (y := (d, p)) hz h
/-- a need that a law was handed -/
def IsNeed (W : World) (v : Value) : Prop := ∃ chv hv rv cs held rel pages most trees, v = .agg #[chv, .int .u32 (pages : Nat), hv, .int .i64 trees, rv, .int .u32 (most : Nat)] ∧ ChainZ W chv cs ∧ NumsZ W hv held ∧ NumsZ W rv rel ∧ pages < 4294967296 ∧ most < 4294967296 ∧ -9223372036854775808 ≤ trees ∧ trees ≤ 9223372036854775807
set_option maxRecDepth 100000 in
theorem view_need_sz {v : Value} {d : DataW H} {p : List MemPlace} (hz : (d.weights Try.prog 46).all (· ≤ reachBytes) = true) (hv : Value.okWide Try.prog W .any b1 46 v) (h : DataW.Trod enc Try.prog W base sp held 46 v d p) : IsNeed W v := by
  obtain ⟨cs, rfl, hsz⟩ := okWide_struct Try.underlying46 hv
  obtain ⟨n, hf⟩ := h
  obtain ⟨xs, m, _, hxx, hl, hlen, hg⟩ := DataW.trod_struct Try.underlying46 hf
  rw [fcells_Need] at hl
  have hd : d = _ := congrArg Prod.fst hxx
  obtain ⟨cl⟩ := cs
  match cl, hl with
  | [c0, c1, c2, c3, c4, c5], _ =>
    match xs, hlen with
    | [y0, y1, y2, y3, y4, y5], _ =>
      have g0 := hg 0 _ rfl
      have g1 := hg 1 _ rfl
      have g2 := hg 2 _ rfl
      have g3 := hg 3 _ rfl
      have g4 := hg 4 _ rfl
      have g5 := hg 5 _ rfl
      simp [Value.cells, fcells_u32, fcells_us, fcells_bs, fcells_int] at g0 g1 g2 g3 g4 g5
      subst hd
      rw [DataW.weights, Try.underlying46] at hz
      have z0 := weights_get 0 _ _ _ _ hz rfl rfl
      have z2 := weights_get 2 _ _ _ _ hz rfl rfl
      have z4 := weights_get 4 _ _ _ _ hz rfl rfl
      obtain ⟨ch, hch⟩ := trod_chain z0 g0
      obtain ⟨x1, e1, _, w1⟩ := DataW.trod_int Try.underlying27 g1
      obtain ⟨he, hhe⟩ := trod_nums z2 g2
      obtain ⟨x3, e3, _, w3⟩ := DataW.trod_int Try.underlying3 g3
      obtain ⟨re, hre⟩ := trod_nums z4 g4
      obtain ⟨x5, e5, _, w5⟩ := DataW.trod_int Try.underlying27 g5
      simp at e1 e3 e5
      have q1 := wf_u32_bd w1
      have q3 := wf_i64_bd w3
      have q5 := wf_u32_bd w5
      refine ⟨c0, c2, c4, ch, he, re, x1.toNat, x5.toNat, x3, ?_, hch, hhe, hre, by omega, by omega, q3.1, q3.2⟩
      rw [e1, e3, e5, Int.toNat_of_nonneg q1.1, Int.toNat_of_nonneg q5.1]
end
end Go.Proofs.Ytkngmnfgdlnddaa

