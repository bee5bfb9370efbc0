/-
  The walk of the reference's Right.
-/
import Derived.Test.YtkngmnfgdlnddaaBitM
set_option linter.unusedSimpArgs false
set_option linter.unusedVariables false
namespace Go.Proofs.Ytkngmnfgdlnddaa
open Go.RowKit Go.Lib Hw Go.Maps
set_option linter.unusedSimpArgs false
set_option linter.unusedVariables false

theorem rightGo_drop {E : Int} {pages : Nat} {cs : List (Nat × List Nat)} {acc : List Nat} {k : Nat} (h : k < cs.length) : rightGo E pages (cs.drop k) acc = if risR E pages cs[k].2 && (decide (2 ≤ cs[k].1) && (decide (cs[k].1 < pages) && !acc.contains cs[k].1)) then (match markGo cs[k].2 (cs[k].1 :: acc) with | some a => rightGo E pages (cs.drop (k + 1)) a | none => false) else false := by
  rw [List.drop_eq_getElem_cons h, rightGo]
  rfl
set_option maxRecDepth 5000 in
set_option maxHeartbeats 16000000 in
theorem right_any (a b : Int) (pages : Nat) (v : Value) (cs : List (Nat × List Nat)) (w : World) (hp : pages ≤ 65536) (hv : Hid (CRow w v cs)) :
    Calls Try.prog 68 #[.agg #[.int .i64 a, .int .i64 b], v, .int .u32 (pages : Int)] w (SamePost (rightGo (entI a b) pages cs []) w) := by
  obtain ⟨cad, cc, hcv, hx1⟩ := hv.out.form
  clear hx1
  subst hcv
  obtain ⟨N, hN⟩ : ∃ N, w.heap.size = N := ⟨_, rfl⟩
  have HN := Lib.hid hN
  obtain ⟨E, hE⟩ : ∃ E, entI a b = E := ⟨_, rfl⟩
  have HE := Lib.hid hE
  rw [hE]
  obtain ⟨R, hR⟩ : ∃ R, SamePost (rightGo E pages cs []) w = R := ⟨_, rfl⟩
  rw [hR]
  have HRet : Hid (∀ W q, rightGo E pages cs [] = q → Below N w W → R (.returned (.bool q)) W) := fun W q h1 h2 => by
    rw [← hR, h1]
    exact ⟨rfl, by rw [hN]; exact h2⟩
  obtain ⟨nc, hnc⟩ : ∃ k, cs.length = k := ⟨_, rfl⟩
  have HNC := Lib.hid hnc
  rw [hnc] at hv ⊢
  clear hN hE hR hnc
  go_enter Try.func68, Try.ntmps68
  go_upto_region 0 with fail
  with_reducible refine wp_region_list ?_
  refine wpList_boxB rfl _ _ rfl N HN.out #[.int .i64 a, .int .i64 b] rfl ?_
  intro w1 e1 b1 z1
  (try simp only [Act.put, nA, nB, nC])
  (with_reducible refine wpList_plain rfl ?_); intro K hK; go_simp; (first | with_reducible refine hK _ _ ?_ | refine hK _ _ ?_); clear hK K; try simp only [Act.put, nA, nB, nC]
  obtain ⟨cur, hmk, hbit⟩ := BitM.made w1 pages hp
  obtain ⟨g, hg⟩ : ∃ g, w1.heap.size = g := ⟨_, rfl⟩
  obtain ⟨w2, hw2⟩ : ∃ W, w1.alloc (.cells cur 4) = W := ⟨_, rfl⟩
  rw [hw2, hg] at hmk hbit
  have b2 : Below w1.heap.size w1 w2 := by rw [← hw2]; exact (Below.refl _ _).alloc (Nat.le_refl _) _
  have B2 : Hid (Below N w w2) := b1.trans (b2.mono (by omega))
  have E2 := Lib.hid (heap_below e1 b2 (heap_lt e1))
  have hNg : N < g := by omega
  have BT := Lib.hid hbit
  clear b1 e1 z1 b2 hw2 hg hbit
  go_upto_region 3 with fail
  clear hmk
  go_loopw [8] (fun iv wr => ∃ (k : Nat) (acc : List Nat), k ≤ nc ∧ Hid (rightGo E pages cs [] = rightGo E pages (cs.drop k) acc) ∧ Hid (BitM wr g pages acc) ∧ Hid (wr.heap[N]? = some (.cells #[.int .i64 a, .int .i64 b] 23 (0, 0))) ∧ Hid (Below N w wr) ∧ iv = .int .i64 (k : Int)) (fun iv _ => nc - (intOf iv).toNat)
  case atStart => exact ⟨0, [], Nat.zero_le _, rfl, BT, E2, B2, rfl⟩
  case round =>
    obtain ⟨k, acc, hk, HS, HM, HF, HB, rfl⟩ := hrel
    by_cases hlt : k < nc
    case neg =>
      have ik : ¬ (k : Int) < (nc : Int) := by omega
      have hq : rightGo E pages cs [] = true := by
        rw [HS.out, List.drop_of_length_le (by rw [HNC.out]; omega)]
        rfl
      have HR := Lib.hid (HRet.out wr true hq HB.out)
      clear hq hlt
      go_wp2_with fail
      exact HR.out
    case pos =>
      have ik : (k : Int) < (nc : Int) := by omega
      have hkx : k < cs.length := by have := HNC.out; omega
      obtain ⟨b1, o1, nad, nn, e1, r1, u1, pp1⟩ := hv.out.at hkx
      subst e1
      have hbN : b1 < N := by rw [← HN.out]; exact World.block_lt_of_cell? w ⟨b1, o1 + k * 2 + 0, none⟩ (r1 0 _ rfl)
      have hs2 := HS.out
      rw [rightGo_drop hkx] at hs2
      obtain ⟨⟨pg, xs⟩, hx0⟩ : ∃ x, cs[k] = x := ⟨_, rfl⟩
      rw [hx0] at r1 u1 pp1 hs2
      simp only at r1 u1 pp1 hs2
      have HR1 := Lib.hid (range_block r1 (HB.out.block b1 hbN))
      have HU := Lib.hid u1
      have HS2 := Lib.hid hs2
      obtain ⟨k9, hk9⟩ : ∃ k9 : Nat, k9 = k + 1 := ⟨_, rfl⟩
      have ew1 : (k : Int) + 1 = (k9 : Int) := by omega
      have ew2 : IntKind.i64.wrap (k9 : Int) = (k9 : Int) := IntWalk.i64_in _ (by obtain ⟨_, _, h2, h3⟩ := hv.out.form; have := HNC.out; omega)
      have hk3 : k9 ≤ nc := by omega
      have hk4 : nc - k9 < nc - k := by omega
      have HK9 := Lib.hid hk9
      obtain ⟨nx, hnx⟩ : ∃ n, xs.length = n := ⟨_, rfl⟩
      have HNX := Lib.hid hnx
      rw [hnx] at HR1 HU
      clear hk9 hx0 r1 u1 hs2 hkx hlt HS hnx
      go_upto_region 5 with fail
      with_reducible refine wp_region_list ?_
      (with_reducible refine wpList_plain rfl ?_); intro K hK; go_simp; (first | with_reducible refine hK _ _ ?_ | refine hK _ _ ?_); clear hK K; try simp only [Act.put, nA, nB, nC]
      (with_reducible refine wpList_plain rfl ?_); intro K hK; go_simp; (first | with_reducible refine hK _ _ ?_ | refine hK _ _ ?_); clear hK K; try simp only [Act.put, nA, nB, nC]
      (with_reducible refine wpList_plain rfl ?_); intro K hK; go_simp; (first | with_reducible refine hK _ _ ?_ | refine hK _ _ ?_); clear hK K; try simp only [Act.put, nA, nB, nC]
      refine wpList_load_mid rfl 64 _ rfl b1 (o1 + k * 2) rfl [uN pg, .slice nad nx nn] _ HR1.out Try.underlying64 rfl info_B ?_
      (try simp only [Act.put, nA, nB, nC])
      obtain ⟨bb, hbb⟩ : ∃ b, wr.heap.size = b := ⟨_, rfl⟩
      refine wpList_allocB rfl 64 rfl bb hbb (.agg #[.int .u32 0, .slice none 0 0]) (fun _ => by kernel_rfl) ?_
      intro w3 e3 b3 z3
      (try simp only [Act.put, nA, nB, nC])
      refine wpList_storeB rfl 64 _ _ rfl bb #[.int .u32 (pg : Int), .slice nad nx nn] rfl rfl 64 _ e3 info_B rfl (by simp [Value.oneCell']) ?_
      intro w4 e4 m4
      (try simp only [Act.put, nA, nB, nC])
      have hb4 : Below bb wr w4 := b3.trans (m4.below (n := bb) (fun k hk e => by omega) (by omega))
      have B4 : Hid (Below N w w4) := HB.out.trans (hb4.mono (by have := HB.out.size; have := heap_lt HF.out; omega))
      have F4 := Lib.hid (heap_below HF.out hb4 (by rw [← hbb]; exact heap_lt HF.out))
      have M4 := Lib.hid (HM.out.heap (hb4.block g (by rw [← hbb]; exact HM.out.lt)))
      have E4 := Lib.hid e4
      have hz4 : bb < w4.heap.size := heap_lt e4
      have hzN : N < w4.heap.size := heap_lt F4.out
      have hzg : g < w4.heap.size := M4.out.lt
      have hgb : g < bb := by rw [← hbb]; exact HM.out.lt
      have hNb : N < bb := by rw [← hbb]; exact heap_lt HF.out
      have c0 := heap_cell E4.out (o := 0)
      have c1 := heap_cell E4.out (o := 1)
      have f0 := heap_cell F4.out (o := 0)
      have f1 := heap_cell F4.out (o := 1)
      clear hbb hb4 e3 b3 z3 e4 m4 HB HF HM HR1
      obtain ⟨r, hr⟩ : ∃ r, risR E pages xs = r := ⟨_, rfl⟩
      have HRI := Lib.hid hr
      rw [hr] at HS2
      clear hr
      cases r
      case false =>
        have HNO : Hid (rightGo E pages cs [] = false) := HS2.out
        go_upto_region 6 with fail
        refine wp_region_held_drew (S := fun W => W.cell? ⟨bb, 0, none⟩ = some (.int .u32 (pg : Int)) ∧ W.cell? ⟨bb, 1, none⟩ = some (.slice nad nx nn) ∧ W.cell? ⟨N, 0, none⟩ = some (.int .i64 a) ∧ W.cell? ⟨N, 1, none⟩ = some (.int .i64 b)) (by kernel_rfl) ⟨c0, c1, f0, f1⟩ (fun hHeld => ?_)
        refine' wpAnyH_take (i := 0) (oi := ⟨some 23, .fieldAddr 64 (.tmp 9) 1, 0, "ref.go:89", #[], none⟩) rfl (by kernel_rfl) (by kernel_rfl) (by kernel_rfl) (fun _ _ _ h => h) (Or.inl ⟨by rfl, _⟩) (by assumption) _
        rotate_left
        · (intro wS hSw; (try dsimp only at hSw); go_simp; try with_reducible rfl)
        try simp only [Act.put, nA, nB, nC]
        refine' wpAnyH_take (i := 1) (oi := ⟨some 24, .load 28 (.tmp 23), 28, "ref.go:89", #[⟨0, .data⟩], none⟩) rfl (by kernel_rfl) (by kernel_rfl) (by kernel_rfl) (fun _ _ _ h => h) (Or.inl ⟨by rfl, _⟩) (by assumption) _
        rotate_left
        · (intro wS hSw; (try dsimp only at hSw); go_simp; try with_reducible rfl)
        try simp only [Act.put, nA, nB, nC]
        refine' wpAnyH_take (i := 2) (oi := ⟨some 25, .load 23 (.tmp 3), 23, "ref.go:89", #[], none⟩) rfl (by kernel_rfl) (by kernel_rfl) (by kernel_rfl) (fun _ _ _ h => h) (Or.inl ⟨by rfl, _⟩) (by assumption) _
        rotate_left
        · (intro wS hSw; (try dsimp only at hSw); go_simp; try with_reducible rfl)
        try simp only [Act.put, nA, nB, nC]
        refine' wpAnyH_take (i := 4) (oi := ⟨some 27, .move (.tmp 2), 27, "ref.go:89", #[], none⟩) rfl (by kernel_rfl) (by kernel_rfl) (by kernel_rfl) (fun _ _ _ h => h) (Or.inl ⟨by rfl, _⟩) (by assumption) _
        rotate_left
        · (intro wS hSw; (try dsimp only at hSw); go_simp; try with_reducible rfl)
        try simp only [Act.put, nA, nB, nC]
        refine wpAnyH_ready (rs := [3]) (by kernel_rfl) (by simp) ?_
        refine AllReadyH.cons (o := ⟨some 26, .call ⟨.value (.func 19), #[.tmp 25], #[23]⟩, 3, "ref.go:89", #[⟨2, .data⟩], none⟩) rfl (fun K hK => ?_) AllReadyH.nil
        go_simp
        (refine (refEntries_any a b _).mono ?_; rintro e w5 ⟨rfl, b5⟩; rw [HE.out])
        refine hK.out _ _ ?_ (fun hHeld => ?_)
        · exact ⟨(b5.cell (p := ⟨bb, 0, none⟩) hz4).trans hHeld.1, (b5.cell (p := ⟨bb, 1, none⟩) hz4).trans hHeld.2.1, (b5.cell (p := ⟨N, 0, none⟩) hzN).trans hHeld.2.2.1, (b5.cell (p := ⟨N, 1, none⟩) hzN).trans hHeld.2.2.2⟩
        clear hK K
        try simp only [Act.put, nA, nB, nC]
        have b5' : Below w4.heap.size w4 w5 := (Below.refl _ _).drew.trans b5
        have hz5 : w4.heap.size ≤ w5.heap.size := b5'.size
        refine wpAnyH_ready (rs := [5]) (by kernel_rfl) (by simp) ?_
        refine AllReadyH.cons (o := ⟨some 28, .call ⟨.value (.func 54), #[.tmp 24, .tmp 26, .tmp 27], #[28, 3, 27]⟩, 4, "ref.go:89", #[⟨1, .data⟩, ⟨3, .data⟩, ⟨4, .data⟩, ⟨3, .chain⟩], none⟩) rfl (fun K hK => ?_) AllReadyH.nil
        go_simp
        (refine (refRising_any (.slice nad nx nn) xs E pages w5 (HU.out.below (by rw [HN.out]; exact B4.out.trans (b5'.mono (Nat.le_of_lt hzN))))).mono ?_; rintro e w6 ⟨rfl, b6⟩; rw [HRI.out])
        refine hK.out _ _ ?_ (fun hHeld => ?_)
        · exact ⟨(b6.cell (p := ⟨bb, 0, none⟩) (Nat.lt_of_lt_of_le hz4 hz5)).trans hHeld.1, (b6.cell (p := ⟨bb, 1, none⟩) (Nat.lt_of_lt_of_le hz4 hz5)).trans hHeld.2.1, (b6.cell (p := ⟨N, 0, none⟩) (Nat.lt_of_lt_of_le hzN hz5)).trans hHeld.2.2.1, (b6.cell (p := ⟨N, 1, none⟩) (Nat.lt_of_lt_of_le hzN hz5)).trans hHeld.2.2.2⟩
        clear hK K
        try simp only [Act.put, nA, nB, nC]
        refine' wpAnyH_take (i := 6) (oi := ⟨some 29, .unOp .not 4 (.tmp 28), 4, "ref.go:89", #[⟨5, .data⟩], none⟩) rfl (by kernel_rfl) (by kernel_rfl) (by kernel_rfl) (fun _ _ _ h => h) (Or.inl ⟨by rfl, _⟩) (by assumption) _
        rotate_left
        · (intro wS hSw; (try dsimp only at hSw); go_simp; try with_reducible rfl)
        try simp only [Act.put, nA, nB, nC]
        refine' wpAnyH_take (i := 7) (oi := ⟨some 30, .move (.tmp 29), 4, "ref.go:89", #[⟨6, .data⟩, ⟨5, .chain⟩], none⟩) rfl (by kernel_rfl) (by kernel_rfl) (by kernel_rfl) (fun _ _ _ h => h) (Or.inl ⟨by rfl, _⟩) (by assumption) _
        rotate_left
        · (intro wS hSw; (try dsimp only at hSw); go_simp; try with_reducible rfl)
        try simp only [Act.put, nA, nB, nC]
        refine' wpAnyH_take (i := 8) (oi := ⟨some 31, .fieldAddr 64 (.tmp 9) 0, 0, "ref.go:89", #[⟨7, .guard⟩], some (7, false)⟩) rfl (by kernel_rfl) (by kernel_rfl) (by kernel_rfl) (fun _ _ _ h => h) (Or.inr ⟨by rfl, rfl⟩) (by assumption) _
        try simp only [Act.put, nA, nB, nC]
        refine' wpAnyH_take (i := 9) (oi := ⟨some 32, .load 27 (.tmp 31), 27, "ref.go:89", #[⟨8, .data⟩, ⟨7, .guard⟩], some (7, false)⟩) rfl (by kernel_rfl) (by kernel_rfl) (by kernel_rfl) (fun _ _ _ h => h) (Or.inr ⟨by rfl, rfl⟩) (by assumption) _
        try simp only [Act.put, nA, nB, nC]
        refine' wpAnyH_take (i := 10) (oi := ⟨some 33, .binOp .lss 27 (.tmp 32) (.const (.int .u32 2)) 27, 4, "ref.go:89", #[⟨9, .data⟩, ⟨7, .guard⟩], some (7, false)⟩) rfl (by kernel_rfl) (by kernel_rfl) (by kernel_rfl) (fun _ _ _ h => h) (Or.inr ⟨by rfl, rfl⟩) (by assumption) _
        try simp only [Act.put, nA, nB, nC]
        refine' wpAnyH_take (i := 11) (oi := ⟨some 34, .pick (.tmp 30) (.const (.bool true)) (.tmp 33), 4, "ref.go:89", #[⟨7, .data⟩, ⟨10, .data⟩], none⟩) rfl (by kernel_rfl) (by kernel_rfl) (by kernel_rfl) (fun _ _ _ h => h) (Or.inl ⟨by rfl, _⟩) (by assumption) _
        rotate_left
        · (intro wS hSw; (try dsimp only at hSw); go_simp; try with_reducible rfl)
        try simp only [Act.put, nA, nB, nC]
        refine' wpAnyH_take (i := 12) (oi := ⟨some 35, .move (.tmp 34), 4, "ref.go:89", #[⟨11, .data⟩, ⟨7, .chain⟩], none⟩) rfl (by kernel_rfl) (by kernel_rfl) (by kernel_rfl) (fun _ _ _ h => h) (Or.inl ⟨by rfl, _⟩) (by assumption) _
        rotate_left
        · (intro wS hSw; (try dsimp only at hSw); go_simp; try with_reducible rfl)
        try simp only [Act.put, nA, nB, nC]
        refine' wpAnyH_take (i := 13) (oi := ⟨some 36, .fieldAddr 64 (.tmp 9) 0, 0, "ref.go:89", #[⟨12, .guard⟩], some (12, false)⟩) rfl (by kernel_rfl) (by kernel_rfl) (by kernel_rfl) (fun _ _ _ h => h) (Or.inr ⟨by rfl, rfl⟩) (by assumption) _
        try simp only [Act.put, nA, nB, nC]
        refine' wpAnyH_take (i := 14) (oi := ⟨some 37, .load 27 (.tmp 36), 27, "ref.go:89", #[⟨13, .data⟩, ⟨12, .guard⟩], some (12, false)⟩) rfl (by kernel_rfl) (by kernel_rfl) (by kernel_rfl) (fun _ _ _ h => h) (Or.inr ⟨by rfl, rfl⟩) (by assumption) _
        try simp only [Act.put, nA, nB, nC]
        refine' wpAnyH_take (i := 15) (oi := ⟨some 38, .move (.tmp 2), 27, "ref.go:89", #[⟨12, .guard⟩], some (12, false)⟩) rfl (by kernel_rfl) (by kernel_rfl) (by kernel_rfl) (fun _ _ _ h => h) (Or.inr ⟨by rfl, rfl⟩) (by assumption) _
        try simp only [Act.put, nA, nB, nC]
        refine' wpAnyH_take (i := 16) (oi := ⟨some 39, .binOp .geq 27 (.tmp 37) (.tmp 38) 27, 4, "ref.go:89", #[⟨14, .data⟩, ⟨15, .data⟩, ⟨12, .guard⟩], some (12, false)⟩) rfl (by kernel_rfl) (by kernel_rfl) (by kernel_rfl) (fun _ _ _ h => h) (Or.inr ⟨by rfl, rfl⟩) (by assumption) _
        try simp only [Act.put, nA, nB, nC]
        refine' wpAnyH_take (i := 17) (oi := ⟨some 40, .pick (.tmp 35) (.const (.bool true)) (.tmp 39), 4, "ref.go:89", #[⟨12, .data⟩, ⟨16, .data⟩], none⟩) rfl (by kernel_rfl) (by kernel_rfl) (by kernel_rfl) (fun _ _ _ h => h) (Or.inl ⟨by rfl, _⟩) (by assumption) _
        rotate_left
        · (intro wS hSw; (try dsimp only at hSw); go_simp; try with_reducible rfl)
        try simp only [Act.put, nA, nB, nC]
        refine' wpAnyH_take (i := 18) (oi := ⟨some 41, .move (.tmp 40), 4, "ref.go:89", #[⟨17, .data⟩, ⟨12, .chain⟩], none⟩) rfl (by kernel_rfl) (by kernel_rfl) (by kernel_rfl) (fun _ _ _ h => h) (Or.inl ⟨by rfl, _⟩) (by assumption) _
        rotate_left
        · (intro wS hSw; (try dsimp only at hSw); go_simp; try with_reducible rfl)
        try simp only [Act.put, nA, nB, nC]
        refine' wpAnyH_take (i := 19) (oi := ⟨some 42, .move (.tmp 7), 117, "ref.go:89", #[⟨18, .guard⟩], some (18, false)⟩) rfl (by kernel_rfl) (by kernel_rfl) (by kernel_rfl) (fun _ _ _ h => h) (Or.inr ⟨by rfl, rfl⟩) (by assumption) _
        try simp only [Act.put, nA, nB, nC]
        refine' wpAnyH_take (i := 20) (oi := ⟨some 43, .fieldAddr 64 (.tmp 9) 0, 0, "ref.go:89", #[⟨18, .guard⟩], some (18, false)⟩) rfl (by kernel_rfl) (by kernel_rfl) (by kernel_rfl) (fun _ _ _ h => h) (Or.inr ⟨by rfl, rfl⟩) (by assumption) _
        try simp only [Act.put, nA, nB, nC]
        refine' wpAnyH_take (i := 21) (oi := ⟨some 44, .load 27 (.tmp 43), 27, "ref.go:89", #[⟨20, .data⟩, ⟨18, .guard⟩], some (18, false)⟩) rfl (by kernel_rfl) (by kernel_rfl) (by kernel_rfl) (fun _ _ _ h => h) (Or.inr ⟨by rfl, rfl⟩) (by assumption) _
        try simp only [Act.put, nA, nB, nC]
        refine' wpAnyH_take (i := 22) (oi := ⟨some 45, .indexAddr 117 (.tmp 42) (.tmp 44), 0, "ref.go:89", #[⟨19, .data⟩, ⟨21, .data⟩, ⟨18, .guard⟩], some (18, false)⟩) rfl (by kernel_rfl) (by kernel_rfl) (by kernel_rfl) (fun _ _ _ h => h) (Or.inr ⟨by rfl, rfl⟩) (by assumption) _
        try simp only [Act.put, nA, nB, nC]
        refine' wpAnyH_take (i := 23) (oi := ⟨some 46, .load 4 (.tmp 45), 4, "ref.go:89", #[⟨22, .data⟩, ⟨18, .guard⟩], some (18, false)⟩) rfl (by kernel_rfl) (by kernel_rfl) (by kernel_rfl) (fun _ _ _ h => h) (Or.inr ⟨by rfl, rfl⟩) (by assumption) _
        try simp only [Act.put, nA, nB, nC]
        refine' wpAnyH_take (i := 24) (oi := ⟨some 47, .pick (.tmp 41) (.const (.bool true)) (.tmp 46), 4, "ref.go:89", #[⟨18, .data⟩, ⟨23, .data⟩], none⟩) rfl (by kernel_rfl) (by kernel_rfl) (by kernel_rfl) (fun _ _ _ h => h) (Or.inl ⟨by rfl, _⟩) (by assumption) _
        rotate_left
        · (intro wS hSw; (try dsimp only at hSw); go_simp; try with_reducible rfl)
        try simp only [Act.put, nA, nB, nC]
        refine wpAnyH_done (by kernel_rfl) ?_ _
        have b6' : Below w4.heap.size w4 w6 := b5'.trans (b6.mono hz5)
        have B6 : Hid (Below N w w6) := B4.out.trans (b6'.mono (Nat.le_of_lt hzN))
        have HR := Lib.hid (HRet.out w6 false HNO.out B6.out)
        clear b5 b5' b6 b6' hHeld c0 c1 f0 f1
        go_wp2_with fail
        exact HR.out
      case true =>
        by_cases h2 : 2 ≤ pg
        case neg =>
          have y1 : decide (pg < 2) = true := decide_eq_true (by omega)
          have y2 : decide ((pg : Int) < 2) = true := decide_eq_true (by omega)
          have HNO : Hid (rightGo E pages cs [] = false) := by show _ = _; rw [HS2.out, decide_eq_false h2]; rfl
          go_upto_region 6 with fail
          refine wp_region_held_drew (S := fun W => W.cell? ⟨bb, 0, none⟩ = some (.int .u32 (pg : Int)) ∧ W.cell? ⟨bb, 1, none⟩ = some (.slice nad nx nn) ∧ W.cell? ⟨N, 0, none⟩ = some (.int .i64 a) ∧ W.cell? ⟨N, 1, none⟩ = some (.int .i64 b)) (by kernel_rfl) ⟨c0, c1, f0, f1⟩ (fun hHeld => ?_)
          refine' wpAnyH_take (i := 0) (oi := ⟨some 23, .fieldAddr 64 (.tmp 9) 1, 0, "ref.go:89", #[], none⟩) rfl (by kernel_rfl) (by kernel_rfl) (by kernel_rfl) (fun _ _ _ h => h) (Or.inl ⟨by rfl, _⟩) (by assumption) _
          rotate_left
          · (intro wS hSw; (try dsimp only at hSw); go_simp; try with_reducible rfl)
          try simp only [Act.put, nA, nB, nC]
          refine' wpAnyH_take (i := 1) (oi := ⟨some 24, .load 28 (.tmp 23), 28, "ref.go:89", #[⟨0, .data⟩], none⟩) rfl (by kernel_rfl) (by kernel_rfl) (by kernel_rfl) (fun _ _ _ h => h) (Or.inl ⟨by rfl, _⟩) (by assumption) _
          rotate_left
          · (intro wS hSw; (try dsimp only at hSw); go_simp; try with_reducible rfl)
          try simp only [Act.put, nA, nB, nC]
          refine' wpAnyH_take (i := 2) (oi := ⟨some 25, .load 23 (.tmp 3), 23, "ref.go:89", #[], none⟩) rfl (by kernel_rfl) (by kernel_rfl) (by kernel_rfl) (fun _ _ _ h => h) (Or.inl ⟨by rfl, _⟩) (by assumption) _
          rotate_left
          · (intro wS hSw; (try dsimp only at hSw); go_simp; try with_reducible rfl)
          try simp only [Act.put, nA, nB, nC]
          refine' wpAnyH_take (i := 4) (oi := ⟨some 27, .move (.tmp 2), 27, "ref.go:89", #[], none⟩) rfl (by kernel_rfl) (by kernel_rfl) (by kernel_rfl) (fun _ _ _ h => h) (Or.inl ⟨by rfl, _⟩) (by assumption) _
          rotate_left
          · (intro wS hSw; (try dsimp only at hSw); go_simp; try with_reducible rfl)
          try simp only [Act.put, nA, nB, nC]
          refine wpAnyH_ready (rs := [3]) (by kernel_rfl) (by simp) ?_
          refine AllReadyH.cons (o := ⟨some 26, .call ⟨.value (.func 19), #[.tmp 25], #[23]⟩, 3, "ref.go:89", #[⟨2, .data⟩], none⟩) rfl (fun K hK => ?_) AllReadyH.nil
          go_simp
          (refine (refEntries_any a b _).mono ?_; rintro e w5 ⟨rfl, b5⟩; rw [HE.out])
          refine hK.out _ _ ?_ (fun hHeld => ?_)
          · exact ⟨(b5.cell (p := ⟨bb, 0, none⟩) hz4).trans hHeld.1, (b5.cell (p := ⟨bb, 1, none⟩) hz4).trans hHeld.2.1, (b5.cell (p := ⟨N, 0, none⟩) hzN).trans hHeld.2.2.1, (b5.cell (p := ⟨N, 1, none⟩) hzN).trans hHeld.2.2.2⟩
          clear hK K
          try simp only [Act.put, nA, nB, nC]
          have b5' : Below w4.heap.size w4 w5 := (Below.refl _ _).drew.trans b5
          have hz5 : w4.heap.size ≤ w5.heap.size := b5'.size
          refine wpAnyH_ready (rs := [5]) (by kernel_rfl) (by simp) ?_
          refine AllReadyH.cons (o := ⟨some 28, .call ⟨.value (.func 54), #[.tmp 24, .tmp 26, .tmp 27], #[28, 3, 27]⟩, 4, "ref.go:89", #[⟨1, .data⟩, ⟨3, .data⟩, ⟨4, .data⟩, ⟨3, .chain⟩], none⟩) rfl (fun K hK => ?_) AllReadyH.nil
          go_simp
          (refine (refRising_any (.slice nad nx nn) xs E pages w5 (HU.out.below (by rw [HN.out]; exact B4.out.trans (b5'.mono (Nat.le_of_lt hzN))))).mono ?_; rintro e w6 ⟨rfl, b6⟩; rw [HRI.out])
          refine hK.out _ _ ?_ (fun hHeld => ?_)
          · exact ⟨(b6.cell (p := ⟨bb, 0, none⟩) (Nat.lt_of_lt_of_le hz4 hz5)).trans hHeld.1, (b6.cell (p := ⟨bb, 1, none⟩) (Nat.lt_of_lt_of_le hz4 hz5)).trans hHeld.2.1, (b6.cell (p := ⟨N, 0, none⟩) (Nat.lt_of_lt_of_le hzN hz5)).trans hHeld.2.2.1, (b6.cell (p := ⟨N, 1, none⟩) (Nat.lt_of_lt_of_le hzN hz5)).trans hHeld.2.2.2⟩
          clear hK K
          try simp only [Act.put, nA, nB, nC]
          refine' wpAnyH_take (i := 6) (oi := ⟨some 29, .unOp .not 4 (.tmp 28), 4, "ref.go:89", #[⟨5, .data⟩], none⟩) rfl (by kernel_rfl) (by kernel_rfl) (by kernel_rfl) (fun _ _ _ h => h) (Or.inl ⟨by rfl, _⟩) (by assumption) _
          rotate_left
          · (intro wS hSw; (try dsimp only at hSw); go_simp; try with_reducible rfl)
          try simp only [Act.put, nA, nB, nC]
          refine' wpAnyH_take (i := 7) (oi := ⟨some 30, .move (.tmp 29), 4, "ref.go:89", #[⟨6, .data⟩, ⟨5, .chain⟩], none⟩) rfl (by kernel_rfl) (by kernel_rfl) (by kernel_rfl) (fun _ _ _ h => h) (Or.inl ⟨by rfl, _⟩) (by assumption) _
          rotate_left
          · (intro wS hSw; (try dsimp only at hSw); go_simp; try with_reducible rfl)
          try simp only [Act.put, nA, nB, nC]
          refine' wpAnyH_take (i := 8) (oi := ⟨some 31, .fieldAddr 64 (.tmp 9) 0, 0, "ref.go:89", #[⟨7, .guard⟩], some (7, false)⟩) rfl (by kernel_rfl) (by kernel_rfl) (by kernel_rfl) (fun _ _ _ h => h) (Or.inl ⟨by rfl, _⟩) (by assumption) _
          rotate_left
          · (intro wS hSw; (try dsimp only at hSw); go_simp; try with_reducible rfl)
          try simp only [Act.put, nA, nB, nC]
          refine' wpAnyH_take (i := 9) (oi := ⟨some 32, .load 27 (.tmp 31), 27, "ref.go:89", #[⟨8, .data⟩, ⟨7, .guard⟩], some (7, false)⟩) rfl (by kernel_rfl) (by kernel_rfl) (by kernel_rfl) (fun _ _ _ h => h) (Or.inl ⟨by rfl, _⟩) (by assumption) _
          rotate_left
          · (intro wS hSw; (try dsimp only at hSw); go_simp; try with_reducible rfl)
          try simp only [Act.put, nA, nB, nC]
          refine' wpAnyH_take (i := 10) (oi := ⟨some 33, .binOp .lss 27 (.tmp 32) (.const (.int .u32 2)) 27, 4, "ref.go:89", #[⟨9, .data⟩, ⟨7, .guard⟩], some (7, false)⟩) rfl (by kernel_rfl) (by kernel_rfl) (by kernel_rfl) (fun _ _ _ h => h) (Or.inl ⟨by rfl, _⟩) (by assumption) _
          rotate_left
          · (intro wS hSw; (try dsimp only at hSw); go_simp; try with_reducible rfl)
          try simp only [Act.put, nA, nB, nC]
          refine' wpAnyH_take (i := 11) (oi := ⟨some 34, .pick (.tmp 30) (.const (.bool true)) (.tmp 33), 4, "ref.go:89", #[⟨7, .data⟩, ⟨10, .data⟩], none⟩) rfl (by kernel_rfl) (by kernel_rfl) (by kernel_rfl) (fun _ _ _ h => h) (Or.inl ⟨by rfl, _⟩) (by assumption) _
          rotate_left
          · (intro wS hSw; (try dsimp only at hSw); go_simp; try with_reducible rfl)
          try simp only [Act.put, nA, nB, nC]
          refine' wpAnyH_take (i := 12) (oi := ⟨some 35, .move (.tmp 34), 4, "ref.go:89", #[⟨11, .data⟩, ⟨7, .chain⟩], none⟩) rfl (by kernel_rfl) (by kernel_rfl) (by kernel_rfl) (fun _ _ _ h => h) (Or.inl ⟨by rfl, _⟩) (by assumption) _
          rotate_left
          · (intro wS hSw; (try dsimp only at hSw); go_simp; try with_reducible rfl)
          try simp only [Act.put, nA, nB, nC]
          refine' wpAnyH_take (i := 13) (oi := ⟨some 36, .fieldAddr 64 (.tmp 9) 0, 0, "ref.go:89", #[⟨12, .guard⟩], some (12, false)⟩) rfl (by kernel_rfl) (by kernel_rfl) (by kernel_rfl) (fun _ _ _ h => h) (Or.inr ⟨by rfl, rfl⟩) (by assumption) _
          try simp only [Act.put, nA, nB, nC]
          refine' wpAnyH_take (i := 14) (oi := ⟨some 37, .load 27 (.tmp 36), 27, "ref.go:89", #[⟨13, .data⟩, ⟨12, .guard⟩], some (12, false)⟩) rfl (by kernel_rfl) (by kernel_rfl) (by kernel_rfl) (fun _ _ _ h => h) (Or.inr ⟨by rfl, rfl⟩) (by assumption) _
          try simp only [Act.put, nA, nB, nC]
          refine' wpAnyH_take (i := 15) (oi := ⟨some 38, .move (.tmp 2), 27, "ref.go:89", #[⟨12, .guard⟩], some (12, false)⟩) rfl (by kernel_rfl) (by kernel_rfl) (by kernel_rfl) (fun _ _ _ h => h) (Or.inr ⟨by rfl, rfl⟩) (by assumption) _
          try simp only [Act.put, nA, nB, nC]
          refine' wpAnyH_take (i := 16) (oi := ⟨some 39, .binOp .geq 27 (.tmp 37) (.tmp 38) 27, 4, "ref.go:89", #[⟨14, .data⟩, ⟨15, .data⟩, ⟨12, .guard⟩], some (12, false)⟩) rfl (by kernel_rfl) (by kernel_rfl) (by kernel_rfl) (fun _ _ _ h => h) (Or.inr ⟨by rfl, rfl⟩) (by assumption) _
          try simp only [Act.put, nA, nB, nC]
          refine' wpAnyH_take (i := 17) (oi := ⟨some 40, .pick (.tmp 35) (.const (.bool true)) (.tmp 39), 4, "ref.go:89", #[⟨12, .data⟩, ⟨16, .data⟩], none⟩) rfl (by kernel_rfl) (by kernel_rfl) (by kernel_rfl) (fun _ _ _ h => h) (Or.inl ⟨by rfl, _⟩) (by assumption) _
          rotate_left
          · (intro wS hSw; (try dsimp only at hSw); go_simp; try with_reducible rfl)
          try simp only [Act.put, nA, nB, nC]
          refine' wpAnyH_take (i := 18) (oi := ⟨some 41, .move (.tmp 40), 4, "ref.go:89", #[⟨17, .data⟩, ⟨12, .chain⟩], none⟩) rfl (by kernel_rfl) (by kernel_rfl) (by kernel_rfl) (fun _ _ _ h => h) (Or.inl ⟨by rfl, _⟩) (by assumption) _
          rotate_left
          · (intro wS hSw; (try dsimp only at hSw); go_simp; try with_reducible rfl)
          try simp only [Act.put, nA, nB, nC]
          refine' wpAnyH_take (i := 19) (oi := ⟨some 42, .move (.tmp 7), 117, "ref.go:89", #[⟨18, .guard⟩], some (18, false)⟩) rfl (by kernel_rfl) (by kernel_rfl) (by kernel_rfl) (fun _ _ _ h => h) (Or.inr ⟨by rfl, rfl⟩) (by assumption) _
          try simp only [Act.put, nA, nB, nC]
          refine' wpAnyH_take (i := 20) (oi := ⟨some 43, .fieldAddr 64 (.tmp 9) 0, 0, "ref.go:89", #[⟨18, .guard⟩], some (18, false)⟩) rfl (by kernel_rfl) (by kernel_rfl) (by kernel_rfl) (fun _ _ _ h => h) (Or.inr ⟨by rfl, rfl⟩) (by assumption) _
          try simp only [Act.put, nA, nB, nC]
          refine' wpAnyH_take (i := 21) (oi := ⟨some 44, .load 27 (.tmp 43), 27, "ref.go:89", #[⟨20, .data⟩, ⟨18, .guard⟩], some (18, false)⟩) rfl (by kernel_rfl) (by kernel_rfl) (by kernel_rfl) (fun _ _ _ h => h) (Or.inr ⟨by rfl, rfl⟩) (by assumption) _
          try simp only [Act.put, nA, nB, nC]
          refine' wpAnyH_take (i := 22) (oi := ⟨some 45, .indexAddr 117 (.tmp 42) (.tmp 44), 0, "ref.go:89", #[⟨19, .data⟩, ⟨21, .data⟩, ⟨18, .guard⟩], some (18, false)⟩) rfl (by kernel_rfl) (by kernel_rfl) (by kernel_rfl) (fun _ _ _ h => h) (Or.inr ⟨by rfl, rfl⟩) (by assumption) _
          try simp only [Act.put, nA, nB, nC]
          refine' wpAnyH_take (i := 23) (oi := ⟨some 46, .load 4 (.tmp 45), 4, "ref.go:89", #[⟨22, .data⟩, ⟨18, .guard⟩], some (18, false)⟩) rfl (by kernel_rfl) (by kernel_rfl) (by kernel_rfl) (fun _ _ _ h => h) (Or.inr ⟨by rfl, rfl⟩) (by assumption) _
          try simp only [Act.put, nA, nB, nC]
          refine' wpAnyH_take (i := 24) (oi := ⟨some 47, .pick (.tmp 41) (.const (.bool true)) (.tmp 46), 4, "ref.go:89", #[⟨18, .data⟩, ⟨23, .data⟩], none⟩) rfl (by kernel_rfl) (by kernel_rfl) (by kernel_rfl) (fun _ _ _ h => h) (Or.inl ⟨by rfl, _⟩) (by assumption) _
          rotate_left
          · (intro wS hSw; (try dsimp only at hSw); go_simp; try with_reducible rfl)
          try simp only [Act.put, nA, nB, nC]
          refine wpAnyH_done (by kernel_rfl) ?_ _
          have b6' : Below w4.heap.size w4 w6 := b5'.trans (b6.mono hz5)
          have B6 : Hid (Below N w w6) := B4.out.trans (b6'.mono (Nat.le_of_lt hzN))
          have HR := Lib.hid (HRet.out w6 false HNO.out B6.out)
          clear b5 b5' b6 b6' hHeld c0 c1 f0 f1
          go_wp2_with fail
          exact HR.out
        case pos =>
          have y1 : decide (pg < 2) = false := decide_eq_false (by omega)
          have y2 : decide ((pg : Int) < 2) = false := decide_eq_false (by omega)
          by_cases h3 : pg < pages
          case neg =>
            have y3 : decide (pages ≤ pg) = true := decide_eq_true (by omega)
            have HNO : Hid (rightGo E pages cs [] = false) := by show _ = _; rw [HS2.out, decide_eq_true h2, decide_eq_false h3]; rfl
            go_upto_region 6 with fail
            refine wp_region_held_drew (S := fun W => W.cell? ⟨bb, 0, none⟩ = some (.int .u32 (pg : Int)) ∧ W.cell? ⟨bb, 1, none⟩ = some (.slice nad nx nn) ∧ W.cell? ⟨N, 0, none⟩ = some (.int .i64 a) ∧ W.cell? ⟨N, 1, none⟩ = some (.int .i64 b)) (by kernel_rfl) ⟨c0, c1, f0, f1⟩ (fun hHeld => ?_)
            refine' wpAnyH_take (i := 0) (oi := ⟨some 23, .fieldAddr 64 (.tmp 9) 1, 0, "ref.go:89", #[], none⟩) rfl (by kernel_rfl) (by kernel_rfl) (by kernel_rfl) (fun _ _ _ h => h) (Or.inl ⟨by rfl, _⟩) (by assumption) _
            rotate_left
            · (intro wS hSw; (try dsimp only at hSw); go_simp; try with_reducible rfl)
            try simp only [Act.put, nA, nB, nC]
            refine' wpAnyH_take (i := 1) (oi := ⟨some 24, .load 28 (.tmp 23), 28, "ref.go:89", #[⟨0, .data⟩], none⟩) rfl (by kernel_rfl) (by kernel_rfl) (by kernel_rfl) (fun _ _ _ h => h) (Or.inl ⟨by rfl, _⟩) (by assumption) _
            rotate_left
            · (intro wS hSw; (try dsimp only at hSw); go_simp; try with_reducible rfl)
            try simp only [Act.put, nA, nB, nC]
            refine' wpAnyH_take (i := 2) (oi := ⟨some 25, .load 23 (.tmp 3), 23, "ref.go:89", #[], none⟩) rfl (by kernel_rfl) (by kernel_rfl) (by kernel_rfl) (fun _ _ _ h => h) (Or.inl ⟨by rfl, _⟩) (by assumption) _
            rotate_left
            · (intro wS hSw; (try dsimp only at hSw); go_simp; try with_reducible rfl)
            try simp only [Act.put, nA, nB, nC]
            refine' wpAnyH_take (i := 4) (oi := ⟨some 27, .move (.tmp 2), 27, "ref.go:89", #[], none⟩) rfl (by kernel_rfl) (by kernel_rfl) (by kernel_rfl) (fun _ _ _ h => h) (Or.inl ⟨by rfl, _⟩) (by assumption) _
            rotate_left
            · (intro wS hSw; (try dsimp only at hSw); go_simp; try with_reducible rfl)
            try simp only [Act.put, nA, nB, nC]
            refine wpAnyH_ready (rs := [3]) (by kernel_rfl) (by simp) ?_
            refine AllReadyH.cons (o := ⟨some 26, .call ⟨.value (.func 19), #[.tmp 25], #[23]⟩, 3, "ref.go:89", #[⟨2, .data⟩], none⟩) rfl (fun K hK => ?_) AllReadyH.nil
            go_simp
            (refine (refEntries_any a b _).mono ?_; rintro e w5 ⟨rfl, b5⟩; rw [HE.out])
            refine hK.out _ _ ?_ (fun hHeld => ?_)
            · exact ⟨(b5.cell (p := ⟨bb, 0, none⟩) hz4).trans hHeld.1, (b5.cell (p := ⟨bb, 1, none⟩) hz4).trans hHeld.2.1, (b5.cell (p := ⟨N, 0, none⟩) hzN).trans hHeld.2.2.1, (b5.cell (p := ⟨N, 1, none⟩) hzN).trans hHeld.2.2.2⟩
            clear hK K
            try simp only [Act.put, nA, nB, nC]
            have b5' : Below w4.heap.size w4 w5 := (Below.refl _ _).drew.trans b5
            have hz5 : w4.heap.size ≤ w5.heap.size := b5'.size
            refine wpAnyH_ready (rs := [5]) (by kernel_rfl) (by simp) ?_
            refine AllReadyH.cons (o := ⟨some 28, .call ⟨.value (.func 54), #[.tmp 24, .tmp 26, .tmp 27], #[28, 3, 27]⟩, 4, "ref.go:89", #[⟨1, .data⟩, ⟨3, .data⟩, ⟨4, .data⟩, ⟨3, .chain⟩], none⟩) rfl (fun K hK => ?_) AllReadyH.nil
            go_simp
            (refine (refRising_any (.slice nad nx nn) xs E pages w5 (HU.out.below (by rw [HN.out]; exact B4.out.trans (b5'.mono (Nat.le_of_lt hzN))))).mono ?_; rintro e w6 ⟨rfl, b6⟩; rw [HRI.out])
            refine hK.out _ _ ?_ (fun hHeld => ?_)
            · exact ⟨(b6.cell (p := ⟨bb, 0, none⟩) (Nat.lt_of_lt_of_le hz4 hz5)).trans hHeld.1, (b6.cell (p := ⟨bb, 1, none⟩) (Nat.lt_of_lt_of_le hz4 hz5)).trans hHeld.2.1, (b6.cell (p := ⟨N, 0, none⟩) (Nat.lt_of_lt_of_le hzN hz5)).trans hHeld.2.2.1, (b6.cell (p := ⟨N, 1, none⟩) (Nat.lt_of_lt_of_le hzN hz5)).trans hHeld.2.2.2⟩
            clear hK K
            try simp only [Act.put, nA, nB, nC]
            refine' wpAnyH_take (i := 6) (oi := ⟨some 29, .unOp .not 4 (.tmp 28), 4, "ref.go:89", #[⟨5, .data⟩], none⟩) rfl (by kernel_rfl) (by kernel_rfl) (by kernel_rfl) (fun _ _ _ h => h) (Or.inl ⟨by rfl, _⟩) (by assumption) _
            rotate_left
            · (intro wS hSw; (try dsimp only at hSw); go_simp; try with_reducible rfl)
            try simp only [Act.put, nA, nB, nC]
            refine' wpAnyH_take (i := 7) (oi := ⟨some 30, .move (.tmp 29), 4, "ref.go:89", #[⟨6, .data⟩, ⟨5, .chain⟩], none⟩) rfl (by kernel_rfl) (by kernel_rfl) (by kernel_rfl) (fun _ _ _ h => h) (Or.inl ⟨by rfl, _⟩) (by assumption) _
            rotate_left
            · (intro wS hSw; (try dsimp only at hSw); go_simp; try with_reducible rfl)
            try simp only [Act.put, nA, nB, nC]
            refine' wpAnyH_take (i := 8) (oi := ⟨some 31, .fieldAddr 64 (.tmp 9) 0, 0, "ref.go:89", #[⟨7, .guard⟩], some (7, false)⟩) rfl (by kernel_rfl) (by kernel_rfl) (by kernel_rfl) (fun _ _ _ h => h) (Or.inl ⟨by rfl, _⟩) (by assumption) _
            rotate_left
            · (intro wS hSw; (try dsimp only at hSw); go_simp; try with_reducible rfl)
            try simp only [Act.put, nA, nB, nC]
            refine' wpAnyH_take (i := 9) (oi := ⟨some 32, .load 27 (.tmp 31), 27, "ref.go:89", #[⟨8, .data⟩, ⟨7, .guard⟩], some (7, false)⟩) rfl (by kernel_rfl) (by kernel_rfl) (by kernel_rfl) (fun _ _ _ h => h) (Or.inl ⟨by rfl, _⟩) (by assumption) _
            rotate_left
            · (intro wS hSw; (try dsimp only at hSw); go_simp; try with_reducible rfl)
            try simp only [Act.put, nA, nB, nC]
            refine' wpAnyH_take (i := 10) (oi := ⟨some 33, .binOp .lss 27 (.tmp 32) (.const (.int .u32 2)) 27, 4, "ref.go:89", #[⟨9, .data⟩, ⟨7, .guard⟩], some (7, false)⟩) rfl (by kernel_rfl) (by kernel_rfl) (by kernel_rfl) (fun _ _ _ h => h) (Or.inl ⟨by rfl, _⟩) (by assumption) _
            rotate_left
            · (intro wS hSw; (try dsimp only at hSw); go_simp; try with_reducible rfl)
            try simp only [Act.put, nA, nB, nC]
            refine' wpAnyH_take (i := 11) (oi := ⟨some 34, .pick (.tmp 30) (.const (.bool true)) (.tmp 33), 4, "ref.go:89", #[⟨7, .data⟩, ⟨10, .data⟩], none⟩) rfl (by kernel_rfl) (by kernel_rfl) (by kernel_rfl) (fun _ _ _ h => h) (Or.inl ⟨by rfl, _⟩) (by assumption) _
            rotate_left
            · (intro wS hSw; (try dsimp only at hSw); go_simp; try with_reducible rfl)
            try simp only [Act.put, nA, nB, nC]
            refine' wpAnyH_take (i := 12) (oi := ⟨some 35, .move (.tmp 34), 4, "ref.go:89", #[⟨11, .data⟩, ⟨7, .chain⟩], none⟩) rfl (by kernel_rfl) (by kernel_rfl) (by kernel_rfl) (fun _ _ _ h => h) (Or.inl ⟨by rfl, _⟩) (by assumption) _
            rotate_left
            · (intro wS hSw; (try dsimp only at hSw); go_simp; try with_reducible rfl)
            try simp only [Act.put, nA, nB, nC]
            refine' wpAnyH_take (i := 13) (oi := ⟨some 36, .fieldAddr 64 (.tmp 9) 0, 0, "ref.go:89", #[⟨12, .guard⟩], some (12, false)⟩) rfl (by kernel_rfl) (by kernel_rfl) (by kernel_rfl) (fun _ _ _ h => h) (Or.inl ⟨by rfl, _⟩) (by assumption) _
            rotate_left
            · (intro wS hSw; (try dsimp only at hSw); go_simp; try with_reducible rfl)
            try simp only [Act.put, nA, nB, nC]
            refine' wpAnyH_take (i := 14) (oi := ⟨some 37, .load 27 (.tmp 36), 27, "ref.go:89", #[⟨13, .data⟩, ⟨12, .guard⟩], some (12, false)⟩) rfl (by kernel_rfl) (by kernel_rfl) (by kernel_rfl) (fun _ _ _ h => h) (Or.inl ⟨by rfl, _⟩) (by assumption) _
            rotate_left
            · (intro wS hSw; (try dsimp only at hSw); go_simp; try with_reducible rfl)
            try simp only [Act.put, nA, nB, nC]
            refine' wpAnyH_take (i := 15) (oi := ⟨some 38, .move (.tmp 2), 27, "ref.go:89", #[⟨12, .guard⟩], some (12, false)⟩) rfl (by kernel_rfl) (by kernel_rfl) (by kernel_rfl) (fun _ _ _ h => h) (Or.inl ⟨by rfl, _⟩) (by assumption) _
            rotate_left
            · (intro wS hSw; (try dsimp only at hSw); go_simp; try with_reducible rfl)
            try simp only [Act.put, nA, nB, nC]
            refine' wpAnyH_take (i := 16) (oi := ⟨some 39, .binOp .geq 27 (.tmp 37) (.tmp 38) 27, 4, "ref.go:89", #[⟨14, .data⟩, ⟨15, .data⟩, ⟨12, .guard⟩], some (12, false)⟩) rfl (by kernel_rfl) (by kernel_rfl) (by kernel_rfl) (fun _ _ _ h => h) (Or.inl ⟨by rfl, _⟩) (by assumption) _
            rotate_left
            · (intro wS hSw; (try dsimp only at hSw); go_simp; try with_reducible rfl)
            try simp only [Act.put, nA, nB, nC]
            refine' wpAnyH_take (i := 17) (oi := ⟨some 40, .pick (.tmp 35) (.const (.bool true)) (.tmp 39), 4, "ref.go:89", #[⟨12, .data⟩, ⟨16, .data⟩], none⟩) rfl (by kernel_rfl) (by kernel_rfl) (by kernel_rfl) (fun _ _ _ h => h) (Or.inl ⟨by rfl, _⟩) (by assumption) _
            rotate_left
            · (intro wS hSw; (try dsimp only at hSw); go_simp; try with_reducible rfl)
            try simp only [Act.put, nA, nB, nC]
            refine' wpAnyH_take (i := 18) (oi := ⟨some 41, .move (.tmp 40), 4, "ref.go:89", #[⟨17, .data⟩, ⟨12, .chain⟩], none⟩) rfl (by kernel_rfl) (by kernel_rfl) (by kernel_rfl) (fun _ _ _ h => h) (Or.inl ⟨by rfl, _⟩) (by assumption) _
            rotate_left
            · (intro wS hSw; (try dsimp only at hSw); go_simp; try with_reducible rfl)
            try simp only [Act.put, nA, nB, nC]
            refine' wpAnyH_take (i := 19) (oi := ⟨some 42, .move (.tmp 7), 117, "ref.go:89", #[⟨18, .guard⟩], some (18, false)⟩) rfl (by kernel_rfl) (by kernel_rfl) (by kernel_rfl) (fun _ _ _ h => h) (Or.inr ⟨by rfl, rfl⟩) (by assumption) _
            try simp only [Act.put, nA, nB, nC]
            refine' wpAnyH_take (i := 20) (oi := ⟨some 43, .fieldAddr 64 (.tmp 9) 0, 0, "ref.go:89", #[⟨18, .guard⟩], some (18, false)⟩) rfl (by kernel_rfl) (by kernel_rfl) (by kernel_rfl) (fun _ _ _ h => h) (Or.inr ⟨by rfl, rfl⟩) (by assumption) _
            try simp only [Act.put, nA, nB, nC]
            refine' wpAnyH_take (i := 21) (oi := ⟨some 44, .load 27 (.tmp 43), 27, "ref.go:89", #[⟨20, .data⟩, ⟨18, .guard⟩], some (18, false)⟩) rfl (by kernel_rfl) (by kernel_rfl) (by kernel_rfl) (fun _ _ _ h => h) (Or.inr ⟨by rfl, rfl⟩) (by assumption) _
            try simp only [Act.put, nA, nB, nC]
            refine' wpAnyH_take (i := 22) (oi := ⟨some 45, .indexAddr 117 (.tmp 42) (.tmp 44), 0, "ref.go:89", #[⟨19, .data⟩, ⟨21, .data⟩, ⟨18, .guard⟩], some (18, false)⟩) rfl (by kernel_rfl) (by kernel_rfl) (by kernel_rfl) (fun _ _ _ h => h) (Or.inr ⟨by rfl, rfl⟩) (by assumption) _
            try simp only [Act.put, nA, nB, nC]
            refine' wpAnyH_take (i := 23) (oi := ⟨some 46, .load 4 (.tmp 45), 4, "ref.go:89", #[⟨22, .data⟩, ⟨18, .guard⟩], some (18, false)⟩) rfl (by kernel_rfl) (by kernel_rfl) (by kernel_rfl) (fun _ _ _ h => h) (Or.inr ⟨by rfl, rfl⟩) (by assumption) _
            try simp only [Act.put, nA, nB, nC]
            refine' wpAnyH_take (i := 24) (oi := ⟨some 47, .pick (.tmp 41) (.const (.bool true)) (.tmp 46), 4, "ref.go:89", #[⟨18, .data⟩, ⟨23, .data⟩], none⟩) rfl (by kernel_rfl) (by kernel_rfl) (by kernel_rfl) (fun _ _ _ h => h) (Or.inl ⟨by rfl, _⟩) (by assumption) _
            rotate_left
            · (intro wS hSw; (try dsimp only at hSw); go_simp; try with_reducible rfl)
            try simp only [Act.put, nA, nB, nC]
            refine wpAnyH_done (by kernel_rfl) ?_ _
            have b6' : Below w4.heap.size w4 w6 := b5'.trans (b6.mono hz5)
            have B6 : Hid (Below N w w6) := B4.out.trans (b6'.mono (Nat.le_of_lt hzN))
            have HR := Lib.hid (HRet.out w6 false HNO.out B6.out)
            clear b5 b5' b6 b6' hHeld c0 c1 f0 f1
            go_wp2_with fail
            exact HR.out
          case pos =>
            have y3 : decide (pages ≤ pg) = false := decide_eq_false (by omega)
            have ip : (pg : Int) < (pages : Int) := by omega
            obtain ⟨q, hq⟩ : ∃ q, acc.contains pg = q := ⟨_, rfl⟩
            have gq := M4.out.cell h3
            rw [hq] at gq
            have HQ := Lib.hid hq
            clear hq
            cases q
            case true =>
              have HNO : Hid (rightGo E pages cs [] = false) := by show _ = _; rw [HS2.out, decide_eq_true h2, decide_eq_true h3, HQ.out]; rfl
              go_upto_region 6 with fail
              refine wp_region_held_drew (S := fun W => W.cell? ⟨bb, 0, none⟩ = some (.int .u32 (pg : Int)) ∧ W.cell? ⟨bb, 1, none⟩ = some (.slice nad nx nn) ∧ W.cell? ⟨N, 0, none⟩ = some (.int .i64 a) ∧ W.cell? ⟨N, 1, none⟩ = some (.int .i64 b) ∧ W.cell? ⟨g, pg, none⟩ = some (.bool true)) (by kernel_rfl) ⟨c0, c1, f0, f1, gq⟩ (fun hHeld => ?_)
              refine' wpAnyH_take (i := 0) (oi := ⟨some 23, .fieldAddr 64 (.tmp 9) 1, 0, "ref.go:89", #[], none⟩) rfl (by kernel_rfl) (by kernel_rfl) (by kernel_rfl) (fun _ _ _ h => h) (Or.inl ⟨by rfl, _⟩) (by assumption) _
              rotate_left
              · (intro wS hSw; (try dsimp only at hSw); go_simp; try with_reducible rfl)
              try simp only [Act.put, nA, nB, nC]
              refine' wpAnyH_take (i := 1) (oi := ⟨some 24, .load 28 (.tmp 23), 28, "ref.go:89", #[⟨0, .data⟩], none⟩) rfl (by kernel_rfl) (by kernel_rfl) (by kernel_rfl) (fun _ _ _ h => h) (Or.inl ⟨by rfl, _⟩) (by assumption) _
              rotate_left
              · (intro wS hSw; (try dsimp only at hSw); go_simp; try with_reducible rfl)
              try simp only [Act.put, nA, nB, nC]
              refine' wpAnyH_take (i := 2) (oi := ⟨some 25, .load 23 (.tmp 3), 23, "ref.go:89", #[], none⟩) rfl (by kernel_rfl) (by kernel_rfl) (by kernel_rfl) (fun _ _ _ h => h) (Or.inl ⟨by rfl, _⟩) (by assumption) _
              rotate_left
              · (intro wS hSw; (try dsimp only at hSw); go_simp; try with_reducible rfl)
              try simp only [Act.put, nA, nB, nC]
              refine' wpAnyH_take (i := 4) (oi := ⟨some 27, .move (.tmp 2), 27, "ref.go:89", #[], none⟩) rfl (by kernel_rfl) (by kernel_rfl) (by kernel_rfl) (fun _ _ _ h => h) (Or.inl ⟨by rfl, _⟩) (by assumption) _
              rotate_left
              · (intro wS hSw; (try dsimp only at hSw); go_simp; try with_reducible rfl)
              try simp only [Act.put, nA, nB, nC]
              refine wpAnyH_ready (rs := [3]) (by kernel_rfl) (by simp) ?_
              refine AllReadyH.cons (o := ⟨some 26, .call ⟨.value (.func 19), #[.tmp 25], #[23]⟩, 3, "ref.go:89", #[⟨2, .data⟩], none⟩) rfl (fun K hK => ?_) AllReadyH.nil
              go_simp
              (refine (refEntries_any a b _).mono ?_; rintro e w5 ⟨rfl, b5⟩; rw [HE.out])
              refine hK.out _ _ ?_ (fun hHeld => ?_)
              · exact ⟨(b5.cell (p := ⟨bb, 0, none⟩) hz4).trans hHeld.1, (b5.cell (p := ⟨bb, 1, none⟩) hz4).trans hHeld.2.1, (b5.cell (p := ⟨N, 0, none⟩) hzN).trans hHeld.2.2.1, (b5.cell (p := ⟨N, 1, none⟩) hzN).trans hHeld.2.2.2.1, (b5.cell (p := ⟨g, pg, none⟩) hzg).trans hHeld.2.2.2.2⟩
              clear hK K
              try simp only [Act.put, nA, nB, nC]
              have b5' : Below w4.heap.size w4 w5 := (Below.refl _ _).drew.trans b5
              have hz5 : w4.heap.size ≤ w5.heap.size := b5'.size
              refine wpAnyH_ready (rs := [5]) (by kernel_rfl) (by simp) ?_
              refine AllReadyH.cons (o := ⟨some 28, .call ⟨.value (.func 54), #[.tmp 24, .tmp 26, .tmp 27], #[28, 3, 27]⟩, 4, "ref.go:89", #[⟨1, .data⟩, ⟨3, .data⟩, ⟨4, .data⟩, ⟨3, .chain⟩], none⟩) rfl (fun K hK => ?_) AllReadyH.nil
              go_simp
              (refine (refRising_any (.slice nad nx nn) xs E pages w5 (HU.out.below (by rw [HN.out]; exact B4.out.trans (b5'.mono (Nat.le_of_lt hzN))))).mono ?_; rintro e w6 ⟨rfl, b6⟩; rw [HRI.out])
              refine hK.out _ _ ?_ (fun hHeld => ?_)
              · exact ⟨(b6.cell (p := ⟨bb, 0, none⟩) (Nat.lt_of_lt_of_le hz4 hz5)).trans hHeld.1, (b6.cell (p := ⟨bb, 1, none⟩) (Nat.lt_of_lt_of_le hz4 hz5)).trans hHeld.2.1, (b6.cell (p := ⟨N, 0, none⟩) (Nat.lt_of_lt_of_le hzN hz5)).trans hHeld.2.2.1, (b6.cell (p := ⟨N, 1, none⟩) (Nat.lt_of_lt_of_le hzN hz5)).trans hHeld.2.2.2.1, (b6.cell (p := ⟨g, pg, none⟩) (Nat.lt_of_lt_of_le hzg hz5)).trans hHeld.2.2.2.2⟩
              clear hK K
              try simp only [Act.put, nA, nB, nC]
              refine' wpAnyH_take (i := 6) (oi := ⟨some 29, .unOp .not 4 (.tmp 28), 4, "ref.go:89", #[⟨5, .data⟩], none⟩) rfl (by kernel_rfl) (by kernel_rfl) (by kernel_rfl) (fun _ _ _ h => h) (Or.inl ⟨by rfl, _⟩) (by assumption) _
              rotate_left
              · (intro wS hSw; (try dsimp only at hSw); go_simp; try with_reducible rfl)
              try simp only [Act.put, nA, nB, nC]
              refine' wpAnyH_take (i := 7) (oi := ⟨some 30, .move (.tmp 29), 4, "ref.go:89", #[⟨6, .data⟩, ⟨5, .chain⟩], none⟩) rfl (by kernel_rfl) (by kernel_rfl) (by kernel_rfl) (fun _ _ _ h => h) (Or.inl ⟨by rfl, _⟩) (by assumption) _
              rotate_left
              · (intro wS hSw; (try dsimp only at hSw); go_simp; try with_reducible rfl)
              try simp only [Act.put, nA, nB, nC]
              refine' wpAnyH_take (i := 8) (oi := ⟨some 31, .fieldAddr 64 (.tmp 9) 0, 0, "ref.go:89", #[⟨7, .guard⟩], some (7, false)⟩) rfl (by kernel_rfl) (by kernel_rfl) (by kernel_rfl) (fun _ _ _ h => h) (Or.inl ⟨by rfl, _⟩) (by assumption) _
              rotate_left
              · (intro wS hSw; (try dsimp only at hSw); go_simp; try with_reducible rfl)
              try simp only [Act.put, nA, nB, nC]
              refine' wpAnyH_take (i := 9) (oi := ⟨some 32, .load 27 (.tmp 31), 27, "ref.go:89", #[⟨8, .data⟩, ⟨7, .guard⟩], some (7, false)⟩) rfl (by kernel_rfl) (by kernel_rfl) (by kernel_rfl) (fun _ _ _ h => h) (Or.inl ⟨by rfl, _⟩) (by assumption) _
              rotate_left
              · (intro wS hSw; (try dsimp only at hSw); go_simp; try with_reducible rfl)
              try simp only [Act.put, nA, nB, nC]
              refine' wpAnyH_take (i := 10) (oi := ⟨some 33, .binOp .lss 27 (.tmp 32) (.const (.int .u32 2)) 27, 4, "ref.go:89", #[⟨9, .data⟩, ⟨7, .guard⟩], some (7, false)⟩) rfl (by kernel_rfl) (by kernel_rfl) (by kernel_rfl) (fun _ _ _ h => h) (Or.inl ⟨by rfl, _⟩) (by assumption) _
              rotate_left
              · (intro wS hSw; (try dsimp only at hSw); go_simp; try with_reducible rfl)
              try simp only [Act.put, nA, nB, nC]
              refine' wpAnyH_take (i := 11) (oi := ⟨some 34, .pick (.tmp 30) (.const (.bool true)) (.tmp 33), 4, "ref.go:89", #[⟨7, .data⟩, ⟨10, .data⟩], none⟩) rfl (by kernel_rfl) (by kernel_rfl) (by kernel_rfl) (fun _ _ _ h => h) (Or.inl ⟨by rfl, _⟩) (by assumption) _
              rotate_left
              · (intro wS hSw; (try dsimp only at hSw); go_simp; try with_reducible rfl)
              try simp only [Act.put, nA, nB, nC]
              refine' wpAnyH_take (i := 12) (oi := ⟨some 35, .move (.tmp 34), 4, "ref.go:89", #[⟨11, .data⟩, ⟨7, .chain⟩], none⟩) rfl (by kernel_rfl) (by kernel_rfl) (by kernel_rfl) (fun _ _ _ h => h) (Or.inl ⟨by rfl, _⟩) (by assumption) _
              rotate_left
              · (intro wS hSw; (try dsimp only at hSw); go_simp; try with_reducible rfl)
              try simp only [Act.put, nA, nB, nC]
              refine' wpAnyH_take (i := 13) (oi := ⟨some 36, .fieldAddr 64 (.tmp 9) 0, 0, "ref.go:89", #[⟨12, .guard⟩], some (12, false)⟩) rfl (by kernel_rfl) (by kernel_rfl) (by kernel_rfl) (fun _ _ _ h => h) (Or.inl ⟨by rfl, _⟩) (by assumption) _
              rotate_left
              · (intro wS hSw; (try dsimp only at hSw); go_simp; try with_reducible rfl)
              try simp only [Act.put, nA, nB, nC]
              refine' wpAnyH_take (i := 14) (oi := ⟨some 37, .load 27 (.tmp 36), 27, "ref.go:89", #[⟨13, .data⟩, ⟨12, .guard⟩], some (12, false)⟩) rfl (by kernel_rfl) (by kernel_rfl) (by kernel_rfl) (fun _ _ _ h => h) (Or.inl ⟨by rfl, _⟩) (by assumption) _
              rotate_left
              · (intro wS hSw; (try dsimp only at hSw); go_simp; try with_reducible rfl)
              try simp only [Act.put, nA, nB, nC]
              refine' wpAnyH_take (i := 15) (oi := ⟨some 38, .move (.tmp 2), 27, "ref.go:89", #[⟨12, .guard⟩], some (12, false)⟩) rfl (by kernel_rfl) (by kernel_rfl) (by kernel_rfl) (fun _ _ _ h => h) (Or.inl ⟨by rfl, _⟩) (by assumption) _
              rotate_left
              · (intro wS hSw; (try dsimp only at hSw); go_simp; try with_reducible rfl)
              try simp only [Act.put, nA, nB, nC]
              refine' wpAnyH_take (i := 16) (oi := ⟨some 39, .binOp .geq 27 (.tmp 37) (.tmp 38) 27, 4, "ref.go:89", #[⟨14, .data⟩, ⟨15, .data⟩, ⟨12, .guard⟩], some (12, false)⟩) rfl (by kernel_rfl) (by kernel_rfl) (by kernel_rfl) (fun _ _ _ h => h) (Or.inl ⟨by rfl, _⟩) (by assumption) _
              rotate_left
              · (intro wS hSw; (try dsimp only at hSw); go_simp; try with_reducible rfl)
              try simp only [Act.put, nA, nB, nC]
              refine' wpAnyH_take (i := 17) (oi := ⟨some 40, .pick (.tmp 35) (.const (.bool true)) (.tmp 39), 4, "ref.go:89", #[⟨12, .data⟩, ⟨16, .data⟩], none⟩) rfl (by kernel_rfl) (by kernel_rfl) (by kernel_rfl) (fun _ _ _ h => h) (Or.inl ⟨by rfl, _⟩) (by assumption) _
              rotate_left
              · (intro wS hSw; (try dsimp only at hSw); go_simp; try with_reducible rfl)
              try simp only [Act.put, nA, nB, nC]
              refine' wpAnyH_take (i := 18) (oi := ⟨some 41, .move (.tmp 40), 4, "ref.go:89", #[⟨17, .data⟩, ⟨12, .chain⟩], none⟩) rfl (by kernel_rfl) (by kernel_rfl) (by kernel_rfl) (fun _ _ _ h => h) (Or.inl ⟨by rfl, _⟩) (by assumption) _
              rotate_left
              · (intro wS hSw; (try dsimp only at hSw); go_simp; try with_reducible rfl)
              try simp only [Act.put, nA, nB, nC]
              refine' wpAnyH_take (i := 19) (oi := ⟨some 42, .move (.tmp 7), 117, "ref.go:89", #[⟨18, .guard⟩], some (18, false)⟩) rfl (by kernel_rfl) (by kernel_rfl) (by kernel_rfl) (fun _ _ _ h => h) (Or.inl ⟨by rfl, _⟩) (by assumption) _
              rotate_left
              · (intro wS hSw; (try dsimp only at hSw); go_simp; try with_reducible rfl)
              try simp only [Act.put, nA, nB, nC]
              refine' wpAnyH_take (i := 20) (oi := ⟨some 43, .fieldAddr 64 (.tmp 9) 0, 0, "ref.go:89", #[⟨18, .guard⟩], some (18, false)⟩) rfl (by kernel_rfl) (by kernel_rfl) (by kernel_rfl) (fun _ _ _ h => h) (Or.inl ⟨by rfl, _⟩) (by assumption) _
              rotate_left
              · (intro wS hSw; (try dsimp only at hSw); go_simp; try with_reducible rfl)
              try simp only [Act.put, nA, nB, nC]
              refine' wpAnyH_take (i := 21) (oi := ⟨some 44, .load 27 (.tmp 43), 27, "ref.go:89", #[⟨20, .data⟩, ⟨18, .guard⟩], some (18, false)⟩) rfl (by kernel_rfl) (by kernel_rfl) (by kernel_rfl) (fun _ _ _ h => h) (Or.inl ⟨by rfl, _⟩) (by assumption) _
              rotate_left
              · (intro wS hSw; (try dsimp only at hSw); go_simp; try with_reducible rfl)
              try simp only [Act.put, nA, nB, nC]
              refine' wpAnyH_take (i := 22) (oi := ⟨some 45, .indexAddr 117 (.tmp 42) (.tmp 44), 0, "ref.go:89", #[⟨19, .data⟩, ⟨21, .data⟩, ⟨18, .guard⟩], some (18, false)⟩) rfl (by kernel_rfl) (by kernel_rfl) (by kernel_rfl) (fun _ _ _ h => h) (Or.inl ⟨by rfl, _⟩) (by assumption) _
              rotate_left
              · (intro wS hSw; (try dsimp only at hSw); go_simp; try with_reducible rfl)
              try simp only [Act.put, nA, nB, nC]
              refine' wpAnyH_take (i := 23) (oi := ⟨some 46, .load 4 (.tmp 45), 4, "ref.go:89", #[⟨22, .data⟩, ⟨18, .guard⟩], some (18, false)⟩) rfl (by kernel_rfl) (by kernel_rfl) (by kernel_rfl) (fun _ _ _ h => h) (Or.inl ⟨by rfl, _⟩) (by assumption) _
              rotate_left
              · (intro wS hSw; (try dsimp only at hSw); go_simp; try with_reducible rfl)
              try simp only [Act.put, nA, nB, nC]
              refine' wpAnyH_take (i := 24) (oi := ⟨some 47, .pick (.tmp 41) (.const (.bool true)) (.tmp 46), 4, "ref.go:89", #[⟨18, .data⟩, ⟨23, .data⟩], none⟩) rfl (by kernel_rfl) (by kernel_rfl) (by kernel_rfl) (fun _ _ _ h => h) (Or.inl ⟨by rfl, _⟩) (by assumption) _
              rotate_left
              · (intro wS hSw; (try dsimp only at hSw); go_simp; try with_reducible rfl)
              try simp only [Act.put, nA, nB, nC]
              refine wpAnyH_done (by kernel_rfl) ?_ _
              have b6' : Below w4.heap.size w4 w6 := b5'.trans (b6.mono hz5)
              have B6 : Hid (Below N w w6) := B4.out.trans (b6'.mono (Nat.le_of_lt hzN))
              have HR := Lib.hid (HRet.out w6 false HNO.out B6.out)
              clear b5 b5' b6 b6' hHeld c0 c1 f0 f1 gq
              go_wp2_with fail
              exact HR.out
            case false =>
              have HGO : Hid (rightGo E pages cs [] = (match markGo xs (pg :: acc) with | some a => rightGo E pages (cs.drop (k + 1)) a | none => false)) := by show _ = _; rw [HS2.out, decide_eq_true h2, decide_eq_true h3, HQ.out]; rfl
              go_upto_region 6 with fail
              refine wp_region_held_drew (S := fun W => W.cell? ⟨bb, 0, none⟩ = some (.int .u32 (pg : Int)) ∧ W.cell? ⟨bb, 1, none⟩ = some (.slice nad nx nn) ∧ W.cell? ⟨N, 0, none⟩ = some (.int .i64 a) ∧ W.cell? ⟨N, 1, none⟩ = some (.int .i64 b) ∧ W.cell? ⟨g, pg, none⟩ = some (.bool false)) (by kernel_rfl) ⟨c0, c1, f0, f1, gq⟩ (fun hHeld => ?_)
              refine' wpAnyH_take (i := 0) (oi := ⟨some 23, .fieldAddr 64 (.tmp 9) 1, 0, "ref.go:89", #[], none⟩) rfl (by kernel_rfl) (by kernel_rfl) (by kernel_rfl) (fun _ _ _ h => h) (Or.inl ⟨by rfl, _⟩) (by assumption) _
              rotate_left
              · (intro wS hSw; (try dsimp only at hSw); go_simp; try with_reducible rfl)
              try simp only [Act.put, nA, nB, nC]
              refine' wpAnyH_take (i := 1) (oi := ⟨some 24, .load 28 (.tmp 23), 28, "ref.go:89", #[⟨0, .data⟩], none⟩) rfl (by kernel_rfl) (by kernel_rfl) (by kernel_rfl) (fun _ _ _ h => h) (Or.inl ⟨by rfl, _⟩) (by assumption) _
              rotate_left
              · (intro wS hSw; (try dsimp only at hSw); go_simp; try with_reducible rfl)
              try simp only [Act.put, nA, nB, nC]
              refine' wpAnyH_take (i := 2) (oi := ⟨some 25, .load 23 (.tmp 3), 23, "ref.go:89", #[], none⟩) rfl (by kernel_rfl) (by kernel_rfl) (by kernel_rfl) (fun _ _ _ h => h) (Or.inl ⟨by rfl, _⟩) (by assumption) _
              rotate_left
              · (intro wS hSw; (try dsimp only at hSw); go_simp; try with_reducible rfl)
              try simp only [Act.put, nA, nB, nC]
              refine' wpAnyH_take (i := 4) (oi := ⟨some 27, .move (.tmp 2), 27, "ref.go:89", #[], none⟩) rfl (by kernel_rfl) (by kernel_rfl) (by kernel_rfl) (fun _ _ _ h => h) (Or.inl ⟨by rfl, _⟩) (by assumption) _
              rotate_left
              · (intro wS hSw; (try dsimp only at hSw); go_simp; try with_reducible rfl)
              try simp only [Act.put, nA, nB, nC]
              refine wpAnyH_ready (rs := [3]) (by kernel_rfl) (by simp) ?_
              refine AllReadyH.cons (o := ⟨some 26, .call ⟨.value (.func 19), #[.tmp 25], #[23]⟩, 3, "ref.go:89", #[⟨2, .data⟩], none⟩) rfl (fun K hK => ?_) AllReadyH.nil
              go_simp
              (refine (refEntries_any a b _).mono ?_; rintro e w5 ⟨rfl, b5⟩; rw [HE.out])
              refine hK.out _ _ ?_ (fun hHeld => ?_)
              · exact ⟨(b5.cell (p := ⟨bb, 0, none⟩) hz4).trans hHeld.1, (b5.cell (p := ⟨bb, 1, none⟩) hz4).trans hHeld.2.1, (b5.cell (p := ⟨N, 0, none⟩) hzN).trans hHeld.2.2.1, (b5.cell (p := ⟨N, 1, none⟩) hzN).trans hHeld.2.2.2.1, (b5.cell (p := ⟨g, pg, none⟩) hzg).trans hHeld.2.2.2.2⟩
              clear hK K
              try simp only [Act.put, nA, nB, nC]
              have b5' : Below w4.heap.size w4 w5 := (Below.refl _ _).drew.trans b5
              have hz5 : w4.heap.size ≤ w5.heap.size := b5'.size
              refine wpAnyH_ready (rs := [5]) (by kernel_rfl) (by simp) ?_
              refine AllReadyH.cons (o := ⟨some 28, .call ⟨.value (.func 54), #[.tmp 24, .tmp 26, .tmp 27], #[28, 3, 27]⟩, 4, "ref.go:89", #[⟨1, .data⟩, ⟨3, .data⟩, ⟨4, .data⟩, ⟨3, .chain⟩], none⟩) rfl (fun K hK => ?_) AllReadyH.nil
              go_simp
              (refine (refRising_any (.slice nad nx nn) xs E pages w5 (HU.out.below (by rw [HN.out]; exact B4.out.trans (b5'.mono (Nat.le_of_lt hzN))))).mono ?_; rintro e w6 ⟨rfl, b6⟩; rw [HRI.out])
              refine hK.out _ _ ?_ (fun hHeld => ?_)
              · exact ⟨(b6.cell (p := ⟨bb, 0, none⟩) (Nat.lt_of_lt_of_le hz4 hz5)).trans hHeld.1, (b6.cell (p := ⟨bb, 1, none⟩) (Nat.lt_of_lt_of_le hz4 hz5)).trans hHeld.2.1, (b6.cell (p := ⟨N, 0, none⟩) (Nat.lt_of_lt_of_le hzN hz5)).trans hHeld.2.2.1, (b6.cell (p := ⟨N, 1, none⟩) (Nat.lt_of_lt_of_le hzN hz5)).trans hHeld.2.2.2.1, (b6.cell (p := ⟨g, pg, none⟩) (Nat.lt_of_lt_of_le hzg hz5)).trans hHeld.2.2.2.2⟩
              clear hK K
              try simp only [Act.put, nA, nB, nC]
              refine' wpAnyH_take (i := 6) (oi := ⟨some 29, .unOp .not 4 (.tmp 28), 4, "ref.go:89", #[⟨5, .data⟩], none⟩) rfl (by kernel_rfl) (by kernel_rfl) (by kernel_rfl) (fun _ _ _ h => h) (Or.inl ⟨by rfl, _⟩) (by assumption) _
              rotate_left
              · (intro wS hSw; (try dsimp only at hSw); go_simp; try with_reducible rfl)
              try simp only [Act.put, nA, nB, nC]
              refine' wpAnyH_take (i := 7) (oi := ⟨some 30, .move (.tmp 29), 4, "ref.go:89", #[⟨6, .data⟩, ⟨5, .chain⟩], none⟩) rfl (by kernel_rfl) (by kernel_rfl) (by kernel_rfl) (fun _ _ _ h => h) (Or.inl ⟨by rfl, _⟩) (by assumption) _
              rotate_left
              · (intro wS hSw; (try dsimp only at hSw); go_simp; try with_reducible rfl)
              try simp only [Act.put, nA, nB, nC]
              refine' wpAnyH_take (i := 8) (oi := ⟨some 31, .fieldAddr 64 (.tmp 9) 0, 0, "ref.go:89", #[⟨7, .guard⟩], some (7, false)⟩) rfl (by kernel_rfl) (by kernel_rfl) (by kernel_rfl) (fun _ _ _ h => h) (Or.inl ⟨by rfl, _⟩) (by assumption) _
              rotate_left
              · (intro wS hSw; (try dsimp only at hSw); go_simp; try with_reducible rfl)
              try simp only [Act.put, nA, nB, nC]
              refine' wpAnyH_take (i := 9) (oi := ⟨some 32, .load 27 (.tmp 31), 27, "ref.go:89", #[⟨8, .data⟩, ⟨7, .guard⟩], some (7, false)⟩) rfl (by kernel_rfl) (by kernel_rfl) (by kernel_rfl) (fun _ _ _ h => h) (Or.inl ⟨by rfl, _⟩) (by assumption) _
              rotate_left
              · (intro wS hSw; (try dsimp only at hSw); go_simp; try with_reducible rfl)
              try simp only [Act.put, nA, nB, nC]
              refine' wpAnyH_take (i := 10) (oi := ⟨some 33, .binOp .lss 27 (.tmp 32) (.const (.int .u32 2)) 27, 4, "ref.go:89", #[⟨9, .data⟩, ⟨7, .guard⟩], some (7, false)⟩) rfl (by kernel_rfl) (by kernel_rfl) (by kernel_rfl) (fun _ _ _ h => h) (Or.inl ⟨by rfl, _⟩) (by assumption) _
              rotate_left
              · (intro wS hSw; (try dsimp only at hSw); go_simp; try with_reducible rfl)
              try simp only [Act.put, nA, nB, nC]
              refine' wpAnyH_take (i := 11) (oi := ⟨some 34, .pick (.tmp 30) (.const (.bool true)) (.tmp 33), 4, "ref.go:89", #[⟨7, .data⟩, ⟨10, .data⟩], none⟩) rfl (by kernel_rfl) (by kernel_rfl) (by kernel_rfl) (fun _ _ _ h => h) (Or.inl ⟨by rfl, _⟩) (by assumption) _
              rotate_left
              · (intro wS hSw; (try dsimp only at hSw); go_simp; try with_reducible rfl)
              try simp only [Act.put, nA, nB, nC]
              refine' wpAnyH_take (i := 12) (oi := ⟨some 35, .move (.tmp 34), 4, "ref.go:89", #[⟨11, .data⟩, ⟨7, .chain⟩], none⟩) rfl (by kernel_rfl) (by kernel_rfl) (by kernel_rfl) (fun _ _ _ h => h) (Or.inl ⟨by rfl, _⟩) (by assumption) _
              rotate_left
              · (intro wS hSw; (try dsimp only at hSw); go_simp; try with_reducible rfl)
              try simp only [Act.put, nA, nB, nC]
              refine' wpAnyH_take (i := 13) (oi := ⟨some 36, .fieldAddr 64 (.tmp 9) 0, 0, "ref.go:89", #[⟨12, .guard⟩], some (12, false)⟩) rfl (by kernel_rfl) (by kernel_rfl) (by kernel_rfl) (fun _ _ _ h => h) (Or.inl ⟨by rfl, _⟩) (by assumption) _
              rotate_left
              · (intro wS hSw; (try dsimp only at hSw); go_simp; try with_reducible rfl)
              try simp only [Act.put, nA, nB, nC]
              refine' wpAnyH_take (i := 14) (oi := ⟨some 37, .load 27 (.tmp 36), 27, "ref.go:89", #[⟨13, .data⟩, ⟨12, .guard⟩], some (12, false)⟩) rfl (by kernel_rfl) (by kernel_rfl) (by kernel_rfl) (fun _ _ _ h => h) (Or.inl ⟨by rfl, _⟩) (by assumption) _
              rotate_left
              · (intro wS hSw; (try dsimp only at hSw); go_simp; try with_reducible rfl)
              try simp only [Act.put, nA, nB, nC]
              refine' wpAnyH_take (i := 15) (oi := ⟨some 38, .move (.tmp 2), 27, "ref.go:89", #[⟨12, .guard⟩], some (12, false)⟩) rfl (by kernel_rfl) (by kernel_rfl) (by kernel_rfl) (fun _ _ _ h => h) (Or.inl ⟨by rfl, _⟩) (by assumption) _
              rotate_left
              · (intro wS hSw; (try dsimp only at hSw); go_simp; try with_reducible rfl)
              try simp only [Act.put, nA, nB, nC]
              refine' wpAnyH_take (i := 16) (oi := ⟨some 39, .binOp .geq 27 (.tmp 37) (.tmp 38) 27, 4, "ref.go:89", #[⟨14, .data⟩, ⟨15, .data⟩, ⟨12, .guard⟩], some (12, false)⟩) rfl (by kernel_rfl) (by kernel_rfl) (by kernel_rfl) (fun _ _ _ h => h) (Or.inl ⟨by rfl, _⟩) (by assumption) _
              rotate_left
              · (intro wS hSw; (try dsimp only at hSw); go_simp; try with_reducible rfl)
              try simp only [Act.put, nA, nB, nC]
              refine' wpAnyH_take (i := 17) (oi := ⟨some 40, .pick (.tmp 35) (.const (.bool true)) (.tmp 39), 4, "ref.go:89", #[⟨12, .data⟩, ⟨16, .data⟩], none⟩) rfl (by kernel_rfl) (by kernel_rfl) (by kernel_rfl) (fun _ _ _ h => h) (Or.inl ⟨by rfl, _⟩) (by assumption) _
              rotate_left
              · (intro wS hSw; (try dsimp only at hSw); go_simp; try with_reducible rfl)
              try simp only [Act.put, nA, nB, nC]
              refine' wpAnyH_take (i := 18) (oi := ⟨some 41, .move (.tmp 40), 4, "ref.go:89", #[⟨17, .data⟩, ⟨12, .chain⟩], none⟩) rfl (by kernel_rfl) (by kernel_rfl) (by kernel_rfl) (fun _ _ _ h => h) (Or.inl ⟨by rfl, _⟩) (by assumption) _
              rotate_left
              · (intro wS hSw; (try dsimp only at hSw); go_simp; try with_reducible rfl)
              try simp only [Act.put, nA, nB, nC]
              refine' wpAnyH_take (i := 19) (oi := ⟨some 42, .move (.tmp 7), 117, "ref.go:89", #[⟨18, .guard⟩], some (18, false)⟩) rfl (by kernel_rfl) (by kernel_rfl) (by kernel_rfl) (fun _ _ _ h => h) (Or.inl ⟨by rfl, _⟩) (by assumption) _
              rotate_left
              · (intro wS hSw; (try dsimp only at hSw); go_simp; try with_reducible rfl)
              try simp only [Act.put, nA, nB, nC]
              refine' wpAnyH_take (i := 20) (oi := ⟨some 43, .fieldAddr 64 (.tmp 9) 0, 0, "ref.go:89", #[⟨18, .guard⟩], some (18, false)⟩) rfl (by kernel_rfl) (by kernel_rfl) (by kernel_rfl) (fun _ _ _ h => h) (Or.inl ⟨by rfl, _⟩) (by assumption) _
              rotate_left
              · (intro wS hSw; (try dsimp only at hSw); go_simp; try with_reducible rfl)
              try simp only [Act.put, nA, nB, nC]
              refine' wpAnyH_take (i := 21) (oi := ⟨some 44, .load 27 (.tmp 43), 27, "ref.go:89", #[⟨20, .data⟩, ⟨18, .guard⟩], some (18, false)⟩) rfl (by kernel_rfl) (by kernel_rfl) (by kernel_rfl) (fun _ _ _ h => h) (Or.inl ⟨by rfl, _⟩) (by assumption) _
              rotate_left
              · (intro wS hSw; (try dsimp only at hSw); go_simp; try with_reducible rfl)
              try simp only [Act.put, nA, nB, nC]
              refine' wpAnyH_take (i := 22) (oi := ⟨some 45, .indexAddr 117 (.tmp 42) (.tmp 44), 0, "ref.go:89", #[⟨19, .data⟩, ⟨21, .data⟩, ⟨18, .guard⟩], some (18, false)⟩) rfl (by kernel_rfl) (by kernel_rfl) (by kernel_rfl) (fun _ _ _ h => h) (Or.inl ⟨by rfl, _⟩) (by assumption) _
              rotate_left
              · (intro wS hSw; (try dsimp only at hSw); go_simp; try with_reducible rfl)
              try simp only [Act.put, nA, nB, nC]
              refine' wpAnyH_take (i := 23) (oi := ⟨some 46, .load 4 (.tmp 45), 4, "ref.go:89", #[⟨22, .data⟩, ⟨18, .guard⟩], some (18, false)⟩) rfl (by kernel_rfl) (by kernel_rfl) (by kernel_rfl) (fun _ _ _ h => h) (Or.inl ⟨by rfl, _⟩) (by assumption) _
              rotate_left
              · (intro wS hSw; (try dsimp only at hSw); go_simp; try with_reducible rfl)
              try simp only [Act.put, nA, nB, nC]
              refine' wpAnyH_take (i := 24) (oi := ⟨some 47, .pick (.tmp 41) (.const (.bool true)) (.tmp 46), 4, "ref.go:89", #[⟨18, .data⟩, ⟨23, .data⟩], none⟩) rfl (by kernel_rfl) (by kernel_rfl) (by kernel_rfl) (fun _ _ _ h => h) (Or.inl ⟨by rfl, _⟩) (by assumption) _
              rotate_left
              · (intro wS hSw; (try dsimp only at hSw); go_simp; try with_reducible rfl)
              try simp only [Act.put, nA, nB, nC]
              refine wpAnyH_done (by kernel_rfl) ?_ _
              have b6' : Below w4.heap.size w4 w6 := b5'.trans (b6.mono hz5)
              have B6 : Hid (Below N w w6) := B4.out.trans (b6'.mono (Nat.le_of_lt hzN))
              have M6 := Lib.hid (M4.out.below b6')
              have E6 := Lib.hid (heap_below E4.out b6' hz4)
              have F6 := Lib.hid (heap_below F4.out b6' hzN)
              clear b5 b5' b6 b6' hHeld c0 c1 f0 f1 gq hz5
              have c0 := heap_cell E6.out (o := 0)
              have mq := M6.out.cell h3
              have mf := M6.out.free pg
              go_upto_region 8 with fail
              with_reducible refine wp_region_list ?_
              (with_reducible refine wpList_plain rfl ?_); intro K hK; go_simp; (first | with_reducible refine hK _ _ ?_ | refine hK _ _ ?_); clear hK K; try simp only [Act.put, nA, nB, nC]
              (with_reducible refine wpList_plain rfl ?_); intro K hK; go_simp; (first | with_reducible refine hK _ _ ?_ | refine hK _ _ ?_); clear hK K; try simp only [Act.put, nA, nB, nC]
              (with_reducible refine wpList_plain rfl ?_); intro K hK; go_simp; (first | with_reducible refine hK _ _ ?_ | refine hK _ _ ?_); clear hK K; try simp only [Act.put, nA, nB, nC]
              (with_reducible refine wpList_plain rfl ?_); intro K hK; go_simp; (first | with_reducible refine hK _ _ ?_ | refine hK _ _ ?_); clear hK K; try simp only [Act.put, nA, nB, nC]
              (with_reducible refine wpList_plain rfl ?_); intro K hK; go_simp; (first | with_reducible refine hK _ _ ?_ | refine hK _ _ ?_); clear hK K; try simp only [Act.put, nA, nB, nC]
              have hz6 : g < w6.heap.size := M6.out.lt
              obtain ⟨w7, hw7⟩ : ∃ W, w6.setCell ⟨g, pg, none⟩ (.bool true) = W := ⟨_, rfl⟩
              have mm := Mod.set (S := fun k => k = g) (o := pg) w6 rfl (.bool true)
              have M7 := Lib.hid (M6.out.put h3)
              rw [hw7] at mm M7
              rw [hw7]
              have E7 := Lib.hid (mm.heap E6.out (by omega))
              have F7 := Lib.hid (mm.heap F6.out (by omega))
              have B7 : Hid (Below N w w7) := B6.out.trans (mm.below (n := N) (fun k hk e => by omega) (by omega))
              clear hw7 mm mq mf c0 M6 E6 F6 B6
              go_upto_region 10 with fail
              go_loopw [10] (fun iv wr3 => ∃ (i : Nat) (ac : List Nat), i ≤ nx ∧ Hid (markGo xs (pg :: acc) = markGo (xs.drop i) ac) ∧ Hid (BitM wr3 g pages ac) ∧ Hid (wr3.heap[bb]? = some (.cells #[.int .u32 (pg : Int), .slice nad nx nn] 64 (0, 0))) ∧ Hid (wr3.heap[N]? = some (.cells #[.int .i64 a, .int .i64 b] 23 (0, 0))) ∧ Hid (Below N w wr3) ∧ iv = .int .i64 (i : Int)) (fun iv _ => nx - (intOf iv).toNat)
              case atStart => exact ⟨0, pg :: acc, Nat.zero_le _, rfl, M7, E7, F7, B7, rfl⟩
              case round =>
                obtain ⟨i, ac, hi, HG, HM, HE3, HF, HB, rfl⟩ := hrel
                have c1 := heap_cell HE3.out (o := 1)
                by_cases hli : i < nx
                case neg =>
                  have ii : ¬ (i : Int) < (nx : Int) := by omega
                  have hg2 : markGo xs (pg :: acc) = some ac := by
                    rw [HG.out, List.drop_of_length_le (by rw [HNX.out]; omega)]
                    rfl
                  have HSF : Hid (rightGo E pages cs [] = rightGo E pages (cs.drop k9) ac) := by show _ = _; rw [HGO.out, hg2, HK9.out]
                  clear hli hg2
                  go_wp2_with fail
                  exact ⟨⟨k9, ac, hk3, HSF, HM, HF, HB, rfl⟩, by simp only [intOf, Int.toNat_natCast]; exact hk4⟩
                case pos =>
                  have ii : (i : Int) < (nx : Int) := by omega
                  have hix : i < xs.length := by have := HNX.out; omega
                  obtain ⟨a9, c9, e9, _, g9⟩ := (HU.out.below (by rw [HN.out]; exact HB.out)).form
                  obtain ⟨b9, o9, e8, hc9⟩ := g9 (by omega)
                  have e7 := (Value.slice.inj e9).1
                  rw [e8] at e7
                  subst e7
                  have h1 := hc9 i hix
                  have hyr : xs[i] < pages := by
                    have h := ((risR_iff E pages xs).1 HRI.out).2 i hix
                    have e : xs.getD i 0 = xs[i] := by simp [List.getD, hix]
                    have := h.2.1
                    rw [e] at this
                    exact this
                  have hdr : markGo (xs.drop i) ac = if ac.contains xs[i] = true then none else markGo (xs.drop (i + 1)) (xs[i] :: ac) := by
                    rw [List.drop_eq_getElem_cons hix, markGo]
                  obtain ⟨y, hy⟩ : ∃ y, xs[i] = y := ⟨_, rfl⟩
                  rw [hy] at h1 hyr hdr
                  unfold uN at h1
                  have HDR := Lib.hid hdr
                  obtain ⟨i9, hi9⟩ : ∃ i9 : Nat, i9 = i + 1 := ⟨_, rfl⟩
                  have iw1 : (i : Int) + 1 = (i9 : Int) := by omega
                  have iw2 : IntKind.i64.wrap (i9 : Int) = (i9 : Int) := IntWalk.i64_in _ (by have := HU.out.form; obtain ⟨_, _, _, h2, _⟩ := this; omega)
                  have hi3 : i9 ≤ nx := by omega
                  have hi4 : nx - i9 < nx - i := by omega
                  have HI9 := Lib.hid hi9
                  have iy : (y : Int) < (pages : Int) := by omega
                  have mq := HM.out.cell hyr
                  have mf := HM.out.free y
                  obtain ⟨t, ht⟩ : ∃ t, ac.contains y = t := ⟨_, rfl⟩
                  rw [ht] at mq
                  have HT := Lib.hid ht
                  clear hdr hy hi9 hc9 e9 e8 g9 hix hli ht
                  cases t
                  case true =>
                    have hno : rightGo E pages cs [] = false := by rw [HGO.out, HG.out, HDR.out, HT.out]; rfl
                    have HR := Lib.hid (HRet.out wr false hno HB.out)
                    clear hno
                    go_wp2_with fail
                    exact HR.out
                  case false =>
                    have HG2 : Hid (markGo xs (pg :: acc) = markGo (xs.drop i9) (y :: ac)) := by show _ = _; rw [HG.out, HDR.out, HT.out, HI9.out]; rfl
                    have hgz : g < wr.heap.size := HM.out.lt
                    go_upto_region 14 with fail
                    with_reducible refine wp_region_list ?_
                    (with_reducible refine wpList_plain rfl ?_); intro K hK; go_simp; (first | with_reducible refine hK _ _ ?_ | refine hK _ _ ?_); clear hK K; try simp only [Act.put, nA, nB, nC]
                    (with_reducible refine wpList_plain rfl ?_); intro K hK; go_simp; (first | with_reducible refine hK _ _ ?_ | refine hK _ _ ?_); clear hK K; try simp only [Act.put, nA, nB, nC]
                    (with_reducible refine wpList_plain rfl ?_); intro K hK; go_simp; (first | with_reducible refine hK _ _ ?_ | refine hK _ _ ?_); clear hK K; try simp only [Act.put, nA, nB, nC]
                    (with_reducible refine wpList_plain rfl ?_); intro K hK; go_simp; (first | with_reducible refine hK _ _ ?_ | refine hK _ _ ?_); clear hK K; try simp only [Act.put, nA, nB, nC]
                    (with_reducible refine wpList_plain rfl ?_); intro K hK; go_simp; (first | with_reducible refine hK _ _ ?_ | refine hK _ _ ?_); clear hK K; try simp only [Act.put, nA, nB, nC]
                    (with_reducible refine wpList_plain rfl ?_); intro K hK; go_simp; (first | with_reducible refine hK _ _ ?_ | refine hK _ _ ?_); clear hK K; try simp only [Act.put, nA, nB, nC]
                    (with_reducible refine wpList_plain rfl ?_); intro K hK; go_simp; (first | with_reducible refine hK _ _ ?_ | refine hK _ _ ?_); clear hK K; try simp only [Act.put, nA, nB, nC]
                    (with_reducible refine wpList_plain rfl ?_); intro K hK; go_simp; (first | with_reducible refine hK _ _ ?_ | refine hK _ _ ?_); clear hK K; try simp only [Act.put, nA, nB, nC]
                    obtain ⟨w8, hw8⟩ : ∃ W, wr.setCell ⟨g, y, none⟩ (.bool true) = W := ⟨_, rfl⟩
                    have mm := Mod.set (S := fun k => k = g) (o := y) wr rfl (.bool true)
                    have M8 := Lib.hid (HM.out.put hyr)
                    rw [hw8] at mm M8
                    rw [hw8]
                    have E8 := Lib.hid (mm.heap HE3.out (by omega))
                    have F8 := Lib.hid (mm.heap HF.out (by omega))
                    have B8 : Hid (Below N w w8) := HB.out.trans (mm.below (n := N) (fun k hk e => by omega) (by omega))
                    clear hw8 mm mq mf c1 h1 HM HE3 HF HB HG
                    go_wp2_with fail
                    exact ⟨⟨i9, y :: ac, hi3, HG2, M8, E8, F8, B8, rfl⟩, by simp only [intOf, Int.toNat_natCast]; exact hi4⟩
end Go.Proofs.Ytkngmnfgdlnddaa

