/-
 Steps of the fourth and fifth kind, refused.
-/
import Derived.Test.YtihbhpggpnmifaaHI
set_option linter.unusedSimpArgs false
set_option linter.unusedVariables false
namespace Go.Proofs.Ytihbhpggpnmifaa
open Go.RowKit Go.Lib Hw
set_option maxRecDepth 20000 in
set_option maxHeartbeats 8000000 in
theorem step_4_no (w : World) (q off : Nat) (cs : List Value) (B p b : Nat) (lv rv : Value) (wd : Nat) (L : List Dg) (who : Int) (texts digs : Value) (n s : Nat) (h : Hid (PR w q off cs B p b lv rv wd L)) (hw : 1 ≤ wd) (hn : L.length < s ∨ s ≤ n) (hn64 : n < 18446744073709551616) (hs64 : s < 18446744073709551616) :
  Calls Try.prog 37 #[.pointer (some ⟨q, 0, none⟩), .pointer (some ⟨q, off, none⟩), stepV 4 who texts digs n s] w fun e w' => e = .returned (.bool true) ∧ Below w.heap.size w w' := by
 obtain ⟨rad, rcap, hrv, hrf⟩ := h.out.row.shape
 subst hrv
 have hLl := h.out.log.len
 obtain ⟨N, hN⟩ : ∃ N, w.heap.size = N := ⟨_, rfl⟩
 have HN := Lib.hid hN
 have Hn := Lib.hid hn
 rw [hN]
 clear hN hrf hn
 unfold stepV
 go_enter Try.func37, Try.ntmps37
 go_upto_region 0 with fail
 with_reducible refine wp_region_list ?_
 refine wpList_boxB rfl _ _ rfl N HN.out #[.int .i64 4, .int .i64 who, texts, digs, .int .u64 (n : Int), .int .u64 (s : Int)] rfl ?_
 intro w0 e0 b0 z0
 try simp only [Act.put,nA,nB,nC]
 (with_reducible refine wpList_plain rfl ?_); intro K hK; go_simp; (with_reducible refine hK _ _ ?_); clear hK K; try simp only [Act.put,nA,nB,nC]
 have H0 := Lib.hid (h.out.low (by rw [HN.out]; exact b0))
 have B0 := Lib.hid b0
 have E0 : Hid (SBx w0 N 4 who texts digs n s) := e0
 have g0 := H0.out.cell off _ H0.out.c0
 have g2 := H0.out.cell (off + 2) _ H0.out.c2
 have s0 := heap_cell e0 (o := 0)
 have s4 : w0.cell? ⟨N, 4, none⟩ = some (.int .u64 (n : Int)) := heap_cell e0 (o := 4)
 have s5 : w0.cell? ⟨N, 5, none⟩ = some (.int .u64 (s : Int)) := heap_cell e0 (o := 5)
 have LD : Hid (LogB w0.drew B p b lv wd L) := H0.out.log.drew
 have wL := IntWalk.u64_in (L.length : Int) (by omega)
 clear h b0 e0
 go_upto_region 34 with fail
 clear s0 g2
 refine wp_region_held_drew (S := fun W => W.cell? ⟨q, off, none⟩ = some (.pointer (some ⟨p, 0, none⟩)) ∧ W.cell? ⟨N, 4, none⟩ = some (.int .u64 (n : Int)) ∧ W.cell? ⟨N, 5, none⟩ = some (.int .u64 (s : Int))) (by kernel_rfl) ⟨g0, s4, s5⟩ (fun hHeld => ?_)
 refine' tQ 0 ⟨some 249, .move (.tmp 1), 72, "law.go:115", #[], none⟩ rfl (by kernel_rfl) (Or.inl ⟨by rfl, _⟩) _; rotate_left; · (intro s h; (try dsimp only at h); go_simp; try with_reducible rfl)
 try simp only [Act.put,nA,nB,nC]
 refine' tQ 1 ⟨some 250, .nilCheck (.tmp 249), 0, "law.go:115", #[⟨0, .data⟩], none⟩ rfl (by kernel_rfl) (Or.inl ⟨by rfl, _⟩) _; rotate_left; · (intro s h; (try dsimp only at h); go_simp; try with_reducible rfl)
 try simp only [Act.put,nA,nB,nC]
 refine' tQ 2 ⟨some 251, .fieldAddr 68 (.tmp 250) 0, 0, "law.go:115", #[⟨1, .data⟩], none⟩ rfl (by kernel_rfl) (Or.inl ⟨by rfl, _⟩) _; rotate_left; · (intro s h; (try dsimp only at h); go_simp; try with_reducible rfl)
 try simp only [Act.put,nA,nB,nC]
 refine' tQ 3 ⟨some 252, .load 40 (.tmp 251), 40, "law.go:115", #[⟨2, .data⟩], none⟩ rfl (by kernel_rfl) (Or.inl ⟨by rfl, _⟩) _; rotate_left; · (intro s h; (try dsimp only at h); go_simp; try with_reducible rfl)
 try simp only [Act.put,nA,nB,nC]
 refine' tQ 4 ⟨some 253, .fieldAddr 74 (.tmp 5) 4, 0, "law.go:115", #[], none⟩ rfl (by kernel_rfl) (Or.inl ⟨by rfl, _⟩) _; rotate_left; · (intro s h; (try dsimp only at h); go_simp; try with_reducible rfl)
 try simp only [Act.put,nA,nB,nC]
 refine' tQ 5 ⟨some 254, .load 29 (.tmp 253), 29, "law.go:115", #[⟨4, .data⟩], none⟩ rfl (by kernel_rfl) (Or.inl ⟨by rfl, _⟩) _; rotate_left; · (intro s h; (try dsimp only at h); go_simp; try with_reducible rfl)
 try simp only [Act.put,nA,nB,nC]
 refine' tQ 6 ⟨some 255, .fieldAddr 74 (.tmp 5) 5, 0, "law.go:115", #[], none⟩ rfl (by kernel_rfl) (Or.inl ⟨by rfl, _⟩) _; rotate_left; · (intro s h; (try dsimp only at h); go_simp; try with_reducible rfl)
 try simp only [Act.put,nA,nB,nC]
 refine' tQ 7 ⟨some 256, .load 29 (.tmp 255), 29, "law.go:115", #[⟨6, .data⟩], none⟩ rfl (by kernel_rfl) (Or.inl ⟨by rfl, _⟩) _; rotate_left; · (intro s h; (try dsimp only at h); go_simp; try with_reducible rfl)
 try simp only [Act.put,nA,nB,nC]
 refine wpAnyH_ready (rs := [8]) (by kernel_rfl) (by simp) ?_
 refine AllReadyH.cons (o := ⟨some 257, .call ⟨.value (.func 27), #[.tmp 252, .tmp 254, .tmp 256], #[40, 29, 29]⟩, 47, "law.go:115", #[⟨3, .data⟩, ⟨5, .data⟩, ⟨7, .data⟩], none⟩) rfl (fun K hK => ?_) AllReadyH.nil
 (go_simp; (go_at_call 27; refine (Trail_no _ B p b lv wd L n s LD hw Hn.out).mono ?_; rintro e w2 ⟨rfl, b2'⟩; have b2 : Below w0.heap.size w0 w2 := Below.trans (Below.refl _ _).drew b2'; have H2 := Lib.hid (H0.out.low b2); have E2 : Hid (SBx w2 N 4 who texts digs n s) := heap_below E0.out b2 (by omega)))
 refine hK.out _ _ ?_ (fun hHeld => ?_)
 ·exact ⟨H2.out.cell off _ H2.out.c0, heap_cell E2.out (o := 4), heap_cell E2.out (o := 5)⟩
 clear hK K
 try simp only [Act.put,nA,nB,nC]
 have B2 := Lib.hid (B0.out.trans (b2.mono (by omega)))
 have hz2 := b2.size
 refine' tQ 9 ⟨some 248, .move (.tmp 257), 47, "law.go:115", #[⟨8, .data⟩], none⟩ rfl (by kernel_rfl) (Or.inl ⟨by rfl, _⟩) _; rotate_left; · (intro s h; (try dsimp only at h); go_simp; try with_reducible rfl)
 try simp only [Act.put,nA,nB,nC]
 refine' tQ 10 ⟨some 258, .extract (.tmp 248) 0, 32, "law.go:115", #[⟨9, .data⟩], none⟩ rfl (by kernel_rfl) (Or.inl ⟨by rfl, _⟩) _; rotate_left; · (intro s h; (try dsimp only at h); go_simp; try with_reducible rfl)
 try simp only [Act.put,nA,nB,nC]
 refine' tQ 11 ⟨some 259, .extract (.tmp 248) 1, 24, "law.go:115", #[⟨9, .data⟩, ⟨12, .gcOnly .lateStores⟩], none⟩ rfl (by kernel_rfl) (Or.inl ⟨by rfl, _⟩) _; rotate_left; · (intro s h; (try dsimp only at h); go_simp; try with_reducible rfl)
 try simp only [Act.put,nA,nB,nC]
 refine' tQ 12 ⟨some 19, .assign (.tmp 258), 32, "law.go:115", #[⟨10, .data⟩, ⟨8, .chain⟩, ⟨0, .phase⟩, ⟨1, .phase⟩, ⟨2, .phase⟩, ⟨3, .phase⟩, ⟨4, .phase⟩, ⟨5, .phase⟩, ⟨6, .phase⟩, ⟨7, .phase⟩, ⟨8, .phase⟩, ⟨9, .phase⟩, ⟨10, .phase⟩, ⟨11, .textOnly .lateStores⟩], none⟩ rfl (by kernel_rfl) (Or.inl ⟨by rfl, _⟩) _; rotate_left; · (intro s h; (try dsimp only at h); go_simp; try with_reducible rfl)
 try simp only [Act.put,nA,nB,nC]
 refine' tQ 13 ⟨some 20, .assign (.tmp 259), 24, "law.go:115", #[⟨11, .data⟩, ⟨12, .chain⟩, ⟨0, .phase⟩, ⟨1, .phase⟩, ⟨2, .phase⟩, ⟨3, .phase⟩, ⟨4, .phase⟩, ⟨5, .phase⟩, ⟨6, .phase⟩, ⟨7, .phase⟩, ⟨8, .phase⟩, ⟨9, .phase⟩, ⟨10, .phase⟩, ⟨11, .phase⟩, ⟨12, .phase⟩], none⟩ rfl (by kernel_rfl) (Or.inl ⟨by rfl, _⟩) _; rotate_left; · (intro s h; (try dsimp only at h); go_simp; try with_reducible rfl)
 try simp only [Act.put,nA,nB,nC]
 refine wpAnyH_done (by kernel_rfl) ?_ _
 clear hHeld b2 b2' H0 E0 B0 LD g0 s4 s5
 have g0 := H2.out.cell off _ H2.out.c0
 have s4 : w2.cell? ⟨N, 4, none⟩ = some (.int .u64 (n : Int)) := heap_cell E2.out (o := 4)
 have s5 : w2.cell? ⟨N, 5, none⟩ = some (.int .u64 (s : Int)) := heap_cell E2.out (o := 5)
 have LD : Hid (LogB w2.drew B p b lv wd L) := H2.out.log.drew
 go_upto_region 35 with fail
 refine wp_region_held_drew (S := fun W => W.cell? ⟨q, off, none⟩ = some (.pointer (some ⟨p, 0, none⟩)) ∧ W.cell? ⟨N, 4, none⟩ = some (.int .u64 (n : Int)) ∧ W.cell? ⟨N, 5, none⟩ = some (.int .u64 (s : Int))) (by kernel_rfl) ⟨g0, s4, s5⟩ (fun hHeld => ?_)
 refine' tQ 0 ⟨some 261, .move (.tmp 1), 72, "law.go:116", #[], none⟩ rfl (by kernel_rfl) (Or.inl ⟨by rfl, _⟩) _; rotate_left; · (intro s h; (try dsimp only at h); go_simp; try with_reducible rfl)
 try simp only [Act.put,nA,nB,nC]
 refine' tQ 1 ⟨some 262, .nilCheck (.tmp 261), 0, "law.go:116", #[⟨0, .data⟩], none⟩ rfl (by kernel_rfl) (Or.inl ⟨by rfl, _⟩) _; rotate_left; · (intro s h; (try dsimp only at h); go_simp; try with_reducible rfl)
 try simp only [Act.put,nA,nB,nC]
 refine' tQ 2 ⟨some 263, .fieldAddr 68 (.tmp 262) 0, 0, "law.go:116", #[⟨1, .data⟩], none⟩ rfl (by kernel_rfl) (Or.inl ⟨by rfl, _⟩) _; rotate_left; · (intro s h; (try dsimp only at h); go_simp; try with_reducible rfl)
 try simp only [Act.put,nA,nB,nC]
 refine' tQ 3 ⟨some 264, .load 40 (.tmp 263), 40, "law.go:116", #[⟨2, .data⟩], none⟩ rfl (by kernel_rfl) (Or.inl ⟨by rfl, _⟩) _; rotate_left; · (intro s h; (try dsimp only at h); go_simp; try with_reducible rfl)
 try simp only [Act.put,nA,nB,nC]
 refine' tQ 4 ⟨some 265, .fieldAddr 74 (.tmp 5) 4, 0, "law.go:116", #[], none⟩ rfl (by kernel_rfl) (Or.inl ⟨by rfl, _⟩) _; rotate_left; · (intro s h; (try dsimp only at h); go_simp; try with_reducible rfl)
 try simp only [Act.put,nA,nB,nC]
 refine' tQ 5 ⟨some 266, .load 29 (.tmp 265), 29, "law.go:116", #[⟨4, .data⟩], none⟩ rfl (by kernel_rfl) (Or.inl ⟨by rfl, _⟩) _; rotate_left; · (intro s h; (try dsimp only at h); go_simp; try with_reducible rfl)
 try simp only [Act.put,nA,nB,nC]
 refine' tQ 6 ⟨some 267, .fieldAddr 74 (.tmp 5) 5, 0, "law.go:116", #[], none⟩ rfl (by kernel_rfl) (Or.inl ⟨by rfl, _⟩) _; rotate_left; · (intro s h; (try dsimp only at h); go_simp; try with_reducible rfl)
 try simp only [Act.put,nA,nB,nC]
 refine' tQ 7 ⟨some 268, .load 29 (.tmp 267), 29, "law.go:116", #[⟨6, .data⟩], none⟩ rfl (by kernel_rfl) (Or.inl ⟨by rfl, _⟩) _; rotate_left; · (intro s h; (try dsimp only at h); go_simp; try with_reducible rfl)
 try simp only [Act.put,nA,nB,nC]
 refine wpAnyH_ready (rs := [8]) (by kernel_rfl) (by simp) ?_
 refine AllReadyH.cons (o := ⟨some 269, .call ⟨.value (.func 27), #[.tmp 264, .tmp 266, .tmp 268], #[40, 29, 29]⟩, 47, "law.go:116", #[⟨3, .data⟩, ⟨5, .data⟩, ⟨7, .data⟩], none⟩) rfl (fun K hK => ?_) AllReadyH.nil
 (go_simp; (go_at_call 27; refine (Trail_no _ B p b lv wd L n s LD hw Hn.out).mono ?_; rintro e w3 ⟨rfl, b3'⟩; have b3 : Below w2.heap.size w2 w3 := Below.trans (Below.refl _ _).drew b3'; have H3 := Lib.hid (H2.out.low b3); have E3 : Hid (SBx w3 N 4 who texts digs n s) := heap_below E2.out b3 (by omega)))
 refine hK.out _ _ ?_ (fun hHeld => ?_)
 ·exact ⟨H3.out.cell off _ H3.out.c0, heap_cell E3.out (o := 4), heap_cell E3.out (o := 5)⟩
 clear hK K
 try simp only [Act.put,nA,nB,nC]
 have B3 := Lib.hid (B2.out.trans (b3.mono (by omega)))
 refine' tQ 9 ⟨some 260, .move (.tmp 269), 47, "law.go:116", #[⟨8, .data⟩], none⟩ rfl (by kernel_rfl) (Or.inl ⟨by rfl, _⟩) _; rotate_left; · (intro s h; (try dsimp only at h); go_simp; try with_reducible rfl)
 try simp only [Act.put,nA,nB,nC]
 refine' tQ 10 ⟨some 270, .extract (.tmp 260) 0, 32, "law.go:116", #[⟨9, .data⟩], none⟩ rfl (by kernel_rfl) (Or.inl ⟨by rfl, _⟩) _; rotate_left; · (intro s h; (try dsimp only at h); go_simp; try with_reducible rfl)
 try simp only [Act.put,nA,nB,nC]
 refine' tQ 11 ⟨some 271, .extract (.tmp 260) 1, 24, "law.go:116", #[⟨9, .data⟩, ⟨12, .gcOnly .lateStores⟩], none⟩ rfl (by kernel_rfl) (Or.inl ⟨by rfl, _⟩) _; rotate_left; · (intro s h; (try dsimp only at h); go_simp; try with_reducible rfl)
 try simp only [Act.put,nA,nB,nC]
 refine' tQ 12 ⟨some 21, .assign (.tmp 270), 32, "law.go:116", #[⟨10, .data⟩, ⟨8, .chain⟩, ⟨0, .phase⟩, ⟨1, .phase⟩, ⟨2, .phase⟩, ⟨3, .phase⟩, ⟨4, .phase⟩, ⟨5, .phase⟩, ⟨6, .phase⟩, ⟨7, .phase⟩, ⟨8, .phase⟩, ⟨9, .phase⟩, ⟨10, .phase⟩, ⟨11, .textOnly .lateStores⟩], none⟩ rfl (by kernel_rfl) (Or.inl ⟨by rfl, _⟩) _; rotate_left; · (intro s h; (try dsimp only at h); go_simp; try with_reducible rfl)
 try simp only [Act.put,nA,nB,nC]
 refine' tQ 13 ⟨some 22, .assign (.tmp 271), 24, "law.go:116", #[⟨11, .data⟩, ⟨12, .chain⟩, ⟨0, .phase⟩, ⟨1, .phase⟩, ⟨2, .phase⟩, ⟨3, .phase⟩, ⟨4, .phase⟩, ⟨5, .phase⟩, ⟨6, .phase⟩, ⟨7, .phase⟩, ⟨8, .phase⟩, ⟨9, .phase⟩, ⟨10, .phase⟩, ⟨11, .phase⟩, ⟨12, .phase⟩], none⟩ rfl (by kernel_rfl) (Or.inl ⟨by rfl, _⟩) _; rotate_left; · (intro s h; (try dsimp only at h); go_simp; try with_reducible rfl)
 try simp only [Act.put,nA,nB,nC]
 refine wpAnyH_done (by kernel_rfl) ?_ _
 clear hHeld b3 b3' H2 E2 B2 LD g0 s4 s5
 have s4 : w3.cell? ⟨N, 4, none⟩ = some (.int .u64 (n : Int)) := heap_cell E3.out (o := 4)
 have s5 : w3.cell? ⟨N, 5, none⟩ = some (.int .u64 (s : Int)) := heap_cell E3.out (o := 5)
 by_cases hbig : L.length < s
 ·have d1 : decide (L.length < s) = true := decide_eq_true hbig
  have d2 : decide ((L.length : Int) < (s : Int)) = true := decide_eq_true (by omega)
  go_wp2_with fail
  go_ret
  exact ⟨rfl, B3.out⟩
 ·have hns := Hn.out.resolve_left hbig
  have d1 : decide (L.length < s) = false := decide_eq_false hbig
  have d2 : decide ((L.length : Int) < (s : Int)) = false := decide_eq_false (by omega)
  have d3 : decide (s ≤ n) = true := decide_eq_true hns
  have d4 : decide ((s : Int) ≤ (n : Int)) = true := decide_eq_true (by omega)
  go_wp2_with fail
  go_ret
  exact ⟨rfl, B3.out⟩
set_option maxRecDepth 20000 in
set_option maxHeartbeats 8000000 in
theorem step_5_no (w : World) (q off : Nat) (cs : List Value) (B p b : Nat) (lv rv : Value) (wd : Nat) (L : List Dg) (who : Int) (texts digs : Value) (n s : Nat) (h : Hid (PR w q off cs B p b lv rv wd L)) (hw : 1 ≤ wd) (hn : L.length < s ∨ s < n) (hn64 : n < 18446744073709551616) (hs64 : s < 18446744073709551616) :
  Calls Try.prog 37 #[.pointer (some ⟨q, 0, none⟩), .pointer (some ⟨q, off, none⟩), stepV 5 who texts digs n s] w fun e w' => e = .returned (.bool true) ∧ Below w.heap.size w w' := by
 obtain ⟨rad, rcap, hrv, hrf⟩ := h.out.row.shape
 subst hrv
 have hLl := h.out.log.len
 obtain ⟨N, hN⟩ : ∃ N, w.heap.size = N := ⟨_, rfl⟩
 have HN := Lib.hid hN
 have Hn := Lib.hid hn
 rw [hN]
 clear hN hrf hn
 unfold stepV
 go_enter Try.func37, Try.ntmps37
 go_upto_region 0 with fail
 with_reducible refine wp_region_list ?_
 refine wpList_boxB rfl _ _ rfl N HN.out #[.int .i64 5, .int .i64 who, texts, digs, .int .u64 (n : Int), .int .u64 (s : Int)] rfl ?_
 intro w0 e0 b0 z0
 try simp only [Act.put,nA,nB,nC]
 (with_reducible refine wpList_plain rfl ?_); intro K hK; go_simp; (with_reducible refine hK _ _ ?_); clear hK K; try simp only [Act.put,nA,nB,nC]
 have H0 := Lib.hid (h.out.low (by rw [HN.out]; exact b0))
 have B0 := Lib.hid b0
 have E0 : Hid (SBx w0 N 5 who texts digs n s) := e0
 have g0 := H0.out.cell off _ H0.out.c0
 have g2 := H0.out.cell (off + 2) _ H0.out.c2
 have s0 := heap_cell e0 (o := 0)
 have s4 : w0.cell? ⟨N, 4, none⟩ = some (.int .u64 (n : Int)) := heap_cell e0 (o := 4)
 have s5 : w0.cell? ⟨N, 5, none⟩ = some (.int .u64 (s : Int)) := heap_cell e0 (o := 5)
 have LD : Hid (LogB w0.drew B p b lv wd L) := H0.out.log.drew
 have wL := IntWalk.u64_in (L.length : Int) (by omega)
 clear h b0 e0
 go_upto_region 40 with fail
 clear s0 g2
 refine wp_region_held_drew (S := fun W => W.cell? ⟨q, off, none⟩ = some (.pointer (some ⟨p, 0, none⟩)) ∧ W.cell? ⟨N, 4, none⟩ = some (.int .u64 (n : Int)) ∧ W.cell? ⟨N, 5, none⟩ = some (.int .u64 (s : Int))) (by kernel_rfl) ⟨g0, s4, s5⟩ (fun hHeld => ?_)
 refine' tQ 0 ⟨some 327, .move (.tmp 1), 72, "law.go:122", #[], none⟩ rfl (by kernel_rfl) (Or.inl ⟨by rfl, _⟩) _; rotate_left; · (intro s h; (try dsimp only at h); go_simp; try with_reducible rfl)
 try simp only [Act.put,nA,nB,nC]
 refine' tQ 1 ⟨some 328, .nilCheck (.tmp 327), 0, "law.go:122", #[⟨0, .data⟩], none⟩ rfl (by kernel_rfl) (Or.inl ⟨by rfl, _⟩) _; rotate_left; · (intro s h; (try dsimp only at h); go_simp; try with_reducible rfl)
 try simp only [Act.put,nA,nB,nC]
 refine' tQ 2 ⟨some 329, .fieldAddr 68 (.tmp 328) 0, 0, "law.go:122", #[⟨1, .data⟩], none⟩ rfl (by kernel_rfl) (Or.inl ⟨by rfl, _⟩) _; rotate_left; · (intro s h; (try dsimp only at h); go_simp; try with_reducible rfl)
 try simp only [Act.put,nA,nB,nC]
 refine' tQ 3 ⟨some 330, .load 40 (.tmp 329), 40, "law.go:122", #[⟨2, .data⟩], none⟩ rfl (by kernel_rfl) (Or.inl ⟨by rfl, _⟩) _; rotate_left; · (intro s h; (try dsimp only at h); go_simp; try with_reducible rfl)
 try simp only [Act.put,nA,nB,nC]
 refine' tQ 4 ⟨some 331, .fieldAddr 74 (.tmp 5) 4, 0, "law.go:122", #[], none⟩ rfl (by kernel_rfl) (Or.inl ⟨by rfl, _⟩) _; rotate_left; · (intro s h; (try dsimp only at h); go_simp; try with_reducible rfl)
 try simp only [Act.put,nA,nB,nC]
 refine' tQ 5 ⟨some 332, .load 29 (.tmp 331), 29, "law.go:122", #[⟨4, .data⟩], none⟩ rfl (by kernel_rfl) (Or.inl ⟨by rfl, _⟩) _; rotate_left; · (intro s h; (try dsimp only at h); go_simp; try with_reducible rfl)
 try simp only [Act.put,nA,nB,nC]
 refine' tQ 6 ⟨some 333, .fieldAddr 74 (.tmp 5) 5, 0, "law.go:122", #[], none⟩ rfl (by kernel_rfl) (Or.inl ⟨by rfl, _⟩) _; rotate_left; · (intro s h; (try dsimp only at h); go_simp; try with_reducible rfl)
 try simp only [Act.put,nA,nB,nC]
 refine' tQ 7 ⟨some 334, .load 29 (.tmp 333), 29, "law.go:122", #[⟨6, .data⟩], none⟩ rfl (by kernel_rfl) (Or.inl ⟨by rfl, _⟩) _; rotate_left; · (intro s h; (try dsimp only at h); go_simp; try with_reducible rfl)
 try simp only [Act.put,nA,nB,nC]
 refine wpAnyH_ready (rs := [8]) (by kernel_rfl) (by simp) ?_
 refine AllReadyH.cons (o := ⟨some 335, .call ⟨.value (.func 29), #[.tmp 330, .tmp 332, .tmp 334], #[40, 29, 29]⟩, 47, "law.go:122", #[⟨3, .data⟩, ⟨5, .data⟩, ⟨7, .data⟩], none⟩) rfl (fun K hK => ?_) AllReadyH.nil
 (go_simp; (go_at_call 29; refine (Since_no _ B p b lv wd L n s LD hw Hn.out).mono ?_; rintro e w2 ⟨rfl, b2'⟩; have b2 : Below w0.heap.size w0 w2 := Below.trans (Below.refl _ _).drew b2'; have H2 := Lib.hid (H0.out.low b2); have E2 : Hid (SBx w2 N 5 who texts digs n s) := heap_below E0.out b2 (by omega)))
 refine hK.out _ _ ?_ (fun hHeld => ?_)
 ·exact ⟨H2.out.cell off _ H2.out.c0, heap_cell E2.out (o := 4), heap_cell E2.out (o := 5)⟩
 clear hK K
 try simp only [Act.put,nA,nB,nC]
 have B2 := Lib.hid (B0.out.trans (b2.mono (by omega)))
 have hz2 := b2.size
 refine' tQ 9 ⟨some 326, .move (.tmp 335), 47, "law.go:122", #[⟨8, .data⟩], none⟩ rfl (by kernel_rfl) (Or.inl ⟨by rfl, _⟩) _; rotate_left; · (intro s h; (try dsimp only at h); go_simp; try with_reducible rfl)
 try simp only [Act.put,nA,nB,nC]
 refine' tQ 10 ⟨some 336, .extract (.tmp 326) 0, 32, "law.go:122", #[⟨9, .data⟩], none⟩ rfl (by kernel_rfl) (Or.inl ⟨by rfl, _⟩) _; rotate_left; · (intro s h; (try dsimp only at h); go_simp; try with_reducible rfl)
 try simp only [Act.put,nA,nB,nC]
 refine' tQ 11 ⟨some 337, .extract (.tmp 326) 1, 24, "law.go:122", #[⟨9, .data⟩, ⟨12, .gcOnly .lateStores⟩], none⟩ rfl (by kernel_rfl) (Or.inl ⟨by rfl, _⟩) _; rotate_left; · (intro s h; (try dsimp only at h); go_simp; try with_reducible rfl)
 try simp only [Act.put,nA,nB,nC]
 refine' tQ 12 ⟨some 23, .assign (.tmp 336), 32, "law.go:122", #[⟨10, .data⟩, ⟨8, .chain⟩, ⟨0, .phase⟩, ⟨1, .phase⟩, ⟨2, .phase⟩, ⟨3, .phase⟩, ⟨4, .phase⟩, ⟨5, .phase⟩, ⟨6, .phase⟩, ⟨7, .phase⟩, ⟨8, .phase⟩, ⟨9, .phase⟩, ⟨10, .phase⟩, ⟨11, .textOnly .lateStores⟩], none⟩ rfl (by kernel_rfl) (Or.inl ⟨by rfl, _⟩) _; rotate_left; · (intro s h; (try dsimp only at h); go_simp; try with_reducible rfl)
 try simp only [Act.put,nA,nB,nC]
 refine' tQ 13 ⟨some 24, .assign (.tmp 337), 24, "law.go:122", #[⟨11, .data⟩, ⟨12, .chain⟩, ⟨0, .phase⟩, ⟨1, .phase⟩, ⟨2, .phase⟩, ⟨3, .phase⟩, ⟨4, .phase⟩, ⟨5, .phase⟩, ⟨6, .phase⟩, ⟨7, .phase⟩, ⟨8, .phase⟩, ⟨9, .phase⟩, ⟨10, .phase⟩, ⟨11, .phase⟩, ⟨12, .phase⟩], none⟩ rfl (by kernel_rfl) (Or.inl ⟨by rfl, _⟩) _; rotate_left; · (intro s h; (try dsimp only at h); go_simp; try with_reducible rfl)
 try simp only [Act.put,nA,nB,nC]
 refine wpAnyH_done (by kernel_rfl) ?_ _
 clear hHeld b2 b2' H0 E0 B0 LD g0 s4 s5
 have g0 := H2.out.cell off _ H2.out.c0
 have s4 : w2.cell? ⟨N, 4, none⟩ = some (.int .u64 (n : Int)) := heap_cell E2.out (o := 4)
 have s5 : w2.cell? ⟨N, 5, none⟩ = some (.int .u64 (s : Int)) := heap_cell E2.out (o := 5)
 have LD : Hid (LogB w2.drew B p b lv wd L) := H2.out.log.drew
 go_upto_region 41 with fail
 refine wp_region_held_drew (S := fun W => W.cell? ⟨q, off, none⟩ = some (.pointer (some ⟨p, 0, none⟩)) ∧ W.cell? ⟨N, 4, none⟩ = some (.int .u64 (n : Int)) ∧ W.cell? ⟨N, 5, none⟩ = some (.int .u64 (s : Int))) (by kernel_rfl) ⟨g0, s4, s5⟩ (fun hHeld => ?_)
 refine' tQ 0 ⟨some 339, .move (.tmp 1), 72, "law.go:123", #[], none⟩ rfl (by kernel_rfl) (Or.inl ⟨by rfl, _⟩) _; rotate_left; · (intro s h; (try dsimp only at h); go_simp; try with_reducible rfl)
 try simp only [Act.put,nA,nB,nC]
 refine' tQ 1 ⟨some 340, .nilCheck (.tmp 339), 0, "law.go:123", #[⟨0, .data⟩], none⟩ rfl (by kernel_rfl) (Or.inl ⟨by rfl, _⟩) _; rotate_left; · (intro s h; (try dsimp only at h); go_simp; try with_reducible rfl)
 try simp only [Act.put,nA,nB,nC]
 refine' tQ 2 ⟨some 341, .fieldAddr 68 (.tmp 340) 0, 0, "law.go:123", #[⟨1, .data⟩], none⟩ rfl (by kernel_rfl) (Or.inl ⟨by rfl, _⟩) _; rotate_left; · (intro s h; (try dsimp only at h); go_simp; try with_reducible rfl)
 try simp only [Act.put,nA,nB,nC]
 refine' tQ 3 ⟨some 342, .load 40 (.tmp 341), 40, "law.go:123", #[⟨2, .data⟩], none⟩ rfl (by kernel_rfl) (Or.inl ⟨by rfl, _⟩) _; rotate_left; · (intro s h; (try dsimp only at h); go_simp; try with_reducible rfl)
 try simp only [Act.put,nA,nB,nC]
 refine' tQ 4 ⟨some 343, .fieldAddr 74 (.tmp 5) 4, 0, "law.go:123", #[], none⟩ rfl (by kernel_rfl) (Or.inl ⟨by rfl, _⟩) _; rotate_left; · (intro s h; (try dsimp only at h); go_simp; try with_reducible rfl)
 try simp only [Act.put,nA,nB,nC]
 refine' tQ 5 ⟨some 344, .load 29 (.tmp 343), 29, "law.go:123", #[⟨4, .data⟩], none⟩ rfl (by kernel_rfl) (Or.inl ⟨by rfl, _⟩) _; rotate_left; · (intro s h; (try dsimp only at h); go_simp; try with_reducible rfl)
 try simp only [Act.put,nA,nB,nC]
 refine' tQ 6 ⟨some 345, .fieldAddr 74 (.tmp 5) 5, 0, "law.go:123", #[], none⟩ rfl (by kernel_rfl) (Or.inl ⟨by rfl, _⟩) _; rotate_left; · (intro s h; (try dsimp only at h); go_simp; try with_reducible rfl)
 try simp only [Act.put,nA,nB,nC]
 refine' tQ 7 ⟨some 346, .load 29 (.tmp 345), 29, "law.go:123", #[⟨6, .data⟩], none⟩ rfl (by kernel_rfl) (Or.inl ⟨by rfl, _⟩) _; rotate_left; · (intro s h; (try dsimp only at h); go_simp; try with_reducible rfl)
 try simp only [Act.put,nA,nB,nC]
 refine wpAnyH_ready (rs := [8]) (by kernel_rfl) (by simp) ?_
 refine AllReadyH.cons (o := ⟨some 347, .call ⟨.value (.func 29), #[.tmp 342, .tmp 344, .tmp 346], #[40, 29, 29]⟩, 47, "law.go:123", #[⟨3, .data⟩, ⟨5, .data⟩, ⟨7, .data⟩], none⟩) rfl (fun K hK => ?_) AllReadyH.nil
 (go_simp; (go_at_call 29; refine (Since_no _ B p b lv wd L n s LD hw Hn.out).mono ?_; rintro e w3 ⟨rfl, b3'⟩; have b3 : Below w2.heap.size w2 w3 := Below.trans (Below.refl _ _).drew b3'; have H3 := Lib.hid (H2.out.low b3); have E3 : Hid (SBx w3 N 5 who texts digs n s) := heap_below E2.out b3 (by omega)))
 refine hK.out _ _ ?_ (fun hHeld => ?_)
 ·exact ⟨H3.out.cell off _ H3.out.c0, heap_cell E3.out (o := 4), heap_cell E3.out (o := 5)⟩
 clear hK K
 try simp only [Act.put,nA,nB,nC]
 have B3 := Lib.hid (B2.out.trans (b3.mono (by omega)))
 refine' tQ 9 ⟨some 338, .move (.tmp 347), 47, "law.go:123", #[⟨8, .data⟩], none⟩ rfl (by kernel_rfl) (Or.inl ⟨by rfl, _⟩) _; rotate_left; · (intro s h; (try dsimp only at h); go_simp; try with_reducible rfl)
 try simp only [Act.put,nA,nB,nC]
 refine' tQ 10 ⟨some 348, .extract (.tmp 338) 0, 32, "law.go:123", #[⟨9, .data⟩], none⟩ rfl (by kernel_rfl) (Or.inl ⟨by rfl, _⟩) _; rotate_left; · (intro s h; (try dsimp only at h); go_simp; try with_reducible rfl)
 try simp only [Act.put,nA,nB,nC]
 refine' tQ 11 ⟨some 349, .extract (.tmp 338) 1, 24, "law.go:123", #[⟨9, .data⟩, ⟨12, .gcOnly .lateStores⟩], none⟩ rfl (by kernel_rfl) (Or.inl ⟨by rfl, _⟩) _; rotate_left; · (intro s h; (try dsimp only at h); go_simp; try with_reducible rfl)
 try simp only [Act.put,nA,nB,nC]
 refine' tQ 12 ⟨some 25, .assign (.tmp 348), 32, "law.go:123", #[⟨10, .data⟩, ⟨8, .chain⟩, ⟨0, .phase⟩, ⟨1, .phase⟩, ⟨2, .phase⟩, ⟨3, .phase⟩, ⟨4, .phase⟩, ⟨5, .phase⟩, ⟨6, .phase⟩, ⟨7, .phase⟩, ⟨8, .phase⟩, ⟨9, .phase⟩, ⟨10, .phase⟩, ⟨11, .textOnly .lateStores⟩], none⟩ rfl (by kernel_rfl) (Or.inl ⟨by rfl, _⟩) _; rotate_left; · (intro s h; (try dsimp only at h); go_simp; try with_reducible rfl)
 try simp only [Act.put,nA,nB,nC]
 refine' tQ 13 ⟨some 26, .assign (.tmp 349), 24, "law.go:123", #[⟨11, .data⟩, ⟨12, .chain⟩, ⟨0, .phase⟩, ⟨1, .phase⟩, ⟨2, .phase⟩, ⟨3, .phase⟩, ⟨4, .phase⟩, ⟨5, .phase⟩, ⟨6, .phase⟩, ⟨7, .phase⟩, ⟨8, .phase⟩, ⟨9, .phase⟩, ⟨10, .phase⟩, ⟨11, .phase⟩, ⟨12, .phase⟩], none⟩ rfl (by kernel_rfl) (Or.inl ⟨by rfl, _⟩) _; rotate_left; · (intro s h; (try dsimp only at h); go_simp; try with_reducible rfl)
 try simp only [Act.put,nA,nB,nC]
 refine wpAnyH_done (by kernel_rfl) ?_ _
 clear hHeld b3 b3' H2 E2 B2 LD g0 s4 s5
 have s4 : w3.cell? ⟨N, 4, none⟩ = some (.int .u64 (n : Int)) := heap_cell E3.out (o := 4)
 have s5 : w3.cell? ⟨N, 5, none⟩ = some (.int .u64 (s : Int)) := heap_cell E3.out (o := 5)
 by_cases hbig : L.length < s
 ·have d1 : decide (L.length < s) = true := decide_eq_true hbig
  have d2 : decide ((L.length : Int) < (s : Int)) = true := decide_eq_true (by omega)
  go_wp2_with fail
  go_ret
  exact ⟨rfl, B3.out⟩
 ·have hns := Hn.out.resolve_left hbig
  have d1 : decide (L.length < s) = false := decide_eq_false hbig
  have d2 : decide ((L.length : Int) < (s : Int)) = false := decide_eq_false (by omega)
  have d3 : decide (s < n) = true := decide_eq_true hns
  have d4 : decide ((s : Int) < (n : Int)) = true := decide_eq_true (by omega)
  go_wp2_with fail
  go_ret
  exact ⟨rfl, B3.out⟩
end Go.Proofs.Ytihbhpggpnmifaa
