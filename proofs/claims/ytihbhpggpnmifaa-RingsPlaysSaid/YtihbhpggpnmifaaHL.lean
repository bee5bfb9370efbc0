/-
 What a step that tells leaves.
-/
import Derived.Test.YtihbhpggpnmifaaHJ
set_option linter.unusedSimpArgs false
set_option linter.unusedVariables false
namespace Go.Proofs.Ytihbhpggpnmifaa
open Go.RowKit Go.Lib Hw
theorem PR.recs {W W' : World} {q off : Nat} {cs cs' : List Value} {B p b : Nat} {lv rv : Value} {wd : Nat} {L : List Dg} (h : PR W q off cs B p b lv rv wd L) (hb : W'.heap[q]? = some (.cells cs'.toArray 71 (0, 0))) (hl : cs'.length = 8) (e0 : cs'[off]? = cs[off]?) (e1 : cs'[off + 1]? = cs[off + 1]?) (e2 : cs'[off + 2]? = cs[off + 2]?) {S : Nat → Prop} (m : Mod S W W') (h2 : ¬ S p) (h3 : ¬ S b) (h4 : ∀ k, lv.ownBlock = some k → ¬ S k) (h5 : ∀ k, rv.ownBlock = some k → ¬ S k) : PR W' q off cs' B p b lv rv wd L :=
 ⟨hb, hl, e0.trans h.c0, e1.trans h.c1, e2.trans h.c2, h.log.mod m h2 h3 h4, h.row.mod m h5, h.qp, h.qb, h.ql, h.qr, h.rp, h.rb, h.rl⟩
def ToldPost (w : World) (q off : Nat) (c0 c1 c2 c3 c4 c5 tv wv : Value) (B p b : Nat) (lv rv : Value) (wd : Nat) (L : List Dg) (ts ws : List Value) (TR : List Dg) (e : Ending) (w' : World) : Prop :=
 e = .returned (.bool true) ∧ ∃ tv' wv' va vb vc x y z, PR w' q off [c0, c1, c2, c3, c4, c5, tv', wv'] B p b lv rv wd L ∧ TW w' q B tv' wv' (ts ++ [va, vb]) (ws ++ [vc, vc]) ∧ Mod (fun k => k = b ∨ k = q ∨ tv.ownBlock = some k ∨ wv.ownBlock = some k) w w' ∧
  OwnR w' B va TR ∧ OwnR w' B vb TR ∧ OwnR w' B vc TR ∧ (w.heap.size ≤ x ∧ x ≤ y ∧ y ≤ z) ∧ (∀ k, va.ownBlock = some k → w.heap.size ≤ k ∧ k < x) ∧ (∀ k, vb.ownBlock = some k → x ≤ k ∧ k < y) ∧ (∀ k, vc.ownBlock = some k → y ≤ k ∧ k < z) ∧
  (∀ k, tv'.ownBlock = some k → tv.ownBlock = some k ∨ z ≤ k) ∧ (∀ k, wv'.ownBlock = some k → wv.ownBlock = some k ∨ z ≤ k)
end Go.Proofs.Ytihbhpggpnmifaa
namespace Go.Proofs.Ytihbhpggpnmifaa
open Go.RowKit Go.Lib Hw
set_option maxRecDepth 20000 in
set_option maxHeartbeats 8000000 in
theorem step_4_yes (w : World) (q off : Nat) (c0 c1 c2 c3 c4 c5 tv wv : Value) (B p b : Nat) (lv rv : Value) (wd : Nat) (L : List Dg) (ts ws : List Value) (who : Int) (texts digs : Value) (n s : Nat) (h : Hid (PR w q off [c0, c1, c2, c3, c4, c5, tv, wv] B p b lv rv wd L)) (ht : Hid (TW w q B tv wv ts ws)) (hw : 1 ≤ wd) (hwd : wd ≤ 32) (hs : s ≤ L.length) (hns : n < s)
  (hoff : off = 0 ∨ off = 3) (HTb : Hid (∀ k, tv.ownBlock = some k ∨ wv.ownBlock = some k → k ≠ b ∧ k ≠ p ∧ lv.ownBlock ≠ some k ∧ rv.ownBlock ≠ some k)) (hB : B ≤ w.heap.size) (htl : ts.length ≤ 5000000000000) (hwl : ws.length ≤ 5000000000000) :
  Calls Try.prog 37 #[.pointer (some ⟨q, 0, none⟩), .pointer (some ⟨q, off, none⟩), stepV 4 who texts digs n s] w (ToldPost w q off c0 c1 c2 c3 c4 c5 tv wv B p b lv rv wd L ts ws (trailP wd L 0 n s)) := by
 obtain ⟨rad, rcap, hrv, hrf⟩ := h.out.row.shape
 subst hrv
 have hLl := h.out.log.len
 have HAll : Hid (All32 L) := h.out.log.all
 have hcap : s ≤ rcap := by have := (h.out.row.drow HAll.out (by omega)).2; obtain ⟨_, _, e, h1, _⟩ := this; simp only [Value.slice.injEq] at e; omega
 obtain ⟨TR, hTR⟩ : ∃ TR, trailP wd L 0 n s = TR := ⟨_, rfl⟩
 rw [hTR]
 obtain ⟨PQ, hPQ⟩ : ∃ PQ, ToldPost w q off c0 c1 c2 c3 c4 c5 tv wv B p b lv (.slice rad L.length rcap) wd L ts ws TR = PQ := ⟨_, rfl⟩
 rw [hPQ]
 have HPQ := Lib.hid hPQ
 clear hPQ
 have hlt : (L.take s).length = s := by rw [List.length_take]; omega
 have hTR2 : trailP wd (L.take s) 0 n s = TR := by
  have h := trail_sub wd L 0 s s 0 n (by omega)
  rw [List.drop_zero] at h
  rw [h, ← hTR]
 have hTa : All32 TR := by rw [← hTR]; exact trail_all32 wd L HAll.out s 0 n (by omega)
 have hTl : TR.length ≤ s := by rw [← hTR]; exact trail_len wd L s 0 n
 have HTR := Lib.hid hTR
 have HTR2 := Lib.hid hTR2
 have HTa := Lib.hid hTa
 have Hlt := Lib.hid hlt
 obtain ⟨N, hN⟩ : ∃ N, w.heap.size = N := ⟨_, rfl⟩
 have HN := Lib.hid hN
 have hqN : q < N := by have := heap_lt h.out.blk; omega
 have HbN : Hid (b < N) := by show _ < _; have := h.out.log.ltb; omega
 have HTB : Hid (∀ k, tv.ownBlock = some k ∨ wv.ownBlock = some k → k < N) := fun k hk => hk.elim (fun e => by have := (ht.out.t.lt k e).2; omega) (fun e => by have := (ht.out.w.lt k e).2; omega)
 have hBN : B ≤ N := by rw [← HN.out]; exact hB
 have hcb := h.out.c0
 clear hN hrf hTR hTR2 hTa hlt hcb
 unfold stepV
 go_enter Try.func37, Try.ntmps37
 go_upto_region 0 with fail
 with_reducible refine wp_region_list ?_
 refine wpList_boxB rfl _ _ rfl N HN.out #[.int .i64 4, .int .i64 who, texts, digs, .int .u64 (n : Int), .int .u64 (s : Int)] rfl ?_
 intro w0 e0 b0 z0
 try simp only [Act.put,nA,nB,nC]
 (with_reducible refine wpList_plain rfl ?_); intro K hK; go_simp; (with_reducible refine hK _ _ ?_); clear hK K; try simp only [Act.put,nA,nB,nC]
 have H0 := Lib.hid (h.out.low (by rw [HN.out]; exact b0))
 have M0 : Hid (Mod (fun k => k = b) w w0) := Mod.of _ (by rw [HN.out]; exact b0)
 have E0 : Hid (SBx w0 N 4 who texts digs n s) := e0
 have g2 := H0.out.cell (off + 2) _ H0.out.c2
 have s0 := heap_cell e0 (o := 0)
 have wL := IntWalk.u64_in (L.length : Int) (by omega)
 clear h b0 e0
 go_upto_region 34 with fail
 clear s0 g2
 have g0 := H0.out.cell off _ H0.out.c0
 have s4 : w0.cell? ⟨N, 4, none⟩ = some (.int .u64 (n : Int)) := heap_cell E0.out (o := 4)
 have s5 : w0.cell? ⟨N, 5, none⟩ = some (.int .u64 (s : Int)) := heap_cell E0.out (o := 5)
 have LD : Hid (LogB w0.drew B p b lv wd L) := H0.out.log.drew
 go_upto_region 34 with fail
 refine wp_region_held_drew (S := fun W => W.cell? ⟨q, off, none⟩ = some (.pointer (some ⟨p, 0, none⟩)) ∧ W.cell? ⟨N, 4, none⟩ = some (.int .u64 (n : Int)) ∧ W.cell? ⟨N, 5, none⟩ = some (.int .u64 (s : Int))) (by kernel_rfl) ⟨g0, s4, s5⟩ (fun hHeld => ?_)
 refine' tQ 0 ⟨some 249, .move (.tmp 1), 72, "law.go:115", #[], none⟩ rfl (by kernel_rfl) (Or.inl ⟨by rfl, _⟩) _; rotate_left; · (intro s h; (try dsimp only at h); go_simp; try with_reducible rfl)
 try simp only [Act.put,nA,nB,nC]
 refine' tQ 1 ⟨some 250, .nilCheck (.tmp 249), 0, "law.go:115", #[⟨0, .data⟩], none⟩ rfl (by kernel_rfl) (Or.inl ⟨by rfl, _⟩) _; rotate_left; · (intro s h; (try dsimp only at h); go_simp; try with_reducible rfl)
 try simp only [Act.put,nA,nB,nC]
 refine' tQ 2 ⟨some 251, .fieldAddr 68 (.tmp 250) 0, 0, "law.go:115", #[⟨1, .data⟩], none⟩ rfl (by kernel_rfl) (Or.inl ⟨by rfl, _⟩) _; rotate_left; · (intro s h; (try dsimp only at h); go_simp; try with_reducible rfl)
 try simp only [Act.put,nA,nB,nC]
 refine' tQ 3 ⟨some 252, .load 40 (.tmp 251), 40, "law.go:115", #[⟨2, .data⟩], none⟩ rfl (by kernel_rfl) (Or.inl ⟨by rfl, _⟩) _; rotate_left; · (intro s h; (try dsimp only at h); go_simp; try with_reducible rfl)
 try simp only [Act.put,nA,nB,nC]
 refine' tQ 4 ⟨some 253, .fieldAddr 74 (.tmp 5) 4, 0, "law.go:115", #[], none⟩ rfl (by kernel_rfl) (Or.inl ⟨by rfl, _⟩) _; rotate_left; · (intro s h; (try dsimp only at h); go_simp; try with_reducible rfl)
 try simp only [Act.put,nA,nB,nC]
 refine' tQ 5 ⟨some 254, .load 29 (.tmp 253), 29, "law.go:115", #[⟨4, .data⟩], none⟩ rfl (by kernel_rfl) (Or.inl ⟨by rfl, _⟩) _; rotate_left; · (intro s h; (try dsimp only at h); go_simp; try with_reducible rfl)
 try simp only [Act.put,nA,nB,nC]
 refine' tQ 6 ⟨some 255, .fieldAddr 74 (.tmp 5) 5, 0, "law.go:115", #[], none⟩ rfl (by kernel_rfl) (Or.inl ⟨by rfl, _⟩) _; rotate_left; · (intro s h; (try dsimp only at h); go_simp; try with_reducible rfl)
 try simp only [Act.put,nA,nB,nC]
 refine' tQ 7 ⟨some 256, .load 29 (.tmp 255), 29, "law.go:115", #[⟨6, .data⟩], none⟩ rfl (by kernel_rfl) (Or.inl ⟨by rfl, _⟩) _; rotate_left; · (intro s h; (try dsimp only at h); go_simp; try with_reducible rfl)
 try simp only [Act.put,nA,nB,nC]
 refine wpAnyH_ready (rs := [8]) (by kernel_rfl) (by simp) ?_
 refine AllReadyH.cons (o := ⟨some 257, .call ⟨.value (.func 27), #[.tmp 252, .tmp 254, .tmp 256], #[40, 29, 29]⟩, 47, "law.go:115", #[⟨3, .data⟩, ⟨5, .data⟩, ⟨7, .data⟩], none⟩) rfl (fun K hK => ?_) AllReadyH.nil
 (go_simp; (go_at_call 27; refine (Trail_yes _ B p b lv wd L n s LD hw hwd hs hns).mono ?_; rintro e wa ⟨va, rfl, owa, awa, lwa, mwa'⟩; rw [HTR.out] at owa; have mwa : Mod (fun k => k = b) w0 wa := (Mod.refl _ w0).drew.then mwa'; have Hwa := Lib.hid (H0.out.logd lwa mwa); have Ewa : Hid (SBx wa N 4 who texts digs n s) := mwa.heap E0.out (by have := HbN.out; omega)))
 refine hK.out _ _ ?_ (fun hHeld => ?_)
 ·exact ⟨Hwa.out.cell off _ Hwa.out.c0, heap_cell Ewa.out (o := 4), heap_cell Ewa.out (o := 5)⟩
 clear hK K
 try simp only [Act.put,nA,nB,nC]
 refine' tQ 9 ⟨some 248, .move (.tmp 257), 47, "law.go:115", #[⟨8, .data⟩], none⟩ rfl (by kernel_rfl) (Or.inl ⟨by rfl, _⟩) _; rotate_left; · (intro s h; (try dsimp only at h); go_simp; try with_reducible rfl)
 try simp only [Act.put,nA,nB,nC]
 refine' tQ 10 ⟨some 258, .extract (.tmp 248) 0, 32, "law.go:115", #[⟨9, .data⟩], none⟩ rfl (by kernel_rfl) (Or.inl ⟨by rfl, _⟩) _; rotate_left; · (intro s h; (try dsimp only at h); go_simp; try with_reducible rfl)
 try simp only [Act.put,nA,nB,nC]
 refine' tQ 11 ⟨some 259, .extract (.tmp 248) 1, 24, "law.go:115", #[⟨9, .data⟩, ⟨12, .gcOnly .lateStores⟩], none⟩ rfl (by kernel_rfl) (Or.inl ⟨by rfl, _⟩) _; rotate_left; · (intro s h; (try dsimp only at h); go_simp; try with_reducible rfl)
 try simp only [Act.put,nA,nB,nC]
 refine' tQ 12 ⟨some 19, .assign (.tmp 258), 32, "law.go:115", #[⟨10, .data⟩, ⟨8, .chain⟩, ⟨0, .phase⟩, ⟨1, .phase⟩, ⟨2, .phase⟩, ⟨3, .phase⟩, ⟨4, .phase⟩, ⟨5, .phase⟩, ⟨6, .phase⟩, ⟨7, .phase⟩, ⟨8, .phase⟩, ⟨9, .phase⟩, ⟨10, .phase⟩, ⟨11, .textOnly .lateStores⟩], none⟩ rfl (by kernel_rfl) (Or.inl ⟨by rfl, _⟩) _; rotate_left; · (intro s h; (try dsimp only at h); go_simp; try with_reducible rfl)
 try simp only [Act.put,nA,nB,nC]
 refine' tQ 13 ⟨some 20, .assign (.tmp 259), 24, "law.go:115", #[⟨11, .data⟩, ⟨12, .chain⟩, ⟨0, .phase⟩, ⟨1, .phase⟩, ⟨2, .phase⟩, ⟨3, .phase⟩, ⟨4, .phase⟩, ⟨5, .phase⟩, ⟨6, .phase⟩, ⟨7, .phase⟩, ⟨8, .phase⟩, ⟨9, .phase⟩, ⟨10, .phase⟩, ⟨11, .phase⟩, ⟨12, .phase⟩], none⟩ rfl (by kernel_rfl) (Or.inl ⟨by rfl, _⟩) _; rotate_left; · (intro s h; (try dsimp only at h); go_simp; try with_reducible rfl)
 try simp only [Act.put,nA,nB,nC]
 refine wpAnyH_done (by kernel_rfl) ?_ _
 have Ma := Lib.hid (M0.out.then mwa)
 have Oa := Lib.hid owa
 have Ya : Hid (∀ k, va.ownBlock = some k → k < wa.heap.size) := fun k hk => (owa.lt k hk).2
 have hza := mwa.size
 clear hHeld g0 s4 s5 LD H0 E0 M0 owa awa lwa mwa mwa'
 have g0 := Hwa.out.cell off _ Hwa.out.c0
 have s4 : wa.cell? ⟨N, 4, none⟩ = some (.int .u64 (n : Int)) := heap_cell Ewa.out (o := 4)
 have s5 : wa.cell? ⟨N, 5, none⟩ = some (.int .u64 (s : Int)) := heap_cell Ewa.out (o := 5)
 have LD : Hid (LogB wa.drew B p b lv wd L) := Hwa.out.log.drew
 go_upto_region 35 with fail
 refine wp_region_held_drew (S := fun W => W.cell? ⟨q, off, none⟩ = some (.pointer (some ⟨p, 0, none⟩)) ∧ W.cell? ⟨N, 4, none⟩ = some (.int .u64 (n : Int)) ∧ W.cell? ⟨N, 5, none⟩ = some (.int .u64 (s : Int))) (by kernel_rfl) ⟨g0, s4, s5⟩ (fun hHeld => ?_)
 refine' tQ 0 ⟨some 261, .move (.tmp 1), 72, "law.go:116", #[], none⟩ rfl (by kernel_rfl) (Or.inl ⟨by rfl, _⟩) _; rotate_left; · (intro s h; (try dsimp only at h); go_simp; try with_reducible rfl)
 try simp only [Act.put,nA,nB,nC]
 refine' tQ 1 ⟨some 262, .nilCheck (.tmp 261), 0, "law.go:116", #[⟨0, .data⟩], none⟩ rfl (by kernel_rfl) (Or.inl ⟨by rfl, _⟩) _; rotate_left; · (intro s h; (try dsimp only at h); go_simp; try with_reducible rfl)
 try simp only [Act.put,nA,nB,nC]
 refine' tQ 2 ⟨some 263, .fieldAddr 68 (.tmp 262) 0, 0, "law.go:116", #[⟨1, .data⟩], none⟩ rfl (by kernel_rfl) (Or.inl ⟨by rfl, _⟩) _; rotate_left; · (intro s h; (try dsimp only at h); go_simp; try with_reducible rfl)
 try simp only [Act.put,nA,nB,nC]
 refine' tQ 3 ⟨some 264, .load 40 (.tmp 263), 40, "law.go:116", #[⟨2, .data⟩], none⟩ rfl (by kernel_rfl) (Or.inl ⟨by rfl, _⟩) _; rotate_left; · (intro s h; (try dsimp only at h); go_simp; try with_reducible rfl)
 try simp only [Act.put,nA,nB,nC]
 refine' tQ 4 ⟨some 265, .fieldAddr 74 (.tmp 5) 4, 0, "law.go:116", #[], none⟩ rfl (by kernel_rfl) (Or.inl ⟨by rfl, _⟩) _; rotate_left; · (intro s h; (try dsimp only at h); go_simp; try with_reducible rfl)
 try simp only [Act.put,nA,nB,nC]
 refine' tQ 5 ⟨some 266, .load 29 (.tmp 265), 29, "law.go:116", #[⟨4, .data⟩], none⟩ rfl (by kernel_rfl) (Or.inl ⟨by rfl, _⟩) _; rotate_left; · (intro s h; (try dsimp only at h); go_simp; try with_reducible rfl)
 try simp only [Act.put,nA,nB,nC]
 refine' tQ 6 ⟨some 267, .fieldAddr 74 (.tmp 5) 5, 0, "law.go:116", #[], none⟩ rfl (by kernel_rfl) (Or.inl ⟨by rfl, _⟩) _; rotate_left; · (intro s h; (try dsimp only at h); go_simp; try with_reducible rfl)
 try simp only [Act.put,nA,nB,nC]
 refine' tQ 7 ⟨some 268, .load 29 (.tmp 267), 29, "law.go:116", #[⟨6, .data⟩], none⟩ rfl (by kernel_rfl) (Or.inl ⟨by rfl, _⟩) _; rotate_left; · (intro s h; (try dsimp only at h); go_simp; try with_reducible rfl)
 try simp only [Act.put,nA,nB,nC]
 refine wpAnyH_ready (rs := [8]) (by kernel_rfl) (by simp) ?_
 refine AllReadyH.cons (o := ⟨some 269, .call ⟨.value (.func 27), #[.tmp 264, .tmp 266, .tmp 268], #[40, 29, 29]⟩, 47, "law.go:116", #[⟨3, .data⟩, ⟨5, .data⟩, ⟨7, .data⟩], none⟩) rfl (fun K hK => ?_) AllReadyH.nil
 (go_simp; (go_at_call 27; refine (Trail_yes _ B p b lv wd L n s LD hw hwd hs hns).mono ?_; rintro e wb ⟨vb, rfl, owb, awb, lwb, mwb'⟩; rw [HTR.out] at owb; have mwb : Mod (fun k => k = b) wa wb := (Mod.refl _ wa).drew.then mwb'; have Hwb := Lib.hid (Hwa.out.logd lwb mwb); have Ewb : Hid (SBx wb N 4 who texts digs n s) := mwb.heap Ewa.out (by have := HbN.out; omega)))
 refine hK.out _ _ ?_ (fun hHeld => ?_)
 ·exact ⟨Hwb.out.cell off _ Hwb.out.c0, heap_cell Ewb.out (o := 4), heap_cell Ewb.out (o := 5)⟩
 clear hK K
 try simp only [Act.put,nA,nB,nC]
 refine' tQ 9 ⟨some 260, .move (.tmp 269), 47, "law.go:116", #[⟨8, .data⟩], none⟩ rfl (by kernel_rfl) (Or.inl ⟨by rfl, _⟩) _; rotate_left; · (intro s h; (try dsimp only at h); go_simp; try with_reducible rfl)
 try simp only [Act.put,nA,nB,nC]
 refine' tQ 10 ⟨some 270, .extract (.tmp 260) 0, 32, "law.go:116", #[⟨9, .data⟩], none⟩ rfl (by kernel_rfl) (Or.inl ⟨by rfl, _⟩) _; rotate_left; · (intro s h; (try dsimp only at h); go_simp; try with_reducible rfl)
 try simp only [Act.put,nA,nB,nC]
 refine' tQ 11 ⟨some 271, .extract (.tmp 260) 1, 24, "law.go:116", #[⟨9, .data⟩, ⟨12, .gcOnly .lateStores⟩], none⟩ rfl (by kernel_rfl) (Or.inl ⟨by rfl, _⟩) _; rotate_left; · (intro s h; (try dsimp only at h); go_simp; try with_reducible rfl)
 try simp only [Act.put,nA,nB,nC]
 refine' tQ 12 ⟨some 21, .assign (.tmp 270), 32, "law.go:116", #[⟨10, .data⟩, ⟨8, .chain⟩, ⟨0, .phase⟩, ⟨1, .phase⟩, ⟨2, .phase⟩, ⟨3, .phase⟩, ⟨4, .phase⟩, ⟨5, .phase⟩, ⟨6, .phase⟩, ⟨7, .phase⟩, ⟨8, .phase⟩, ⟨9, .phase⟩, ⟨10, .phase⟩, ⟨11, .textOnly .lateStores⟩], none⟩ rfl (by kernel_rfl) (Or.inl ⟨by rfl, _⟩) _; rotate_left; · (intro s h; (try dsimp only at h); go_simp; try with_reducible rfl)
 try simp only [Act.put,nA,nB,nC]
 refine' tQ 13 ⟨some 22, .assign (.tmp 271), 24, "law.go:116", #[⟨11, .data⟩, ⟨12, .chain⟩, ⟨0, .phase⟩, ⟨1, .phase⟩, ⟨2, .phase⟩, ⟨3, .phase⟩, ⟨4, .phase⟩, ⟨5, .phase⟩, ⟨6, .phase⟩, ⟨7, .phase⟩, ⟨8, .phase⟩, ⟨9, .phase⟩, ⟨10, .phase⟩, ⟨11, .phase⟩, ⟨12, .phase⟩], none⟩ rfl (by kernel_rfl) (Or.inl ⟨by rfl, _⟩) _; rotate_left; · (intro s h; (try dsimp only at h); go_simp; try with_reducible rfl)
 try simp only [Act.put,nA,nB,nC]
 refine wpAnyH_done (by kernel_rfl) ?_ _
 have Mb := Lib.hid (Ma.out.then mwb)
 have Oa2 := Lib.hid (Oa.out.mod mwb (fun k hk e => by
  have h1 : w0.heap.size ≤ k := (Oa.out.lt k hk).1
  have h2 := HbN.out
  omega))
 have Ob := Lib.hid owb
 have Yb : Hid (∀ k, vb.ownBlock = some k → k < wb.heap.size) := fun k hk => (owb.lt k hk).2
 have hzb := mwb.size
 clear hHeld g0 s4 s5 LD Hwa Ewa Ma Oa owb awb lwb mwb mwb'
 obtain ⟨aad, acap, hva, _⟩ := Oa2.out.shape
 obtain ⟨bad, bcap, hvb, _⟩ := Ob.out.shape
 subst hva
 subst hvb
 have d1 : decide (L.length < s) = false := decide_eq_false (by omega)
 have d2 : decide ((L.length : Int) < (s : Int)) = false := decide_eq_false (by omega)
 have d3 : decide (s ≤ n) = false := decide_eq_false (by omega)
 have d4 : decide ((s : Int) ≤ (n : Int)) = false := decide_eq_false (by omega)
 have g1 := Hwb.out.cell (off + 1) _ Hwb.out.c1
 have g2 := Hwb.out.cell (off + 2) _ Hwb.out.c2
 have s4 : wb.cell? ⟨N, 4, none⟩ = some (.int .u64 (n : Int)) := heap_cell Ewb.out (o := 4)
 have s5 : wb.cell? ⟨N, 5, none⟩ = some (.int .u64 (s : Int)) := heap_cell Ewb.out (o := 5)
 go_upto_region 38 with fail
 clear d1 d2 d3 d4
 have dr : Hid (DRow wb.drew wb.drew.heap.size (.slice rad s rcap) (L.take s)) := Lib.hid ((Hwb.out.row.drow HAll.out (by omega)).take s hs)
 have hqb : q < wb.heap.size := heap_lt Hwb.out.blk
 have isL : (s : Int) ≤ (L.length : Int) := by omega
 have wn := IntWalk.i64_in (n : Int) (by omega)
 have PBb : Hid (PB wb q c0 c1 c2 c3 c4 c5 tv wv) := Hwb.out.blk
 have TWb : Hid (TW wb q B tv wv ts ws) := ht.out.mod Mb.out (fun k hk e => (HTb.out k (.inl hk)).1 e) (fun k hk e => (HTb.out k (.inr hk)).1 e)
 have Ga : Hid (∀ k, (Value.slice aad TR.length acap).ownBlock = some k → N ≤ k) := fun k hk => by
  have h1 : w0.heap.size ≤ k := (Oa2.out.lt k hk).1
  omega
 have Gb : Hid (∀ k, (Value.slice bad TR.length bcap).ownBlock = some k → wa.heap.size ≤ k) := fun k hk => (Ob.out.lt k hk).1
 refine wp_region_held_drew (S := fun W => W.cell? ⟨q, off + 1, none⟩ = some (.int .i64 (wd : Int)) ∧ W.cell? ⟨q, off + 2, none⟩ = some (.slice rad L.length rcap) ∧ W.cell? ⟨N, 4, none⟩ = some (.int .u64 (n : Int)) ∧ W.cell? ⟨N, 5, none⟩ = some (.int .u64 (s : Int))) (by kernel_rfl) ⟨g1, g2, s4, s5⟩ (fun hHeld => ?_)
 refine' tQ 0 ⟨some 297, .move (.tmp 20), 24, "law.go:120", #[], none⟩ rfl (by kernel_rfl) (Or.inl ⟨by rfl, _⟩) _; rotate_left; · (intro s h; (try dsimp only at h); go_simp; try with_reducible rfl)
 try simp only [Act.put,nA,nB,nC]
 refine' tQ 1 ⟨some 298, .binOp .eql 24 (.tmp 297) (.const (.int .i64 0)) 24, 4, "law.go:120", #[⟨0, .data⟩], none⟩ rfl (by kernel_rfl) (Or.inl ⟨by rfl, _⟩) _; rotate_left; · (intro s h; (try dsimp only at h); go_simp; try with_reducible rfl)
 try simp only [Act.put,nA,nB,nC]
 refine' tQ 2 ⟨some 299, .move (.tmp 298), 4, "law.go:120", #[⟨1, .data⟩], none⟩ rfl (by kernel_rfl) (Or.inl ⟨by rfl, _⟩) _; rotate_left; · (intro s h; (try dsimp only at h); go_simp; try with_reducible rfl)
 try simp only [Act.put,nA,nB,nC]
 refine' tQ 3 ⟨some 300, .move (.tmp 22), 24, "law.go:120", #[⟨2, .guard⟩], some (2, true)⟩ rfl (by kernel_rfl) (Or.inl ⟨by rfl, _⟩) _; rotate_left; · (intro s h; (try dsimp only at h); go_simp; try with_reducible rfl)
 try simp only [Act.put,nA,nB,nC]
 refine' tQ 4 ⟨some 301, .binOp .eql 24 (.tmp 300) (.const (.int .i64 0)) 24, 4, "law.go:120", #[⟨3, .data⟩, ⟨2, .guard⟩], some (2, true)⟩ rfl (by kernel_rfl) (Or.inl ⟨by rfl, _⟩) _; rotate_left; · (intro s h; (try dsimp only at h); go_simp; try with_reducible rfl)
 try simp only [Act.put,nA,nB,nC]
 refine' tQ 5 ⟨some 302, .pick (.tmp 299) (.tmp 301) (.const (.bool false)), 4, "law.go:120", #[⟨2, .data⟩, ⟨4, .data⟩], none⟩ rfl (by kernel_rfl) (Or.inl ⟨by rfl, _⟩) _; rotate_left; · (intro s h; (try dsimp only at h); go_simp; try with_reducible rfl)
 try simp only [Act.put,nA,nB,nC]
 refine' tQ 6 ⟨some 303, .move (.tmp 302), 4, "law.go:120", #[⟨5, .data⟩, ⟨2, .chain⟩], none⟩ rfl (by kernel_rfl) (Or.inl ⟨by rfl, _⟩) _; rotate_left; · (intro s h; (try dsimp only at h); go_simp; try with_reducible rfl)
 try simp only [Act.put,nA,nB,nC]
 refine' tQ 7 ⟨some 304, .move (.tmp 0), 66, "law.go:120", #[⟨6, .guard⟩], some (6, true)⟩ rfl (by kernel_rfl) (Or.inl ⟨by rfl, _⟩) _; rotate_left; · (intro s h; (try dsimp only at h); go_simp; try with_reducible rfl)
 try simp only [Act.put,nA,nB,nC]
 refine' tQ 8 ⟨some 305, .move (.tmp 19), 32, "law.go:120", #[⟨6, .guard⟩], some (6, true)⟩ rfl (by kernel_rfl) (Or.inl ⟨by rfl, _⟩) _; rotate_left; · (intro s h; (try dsimp only at h); go_simp; try with_reducible rfl)
 try simp only [Act.put,nA,nB,nC]
 refine' tQ 9 ⟨some 306, .move (.tmp 21), 32, "law.go:120", #[⟨6, .guard⟩], some (6, true)⟩ rfl (by kernel_rfl) (Or.inl ⟨by rfl, _⟩) _; rotate_left; · (intro s h; (try dsimp only at h); go_simp; try with_reducible rfl)
 try simp only [Act.put,nA,nB,nC]
 refine' tQ 10 ⟨some 307, .move (.tmp 1), 72, "law.go:120", #[⟨6, .guard⟩], some (6, true)⟩ rfl (by kernel_rfl) (Or.inl ⟨by rfl, _⟩) _; rotate_left; · (intro s h; (try dsimp only at h); go_simp; try with_reducible rfl)
 try simp only [Act.put,nA,nB,nC]
 refine' tQ 11 ⟨some 308, .nilCheck (.tmp 307), 0, "law.go:120", #[⟨10, .data⟩, ⟨6, .guard⟩], some (6, true)⟩ rfl (by kernel_rfl) (Or.inl ⟨by rfl, _⟩) _; rotate_left; · (intro s h; (try dsimp only at h); go_simp; try with_reducible rfl)
 try simp only [Act.put,nA,nB,nC]
 refine' tQ 12 ⟨some 309, .fieldAddr 68 (.tmp 308) 1, 0, "law.go:120", #[⟨11, .data⟩, ⟨6, .guard⟩], some (6, true)⟩ rfl (by kernel_rfl) (Or.inl ⟨by rfl, _⟩) _; rotate_left; · (intro s h; (try dsimp only at h); go_simp; try with_reducible rfl)
 try simp only [Act.put,nA,nB,nC]
 refine' tQ 13 ⟨some 310, .load 3 (.tmp 309), 3, "law.go:120", #[⟨12, .data⟩, ⟨6, .guard⟩], some (6, true)⟩ rfl (by kernel_rfl) (Or.inl ⟨by rfl, _⟩) _; rotate_left; · (intro s h; (try dsimp only at h); go_simp; try with_reducible rfl)
 try simp only [Act.put,nA,nB,nC]
 refine' tQ 14 ⟨some 311, .fieldAddr 74 (.tmp 5) 4, 0, "law.go:120", #[⟨6, .guard⟩], some (6, true)⟩ rfl (by kernel_rfl) (Or.inl ⟨by rfl, _⟩) _; rotate_left; · (intro s h; (try dsimp only at h); go_simp; try with_reducible rfl)
 try simp only [Act.put,nA,nB,nC]
 refine' tQ 15 ⟨some 312, .load 29 (.tmp 311), 29, "law.go:120", #[⟨14, .data⟩, ⟨6, .guard⟩], some (6, true)⟩ rfl (by kernel_rfl) (Or.inl ⟨by rfl, _⟩) _; rotate_left; · (intro s h; (try dsimp only at h); go_simp; try with_reducible rfl)
 try simp only [Act.put,nA,nB,nC]
 refine' tQ 16 ⟨some 313, .convert 29 3 (.tmp 312), 3, "law.go:120", #[⟨15, .data⟩, ⟨6, .guard⟩], some (6, true)⟩ rfl (by kernel_rfl) (Or.inl ⟨by rfl, _⟩) _; rotate_left; · (intro s h; (try dsimp only at h); go_simp; try with_reducible rfl)
 try simp only [Act.put,nA,nB,nC]
 refine' tQ 17 ⟨some 314, .move (.tmp 1), 72, "law.go:120", #[⟨6, .guard⟩], some (6, true)⟩ rfl (by kernel_rfl) (Or.inl ⟨by rfl, _⟩) _; rotate_left; · (intro s h; (try dsimp only at h); go_simp; try with_reducible rfl)
 try simp only [Act.put,nA,nB,nC]
 refine' tQ 18 ⟨some 315, .nilCheck (.tmp 314), 0, "law.go:120", #[⟨17, .data⟩, ⟨6, .guard⟩], some (6, true)⟩ rfl (by kernel_rfl) (Or.inl ⟨by rfl, _⟩) _; rotate_left; · (intro s h; (try dsimp only at h); go_simp; try with_reducible rfl)
 try simp only [Act.put,nA,nB,nC]
 refine' tQ 19 ⟨some 316, .fieldAddr 68 (.tmp 315) 2, 0, "law.go:120", #[⟨18, .data⟩, ⟨6, .guard⟩], some (6, true)⟩ rfl (by kernel_rfl) (Or.inl ⟨by rfl, _⟩) _; rotate_left; · (intro s h; (try dsimp only at h); go_simp; try with_reducible rfl)
 try simp only [Act.put,nA,nB,nC]
 refine' tQ 20 ⟨some 317, .load 32 (.tmp 316), 32, "law.go:120", #[⟨19, .data⟩, ⟨6, .guard⟩], some (6, true)⟩ rfl (by kernel_rfl) (Or.inl ⟨by rfl, _⟩) _; rotate_left; · (intro s h; (try dsimp only at h); go_simp; try with_reducible rfl)
 try simp only [Act.put,nA,nB,nC]
 refine' tQ 21 ⟨some 318, .fieldAddr 74 (.tmp 5) 5, 0, "law.go:120", #[⟨6, .guard⟩], some (6, true)⟩ rfl (by kernel_rfl) (Or.inl ⟨by rfl, _⟩) _; rotate_left; · (intro s h; (try dsimp only at h); go_simp; try with_reducible rfl)
 try simp only [Act.put,nA,nB,nC]
 refine' tQ 22 ⟨some 319, .load 29 (.tmp 318), 29, "law.go:120", #[⟨21, .data⟩, ⟨6, .guard⟩], some (6, true)⟩ rfl (by kernel_rfl) (Or.inl ⟨by rfl, _⟩) _; rotate_left; · (intro s h; (try dsimp only at h); go_simp; try with_reducible rfl)
 try simp only [Act.put,nA,nB,nC]
 refine' tQ 23 ⟨some 320, .slice 32 (.tmp 317) none (some (.tmp 319)) none, 32, "law.go:120", #[⟨20, .data⟩, ⟨22, .data⟩, ⟨6, .guard⟩], some (6, true)⟩ rfl (by kernel_rfl) (Or.inl ⟨by rfl, _⟩) _; rotate_left; · (intro s h; (try dsimp only at h); go_simp; try with_reducible rfl)
 try simp only [Act.put,nA,nB,nC]
 refine wpAnyH_ready (rs := [24]) (by kernel_rfl) (by simp) ?_
 refine AllReadyH.cons (o := ⟨some 321, .call ⟨.value (.func 69), #[.tmp 310, .tmp 313, .tmp 320], #[3, 3, 32]⟩, 32, "law.go:120", #[⟨13, .data⟩, ⟨16, .data⟩, ⟨23, .data⟩, ⟨6, .chain⟩, ⟨6, .guard⟩], some (6, true)⟩) rfl (fun K hK => ?_) AllReadyH.nil
 (go_simp; (go_at_call 69; refine (TrailOf_any wd hw hwd s n _ (L.take s) _ Hlt.out dr hns (by omega)).mono ?_; rintro e wc ⟨vc, rfl, oc, bc'⟩; rw [HTR2.out] at oc; have bc : Below wb.heap.size wb wc := Below.trans (Below.refl _ _).drew bc'; have Hwc := Lib.hid (Hwb.out.low bc); have Ewc : Hid (SBx wc N 4 who texts digs n s) := heap_below Ewb.out bc (by omega)))
 refine hK.out _ _ ?_ (fun hHeld => ?_)
 ·exact ⟨Hwc.out.cell (off + 1) _ Hwc.out.c1, Hwc.out.cell (off + 2) _ Hwc.out.c2, heap_cell Ewc.out (o := 4), heap_cell Ewc.out (o := 5)⟩
 clear hK K
 try simp only [Act.put,nA,nB,nC]
 have PBc : Hid (PB wc q c0 c1 c2 c3 c4 c5 tv wv) := Hwc.out.blk
 have TWc := Lib.hid (TWb.out.mod (Mod.of (fun _ => False) bc) (fun _ _ h => h) (fun _ _ h => h))
 have Oac := Lib.hid ((Oa2.out.below bc (fun g hg => (Oa2.out.lt g hg).2)).mono (C := B) (by show B ≤ w0.heap.size; omega))
 have Obc := Lib.hid ((Ob.out.below bc (fun g hg => (Ob.out.lt g hg).2)).mono (C := B) (by show B ≤ wa.heap.size; omega))
 have Occ := Lib.hid (oc.mono (C := B) (by show B ≤ wb.heap.size; omega))
 have Gc : Hid (∀ k, vc.ownBlock = some k → wb.heap.size ≤ k ∧ k < wc.heap.size) := fun k hk => oc.lt k hk
 have hzc := bc.size
 have Mc := Lib.hid (Mb.out.then (Mod.of _ bc))
 have HdC : Hid (∀ v, v = Value.slice aad TR.length acap ∨ v = Value.slice bad TR.length bcap ∨ v = vc → ∀ k, v.ownBlock = some k → k ≠ q ∧ tv.ownBlock ≠ some k ∧ wv.ownBlock ≠ some k) := fun v hv k hk => by
  have hk2 : N ≤ k := by
   rcases hv with rfl | rfl | rfl
   ·exact Ga.out k hk
   ·have := Gb.out k hk; omega
   ·have := (Gc.out k hk).1; omega
  exact ⟨by omega, fun e => by have := HTB.out k (.inl e); omega, fun e => by have := HTB.out k (.inr e); omega⟩
 clear bc bc' oc dr PBb TWb
 refine wpAnyH_ready (rs := [25]) (by kernel_rfl) (by simp) ?_
 refine AllReadyH.cons (o := ⟨some 322, .call ⟨.value (.func 68), #[.tmp 304, .tmp 305, .tmp 306, .tmp 321], #[66, 32, 32, 32]⟩, 4, "law.go:120", #[⟨7, .data⟩, ⟨8, .data⟩, ⟨9, .data⟩, ⟨24, .data⟩, ⟨24, .chain⟩, ⟨6, .guard⟩], some (6, true)⟩) rfl (fun K hK => ?_) AllReadyH.nil
 (go_simp; (go_at_call 68; refine (tell_any wc q B c0 c1 c2 c3 c4 c5 tv wv ts ws _ _ vc TR PBc TWc (by omega) (by omega) HTa (by omega) Oac Obc Occ HdC htl hwl).mono ?_; rintro e we ⟨rfl, tv', wv', pe, te, me, n1, n2⟩; have hc' : ∀ i, i < 6 → ([c0, c1, c2, c3, c4, c5, tv', wv'] : List Value)[i]? = ([c0, c1, c2, c3, c4, c5, tv, wv] : List Value)[i]? := (fun i hi => by match i, hi with | 0, _ => rfl | 1, _ => rfl | 2, _ => rfl | 3, _ => rfl | 4, _ => rfl | 5, _ => rfl); have k1 : we.cell? ⟨q, off + 1, none⟩ = some (.int .i64 (wd : Int)) := (by rw [heap_cell pe, List.getElem?_toArray]; exact (hc' (off + 1) (by omega)).trans Hwc.out.c1); have k2 : we.cell? ⟨q, off + 2, none⟩ = some (.slice rad L.length rcap) := (by rw [heap_cell pe, List.getElem?_toArray]; exact (hc' (off + 2) (by omega)).trans Hwc.out.c2); have Ewe : Hid (SBx we N 4 who texts digs n s) := me.heap Ewc.out (fun e => by rcases e with e | e | e; omega; have := HTB.out _ (.inl e); omega; have := HTB.out _ (.inr e); omega)))
 refine hK.out _ _ ?_ (fun hHeld => ?_)
 ·exact ⟨k1, k2, heap_cell Ewe.out (o := 4), heap_cell Ewe.out (o := 5)⟩
 clear hK K
 try simp only [Act.put,nA,nB,nC]
 have Me := Lib.hid ((Mc.out.mono (T := fun k => k = b ∨ k = q ∨ tv.ownBlock = some k ∨ wv.ownBlock = some k) (fun k hk e => .inl e)).then (me.mono (fun k hk e => .inr e)))
 have Pe := Lib.hid pe
 have Te := Lib.hid te
 have Re : Hid (PR we q off [c0, c1, c2, c3, c4, c5, tv', wv'] B p b lv (.slice rad L.length rcap) wd L) := Hwc.out.recs pe rfl (hc' off (by omega)) (hc' (off + 1) (by omega)) (hc' (off + 2) (by omega)) me (fun e => e.elim (fun e => Hwc.out.qp e.symm) (fun e => (HTb.out _ e).2.1 rfl)) (fun e => e.elim (fun e => Hwc.out.qb e.symm) (fun e => (HTb.out _ e).1 rfl)) (fun k hk e => e.elim (fun e => Hwc.out.ql (by rw [hk, e])) (fun e => (HTb.out _ e).2.2.1 hk)) (fun k hk e => e.elim (fun e => Hwc.out.qr (by rw [hk, e])) (fun e => (HTb.out _ e).2.2.2 hk))
 have hdd : ∀ v, v = Value.slice aad TR.length acap ∨ v = Value.slice bad TR.length bcap ∨ v = vc → ∀ k, v.ownBlock = some k → ¬ (k = q ∨ tv.ownBlock = some k ∨ wv.ownBlock = some k) := fun v hv k hk e => e.elim (HdC.out v hv k hk).1 (fun e => e.elim (HdC.out v hv k hk).2.1 (HdC.out v hv k hk).2.2)
 have Ae := Lib.hid (Oac.out.mod me (hdd _ (.inl rfl)))
 have Be := Lib.hid (Obc.out.mod me (hdd _ (.inr (.inl rfl))))
 have Ce := Lib.hid (Occ.out.mod me (hdd _ (.inr (.inr rfl))))
 have N1 := Lib.hid n1
 have N2 := Lib.hid n2
 clear pe te me n1 n2 hc' k1 k2 hdd
 refine' tQ 26 ⟨some 323, .pick (.tmp 303) (.tmp 322) (.const (.bool false)), 4, "law.go:120", #[⟨6, .data⟩, ⟨25, .data⟩], none⟩ rfl (by kernel_rfl) (Or.inl ⟨by rfl, _⟩) _; rotate_left; · (intro s h; (try dsimp only at h); go_simp; try with_reducible rfl)
 try simp only [Act.put,nA,nB,nC]
 refine' tQ 27 ⟨some 6, .assign (.tmp 323), 4, "law.go:120", #[⟨26, .data⟩, ⟨25, .chain⟩, ⟨0, .phase⟩, ⟨1, .phase⟩, ⟨2, .phase⟩, ⟨3, .phase⟩, ⟨4, .phase⟩, ⟨5, .phase⟩, ⟨6, .phase⟩, ⟨7, .phase⟩, ⟨8, .phase⟩, ⟨9, .phase⟩, ⟨10, .phase⟩, ⟨11, .phase⟩, ⟨12, .phase⟩, ⟨13, .phase⟩, ⟨14, .phase⟩, ⟨15, .phase⟩, ⟨16, .phase⟩, ⟨17, .phase⟩, ⟨18, .phase⟩, ⟨19, .phase⟩, ⟨20, .phase⟩, ⟨21, .phase⟩, ⟨22, .phase⟩, ⟨23, .phase⟩, ⟨24, .phase⟩, ⟨25, .phase⟩, ⟨26, .phase⟩], none⟩ rfl (by kernel_rfl) (Or.inl ⟨by rfl, _⟩) _; rotate_left; · (intro s h; (try dsimp only at h); go_simp; try with_reducible rfl)
 try simp only [Act.put,nA,nB,nC]
 refine wpAnyH_done (by kernel_rfl) ?_ _
 clear hHeld
 go_wp2_with fail
 rw [← HPQ.out]
 exact ⟨rfl, tv', wv', _, _, vc, wa.heap.size, wb.heap.size, wc.heap.size, Re.out, Te.out, Me.out, Ae.out, Be.out, Ce.out, ⟨by have := HN.out; omega, by omega, by omega⟩, fun k hk => ⟨by have := Ga.out k hk; have := HN.out; omega, Ya.out k hk⟩, fun k hk => ⟨Gb.out k hk, Yb.out k hk⟩, Gc.out, N1.out, N2.out⟩
end Go.Proofs.Ytihbhpggpnmifaa
namespace Go.Proofs.Ytihbhpggpnmifaa
open Go.RowKit Go.Lib Hw
set_option maxRecDepth 20000 in
set_option maxHeartbeats 8000000 in
theorem step_5_yes (w : World) (q off : Nat) (c0 c1 c2 c3 c4 c5 tv wv : Value) (B p b : Nat) (lv rv : Value) (wd : Nat) (L : List Dg) (ts ws : List Value) (who : Int) (texts digs : Value) (n s : Nat) (h : Hid (PR w q off [c0, c1, c2, c3, c4, c5, tv, wv] B p b lv rv wd L)) (ht : Hid (TW w q B tv wv ts ws)) (hw : 1 ≤ wd) (hwd : wd ≤ 32) (hs : s ≤ L.length) (hns : n ≤ s)
  (hoff : off = 0 ∨ off = 3) (HTb : Hid (∀ k, tv.ownBlock = some k ∨ wv.ownBlock = some k → k ≠ b ∧ k ≠ p ∧ lv.ownBlock ≠ some k ∧ rv.ownBlock ≠ some k)) (hB : B ≤ w.heap.size) (htl : ts.length ≤ 5000000000000) (hwl : ws.length ≤ 5000000000000) :
  Calls Try.prog 37 #[.pointer (some ⟨q, 0, none⟩), .pointer (some ⟨q, off, none⟩), stepV 5 who texts digs n s] w (ToldPost w q off c0 c1 c2 c3 c4 c5 tv wv B p b lv rv wd L ts ws (sinceD wd L n s)) := by
 obtain ⟨rad, rcap, hrv, hrf⟩ := h.out.row.shape
 subst hrv
 have hLl := h.out.log.len
 have HAll : Hid (All32 L) := h.out.log.all
 have hcap : s ≤ rcap := by have := (h.out.row.drow HAll.out (by omega)).2; obtain ⟨_, _, e, h1, _⟩ := this; simp only [Value.slice.injEq] at e; omega
 obtain ⟨TR, hTR⟩ : ∃ TR, sinceD wd L n s = TR := ⟨_, rfl⟩
 rw [hTR]
 obtain ⟨PQ, hPQ⟩ : ∃ PQ, ToldPost w q off c0 c1 c2 c3 c4 c5 tv wv B p b lv (.slice rad L.length rcap) wd L ts ws TR = PQ := ⟨_, rfl⟩
 rw [hPQ]
 have HPQ := Lib.hid hPQ
 clear hPQ
 have hlt : (L.take s).length = s := by rw [List.length_take]; omega
 have hTR2 : sinceD wd (L.take s) n s = TR := by
  rw [← hTR]
  unfold sinceD
  by_cases h0 : n = 0 ∨ n = s
  ·rw [if_pos h0, if_pos h0]
  ·rw [if_neg h0, if_neg h0]
   have h := since_sub wd L 0 s s 0 n true (by omega) hns (by omega)
   rw [List.drop_zero] at h
   exact h
 have hTa : All32 TR := by
  rw [← hTR]
  unfold sinceD
  by_cases h0 : n = 0 ∨ n = s
  ·rw [if_pos h0]; exact All32.nil
  ·rw [if_neg h0]; exact since_all32 wd L HAll.out s 0 n true (by omega) hns (by omega)
 have hTl : TR.length ≤ s := by
  rw [← hTR]
  unfold sinceD
  by_cases h0 : n = 0 ∨ n = s
  ·rw [if_pos h0]; simp
  ·rw [if_neg h0]; exact since_ln wd L s 0 n true (by omega) hns
 have HTR := Lib.hid hTR
 have HTR2 := Lib.hid hTR2
 have HTa := Lib.hid hTa
 have Hlt := Lib.hid hlt
 obtain ⟨N, hN⟩ : ∃ N, w.heap.size = N := ⟨_, rfl⟩
 have HN := Lib.hid hN
 have hqN : q < N := by have := heap_lt h.out.blk; omega
 have HbN : Hid (b < N) := by show _ < _; have := h.out.log.ltb; omega
 have HTB : Hid (∀ k, tv.ownBlock = some k ∨ wv.ownBlock = some k → k < N) := fun k hk => hk.elim (fun e => by have := (ht.out.t.lt k e).2; omega) (fun e => by have := (ht.out.w.lt k e).2; omega)
 have hBN : B ≤ N := by rw [← HN.out]; exact hB
 have hcb := h.out.c0
 clear hN hrf hTR hTR2 hTa hlt hcb
 unfold stepV
 go_enter Try.func37, Try.ntmps37
 go_upto_region 0 with fail
 with_reducible refine wp_region_list ?_
 refine wpList_boxB rfl _ _ rfl N HN.out #[.int .i64 5, .int .i64 who, texts, digs, .int .u64 (n : Int), .int .u64 (s : Int)] rfl ?_
 intro w0 e0 b0 z0
 try simp only [Act.put,nA,nB,nC]
 (with_reducible refine wpList_plain rfl ?_); intro K hK; go_simp; (with_reducible refine hK _ _ ?_); clear hK K; try simp only [Act.put,nA,nB,nC]
 have H0 := Lib.hid (h.out.low (by rw [HN.out]; exact b0))
 have M0 : Hid (Mod (fun k => k = b) w w0) := Mod.of _ (by rw [HN.out]; exact b0)
 have E0 : Hid (SBx w0 N 5 who texts digs n s) := e0
 have g2 := H0.out.cell (off + 2) _ H0.out.c2
 have s0 := heap_cell e0 (o := 0)
 have wL := IntWalk.u64_in (L.length : Int) (by omega)
 clear h b0 e0
 go_upto_region 40 with fail
 clear s0 g2
 have g0 := H0.out.cell off _ H0.out.c0
 have s4 : w0.cell? ⟨N, 4, none⟩ = some (.int .u64 (n : Int)) := heap_cell E0.out (o := 4)
 have s5 : w0.cell? ⟨N, 5, none⟩ = some (.int .u64 (s : Int)) := heap_cell E0.out (o := 5)
 have LD : Hid (LogB w0.drew B p b lv wd L) := H0.out.log.drew
 go_upto_region 40 with fail
 refine wp_region_held_drew (S := fun W => W.cell? ⟨q, off, none⟩ = some (.pointer (some ⟨p, 0, none⟩)) ∧ W.cell? ⟨N, 4, none⟩ = some (.int .u64 (n : Int)) ∧ W.cell? ⟨N, 5, none⟩ = some (.int .u64 (s : Int))) (by kernel_rfl) ⟨g0, s4, s5⟩ (fun hHeld => ?_)
 refine' tQ 0 ⟨some 327, .move (.tmp 1), 72, "law.go:122", #[], none⟩ rfl (by kernel_rfl) (Or.inl ⟨by rfl, _⟩) _; rotate_left; · (intro s h; (try dsimp only at h); go_simp; try with_reducible rfl)
 try simp only [Act.put,nA,nB,nC]
 refine' tQ 1 ⟨some 328, .nilCheck (.tmp 327), 0, "law.go:122", #[⟨0, .data⟩], none⟩ rfl (by kernel_rfl) (Or.inl ⟨by rfl, _⟩) _; rotate_left; · (intro s h; (try dsimp only at h); go_simp; try with_reducible rfl)
 try simp only [Act.put,nA,nB,nC]
 refine' tQ 2 ⟨some 329, .fieldAddr 68 (.tmp 328) 0, 0, "law.go:122", #[⟨1, .data⟩], none⟩ rfl (by kernel_rfl) (Or.inl ⟨by rfl, _⟩) _; rotate_left; · (intro s h; (try dsimp only at h); go_simp; try with_reducible rfl)
 try simp only [Act.put,nA,nB,nC]
 refine' tQ 3 ⟨some 330, .load 40 (.tmp 329), 40, "law.go:122", #[⟨2, .data⟩], none⟩ rfl (by kernel_rfl) (Or.inl ⟨by rfl, _⟩) _; rotate_left; · (intro s h; (try dsimp only at h); go_simp; try with_reducible rfl)
 try simp only [Act.put,nA,nB,nC]
 refine' tQ 4 ⟨some 331, .fieldAddr 74 (.tmp 5) 4, 0, "law.go:122", #[], none⟩ rfl (by kernel_rfl) (Or.inl ⟨by rfl, _⟩) _; rotate_left; · (intro s h; (try dsimp only at h); go_simp; try with_reducible rfl)
 try simp only [Act.put,nA,nB,nC]
 refine' tQ 5 ⟨some 332, .load 29 (.tmp 331), 29, "law.go:122", #[⟨4, .data⟩], none⟩ rfl (by kernel_rfl) (Or.inl ⟨by rfl, _⟩) _; rotate_left; · (intro s h; (try dsimp only at h); go_simp; try with_reducible rfl)
 try simp only [Act.put,nA,nB,nC]
 refine' tQ 6 ⟨some 333, .fieldAddr 74 (.tmp 5) 5, 0, "law.go:122", #[], none⟩ rfl (by kernel_rfl) (Or.inl ⟨by rfl, _⟩) _; rotate_left; · (intro s h; (try dsimp only at h); go_simp; try with_reducible rfl)
 try simp only [Act.put,nA,nB,nC]
 refine' tQ 7 ⟨some 334, .load 29 (.tmp 333), 29, "law.go:122", #[⟨6, .data⟩], none⟩ rfl (by kernel_rfl) (Or.inl ⟨by rfl, _⟩) _; rotate_left; · (intro s h; (try dsimp only at h); go_simp; try with_reducible rfl)
 try simp only [Act.put,nA,nB,nC]
 refine wpAnyH_ready (rs := [8]) (by kernel_rfl) (by simp) ?_
 refine AllReadyH.cons (o := ⟨some 335, .call ⟨.value (.func 29), #[.tmp 330, .tmp 332, .tmp 334], #[40, 29, 29]⟩, 47, "law.go:122", #[⟨3, .data⟩, ⟨5, .data⟩, ⟨7, .data⟩], none⟩) rfl (fun K hK => ?_) AllReadyH.nil
 (go_simp; (go_at_call 29; refine (Since_yes _ B p b lv wd L n s LD hw hwd hs hns).mono ?_; rintro e wa ⟨va, rfl, owa, awa, lwa, mwa'⟩; rw [HTR.out] at owa; have mwa : Mod (fun k => k = b) w0 wa := (Mod.refl _ w0).drew.then mwa'; have Hwa := Lib.hid (H0.out.logd lwa mwa); have Ewa : Hid (SBx wa N 5 who texts digs n s) := mwa.heap E0.out (by have := HbN.out; omega)))
 refine hK.out _ _ ?_ (fun hHeld => ?_)
 ·exact ⟨Hwa.out.cell off _ Hwa.out.c0, heap_cell Ewa.out (o := 4), heap_cell Ewa.out (o := 5)⟩
 clear hK K
 try simp only [Act.put,nA,nB,nC]
 refine' tQ 9 ⟨some 326, .move (.tmp 335), 47, "law.go:122", #[⟨8, .data⟩], none⟩ rfl (by kernel_rfl) (Or.inl ⟨by rfl, _⟩) _; rotate_left; · (intro s h; (try dsimp only at h); go_simp; try with_reducible rfl)
 try simp only [Act.put,nA,nB,nC]
 refine' tQ 10 ⟨some 336, .extract (.tmp 326) 0, 32, "law.go:122", #[⟨9, .data⟩], none⟩ rfl (by kernel_rfl) (Or.inl ⟨by rfl, _⟩) _; rotate_left; · (intro s h; (try dsimp only at h); go_simp; try with_reducible rfl)
 try simp only [Act.put,nA,nB,nC]
 refine' tQ 11 ⟨some 337, .extract (.tmp 326) 1, 24, "law.go:122", #[⟨9, .data⟩, ⟨12, .gcOnly .lateStores⟩], none⟩ rfl (by kernel_rfl) (Or.inl ⟨by rfl, _⟩) _; rotate_left; · (intro s h; (try dsimp only at h); go_simp; try with_reducible rfl)
 try simp only [Act.put,nA,nB,nC]
 refine' tQ 12 ⟨some 23, .assign (.tmp 336), 32, "law.go:122", #[⟨10, .data⟩, ⟨8, .chain⟩, ⟨0, .phase⟩, ⟨1, .phase⟩, ⟨2, .phase⟩, ⟨3, .phase⟩, ⟨4, .phase⟩, ⟨5, .phase⟩, ⟨6, .phase⟩, ⟨7, .phase⟩, ⟨8, .phase⟩, ⟨9, .phase⟩, ⟨10, .phase⟩, ⟨11, .textOnly .lateStores⟩], none⟩ rfl (by kernel_rfl) (Or.inl ⟨by rfl, _⟩) _; rotate_left; · (intro s h; (try dsimp only at h); go_simp; try with_reducible rfl)
 try simp only [Act.put,nA,nB,nC]
 refine' tQ 13 ⟨some 24, .assign (.tmp 337), 24, "law.go:122", #[⟨11, .data⟩, ⟨12, .chain⟩, ⟨0, .phase⟩, ⟨1, .phase⟩, ⟨2, .phase⟩, ⟨3, .phase⟩, ⟨4, .phase⟩, ⟨5, .phase⟩, ⟨6, .phase⟩, ⟨7, .phase⟩, ⟨8, .phase⟩, ⟨9, .phase⟩, ⟨10, .phase⟩, ⟨11, .phase⟩, ⟨12, .phase⟩], none⟩ rfl (by kernel_rfl) (Or.inl ⟨by rfl, _⟩) _; rotate_left; · (intro s h; (try dsimp only at h); go_simp; try with_reducible rfl)
 try simp only [Act.put,nA,nB,nC]
 refine wpAnyH_done (by kernel_rfl) ?_ _
 have Ma := Lib.hid (M0.out.then mwa)
 have Oa := Lib.hid owa
 have Ya : Hid (∀ k, va.ownBlock = some k → k < wa.heap.size) := fun k hk => (owa.lt k hk).2
 have hza := mwa.size
 clear hHeld g0 s4 s5 LD H0 E0 M0 owa awa lwa mwa mwa'
 have g0 := Hwa.out.cell off _ Hwa.out.c0
 have s4 : wa.cell? ⟨N, 4, none⟩ = some (.int .u64 (n : Int)) := heap_cell Ewa.out (o := 4)
 have s5 : wa.cell? ⟨N, 5, none⟩ = some (.int .u64 (s : Int)) := heap_cell Ewa.out (o := 5)
 have LD : Hid (LogB wa.drew B p b lv wd L) := Hwa.out.log.drew
 go_upto_region 41 with fail
 refine wp_region_held_drew (S := fun W => W.cell? ⟨q, off, none⟩ = some (.pointer (some ⟨p, 0, none⟩)) ∧ W.cell? ⟨N, 4, none⟩ = some (.int .u64 (n : Int)) ∧ W.cell? ⟨N, 5, none⟩ = some (.int .u64 (s : Int))) (by kernel_rfl) ⟨g0, s4, s5⟩ (fun hHeld => ?_)
 refine' tQ 0 ⟨some 339, .move (.tmp 1), 72, "law.go:123", #[], none⟩ rfl (by kernel_rfl) (Or.inl ⟨by rfl, _⟩) _; rotate_left; · (intro s h; (try dsimp only at h); go_simp; try with_reducible rfl)
 try simp only [Act.put,nA,nB,nC]
 refine' tQ 1 ⟨some 340, .nilCheck (.tmp 339), 0, "law.go:123", #[⟨0, .data⟩], none⟩ rfl (by kernel_rfl) (Or.inl ⟨by rfl, _⟩) _; rotate_left; · (intro s h; (try dsimp only at h); go_simp; try with_reducible rfl)
 try simp only [Act.put,nA,nB,nC]
 refine' tQ 2 ⟨some 341, .fieldAddr 68 (.tmp 340) 0, 0, "law.go:123", #[⟨1, .data⟩], none⟩ rfl (by kernel_rfl) (Or.inl ⟨by rfl, _⟩) _; rotate_left; · (intro s h; (try dsimp only at h); go_simp; try with_reducible rfl)
 try simp only [Act.put,nA,nB,nC]
 refine' tQ 3 ⟨some 342, .load 40 (.tmp 341), 40, "law.go:123", #[⟨2, .data⟩], none⟩ rfl (by kernel_rfl) (Or.inl ⟨by rfl, _⟩) _; rotate_left; · (intro s h; (try dsimp only at h); go_simp; try with_reducible rfl)
 try simp only [Act.put,nA,nB,nC]
 refine' tQ 4 ⟨some 343, .fieldAddr 74 (.tmp 5) 4, 0, "law.go:123", #[], none⟩ rfl (by kernel_rfl) (Or.inl ⟨by rfl, _⟩) _; rotate_left; · (intro s h; (try dsimp only at h); go_simp; try with_reducible rfl)
 try simp only [Act.put,nA,nB,nC]
 refine' tQ 5 ⟨some 344, .load 29 (.tmp 343), 29, "law.go:123", #[⟨4, .data⟩], none⟩ rfl (by kernel_rfl) (Or.inl ⟨by rfl, _⟩) _; rotate_left; · (intro s h; (try dsimp only at h); go_simp; try with_reducible rfl)
 try simp only [Act.put,nA,nB,nC]
 refine' tQ 6 ⟨some 345, .fieldAddr 74 (.tmp 5) 5, 0, "law.go:123", #[], none⟩ rfl (by kernel_rfl) (Or.inl ⟨by rfl, _⟩) _; rotate_left; · (intro s h; (try dsimp only at h); go_simp; try with_reducible rfl)
 try simp only [Act.put,nA,nB,nC]
 refine' tQ 7 ⟨some 346, .load 29 (.tmp 345), 29, "law.go:123", #[⟨6, .data⟩], none⟩ rfl (by kernel_rfl) (Or.inl ⟨by rfl, _⟩) _; rotate_left; · (intro s h; (try dsimp only at h); go_simp; try with_reducible rfl)
 try simp only [Act.put,nA,nB,nC]
 refine wpAnyH_ready (rs := [8]) (by kernel_rfl) (by simp) ?_
 refine AllReadyH.cons (o := ⟨some 347, .call ⟨.value (.func 29), #[.tmp 342, .tmp 344, .tmp 346], #[40, 29, 29]⟩, 47, "law.go:123", #[⟨3, .data⟩, ⟨5, .data⟩, ⟨7, .data⟩], none⟩) rfl (fun K hK => ?_) AllReadyH.nil
 (go_simp; (go_at_call 29; refine (Since_yes _ B p b lv wd L n s LD hw hwd hs hns).mono ?_; rintro e wb ⟨vb, rfl, owb, awb, lwb, mwb'⟩; rw [HTR.out] at owb; have mwb : Mod (fun k => k = b) wa wb := (Mod.refl _ wa).drew.then mwb'; have Hwb := Lib.hid (Hwa.out.logd lwb mwb); have Ewb : Hid (SBx wb N 5 who texts digs n s) := mwb.heap Ewa.out (by have := HbN.out; omega)))
 refine hK.out _ _ ?_ (fun hHeld => ?_)
 ·exact ⟨Hwb.out.cell off _ Hwb.out.c0, heap_cell Ewb.out (o := 4), heap_cell Ewb.out (o := 5)⟩
 clear hK K
 try simp only [Act.put,nA,nB,nC]
 refine' tQ 9 ⟨some 338, .move (.tmp 347), 47, "law.go:123", #[⟨8, .data⟩], none⟩ rfl (by kernel_rfl) (Or.inl ⟨by rfl, _⟩) _; rotate_left; · (intro s h; (try dsimp only at h); go_simp; try with_reducible rfl)
 try simp only [Act.put,nA,nB,nC]
 refine' tQ 10 ⟨some 348, .extract (.tmp 338) 0, 32, "law.go:123", #[⟨9, .data⟩], none⟩ rfl (by kernel_rfl) (Or.inl ⟨by rfl, _⟩) _; rotate_left; · (intro s h; (try dsimp only at h); go_simp; try with_reducible rfl)
 try simp only [Act.put,nA,nB,nC]
 refine' tQ 11 ⟨some 349, .extract (.tmp 338) 1, 24, "law.go:123", #[⟨9, .data⟩, ⟨12, .gcOnly .lateStores⟩], none⟩ rfl (by kernel_rfl) (Or.inl ⟨by rfl, _⟩) _; rotate_left; · (intro s h; (try dsimp only at h); go_simp; try with_reducible rfl)
 try simp only [Act.put,nA,nB,nC]
 refine' tQ 12 ⟨some 25, .assign (.tmp 348), 32, "law.go:123", #[⟨10, .data⟩, ⟨8, .chain⟩, ⟨0, .phase⟩, ⟨1, .phase⟩, ⟨2, .phase⟩, ⟨3, .phase⟩, ⟨4, .phase⟩, ⟨5, .phase⟩, ⟨6, .phase⟩, ⟨7, .phase⟩, ⟨8, .phase⟩, ⟨9, .phase⟩, ⟨10, .phase⟩, ⟨11, .textOnly .lateStores⟩], none⟩ rfl (by kernel_rfl) (Or.inl ⟨by rfl, _⟩) _; rotate_left; · (intro s h; (try dsimp only at h); go_simp; try with_reducible rfl)
 try simp only [Act.put,nA,nB,nC]
 refine' tQ 13 ⟨some 26, .assign (.tmp 349), 24, "law.go:123", #[⟨11, .data⟩, ⟨12, .chain⟩, ⟨0, .phase⟩, ⟨1, .phase⟩, ⟨2, .phase⟩, ⟨3, .phase⟩, ⟨4, .phase⟩, ⟨5, .phase⟩, ⟨6, .phase⟩, ⟨7, .phase⟩, ⟨8, .phase⟩, ⟨9, .phase⟩, ⟨10, .phase⟩, ⟨11, .phase⟩, ⟨12, .phase⟩], none⟩ rfl (by kernel_rfl) (Or.inl ⟨by rfl, _⟩) _; rotate_left; · (intro s h; (try dsimp only at h); go_simp; try with_reducible rfl)
 try simp only [Act.put,nA,nB,nC]
 refine wpAnyH_done (by kernel_rfl) ?_ _
 have Mb := Lib.hid (Ma.out.then mwb)
 have Oa2 := Lib.hid (Oa.out.mod mwb (fun k hk e => by
  have h1 : w0.heap.size ≤ k := (Oa.out.lt k hk).1
  have h2 := HbN.out
  omega))
 have Ob := Lib.hid owb
 have Yb : Hid (∀ k, vb.ownBlock = some k → k < wb.heap.size) := fun k hk => (owb.lt k hk).2
 have hzb := mwb.size
 clear hHeld g0 s4 s5 LD Hwa Ewa Ma Oa owb awb lwb mwb mwb'
 obtain ⟨aad, acap, hva, _⟩ := Oa2.out.shape
 obtain ⟨bad, bcap, hvb, _⟩ := Ob.out.shape
 subst hva
 subst hvb
 have d1 : decide (L.length < s) = false := decide_eq_false (by omega)
 have d2 : decide ((L.length : Int) < (s : Int)) = false := decide_eq_false (by omega)
 have d3 : decide (s < n) = false := decide_eq_false (by omega)
 have d4 : decide ((s : Int) < (n : Int)) = false := decide_eq_false (by omega)
 have g1 := Hwb.out.cell (off + 1) _ Hwb.out.c1
 have g2 := Hwb.out.cell (off + 2) _ Hwb.out.c2
 have s4 : wb.cell? ⟨N, 4, none⟩ = some (.int .u64 (n : Int)) := heap_cell Ewb.out (o := 4)
 have s5 : wb.cell? ⟨N, 5, none⟩ = some (.int .u64 (s : Int)) := heap_cell Ewb.out (o := 5)
 go_upto_region 44 with fail
 clear d1 d2 d3 d4
 have dr : Hid (DRow wb.drew wb.drew.heap.size (.slice rad s rcap) (L.take s)) := Lib.hid ((Hwb.out.row.drow HAll.out (by omega)).take s hs)
 have hqb : q < wb.heap.size := heap_lt Hwb.out.blk
 have isL : (s : Int) ≤ (L.length : Int) := by omega
 have wn := IntWalk.i64_in (n : Int) (by omega)
 have PBb : Hid (PB wb q c0 c1 c2 c3 c4 c5 tv wv) := Hwb.out.blk
 have TWb : Hid (TW wb q B tv wv ts ws) := ht.out.mod Mb.out (fun k hk e => (HTb.out k (.inl hk)).1 e) (fun k hk e => (HTb.out k (.inr hk)).1 e)
 have Ga : Hid (∀ k, (Value.slice aad TR.length acap).ownBlock = some k → N ≤ k) := fun k hk => by
  have h1 : w0.heap.size ≤ k := (Oa2.out.lt k hk).1
  omega
 have Gb : Hid (∀ k, (Value.slice bad TR.length bcap).ownBlock = some k → wa.heap.size ≤ k) := fun k hk => (Ob.out.lt k hk).1
 refine wp_region_held_drew (S := fun W => W.cell? ⟨q, off + 1, none⟩ = some (.int .i64 (wd : Int)) ∧ W.cell? ⟨q, off + 2, none⟩ = some (.slice rad L.length rcap) ∧ W.cell? ⟨N, 4, none⟩ = some (.int .u64 (n : Int)) ∧ W.cell? ⟨N, 5, none⟩ = some (.int .u64 (s : Int))) (by kernel_rfl) ⟨g1, g2, s4, s5⟩ (fun hHeld => ?_)
 refine' tQ 0 ⟨some 375, .move (.tmp 24), 24, "law.go:127", #[], none⟩ rfl (by kernel_rfl) (Or.inl ⟨by rfl, _⟩) _; rotate_left; · (intro s h; (try dsimp only at h); go_simp; try with_reducible rfl)
 try simp only [Act.put,nA,nB,nC]
 refine' tQ 1 ⟨some 376, .binOp .eql 24 (.tmp 375) (.const (.int .i64 0)) 24, 4, "law.go:127", #[⟨0, .data⟩], none⟩ rfl (by kernel_rfl) (Or.inl ⟨by rfl, _⟩) _; rotate_left; · (intro s h; (try dsimp only at h); go_simp; try with_reducible rfl)
 try simp only [Act.put,nA,nB,nC]
 refine' tQ 2 ⟨some 377, .move (.tmp 376), 4, "law.go:127", #[⟨1, .data⟩], none⟩ rfl (by kernel_rfl) (Or.inl ⟨by rfl, _⟩) _; rotate_left; · (intro s h; (try dsimp only at h); go_simp; try with_reducible rfl)
 try simp only [Act.put,nA,nB,nC]
 refine' tQ 3 ⟨some 378, .move (.tmp 26), 24, "law.go:127", #[⟨2, .guard⟩], some (2, true)⟩ rfl (by kernel_rfl) (Or.inl ⟨by rfl, _⟩) _; rotate_left; · (intro s h; (try dsimp only at h); go_simp; try with_reducible rfl)
 try simp only [Act.put,nA,nB,nC]
 refine' tQ 4 ⟨some 379, .binOp .eql 24 (.tmp 378) (.const (.int .i64 0)) 24, 4, "law.go:127", #[⟨3, .data⟩, ⟨2, .guard⟩], some (2, true)⟩ rfl (by kernel_rfl) (Or.inl ⟨by rfl, _⟩) _; rotate_left; · (intro s h; (try dsimp only at h); go_simp; try with_reducible rfl)
 try simp only [Act.put,nA,nB,nC]
 refine' tQ 5 ⟨some 380, .pick (.tmp 377) (.tmp 379) (.const (.bool false)), 4, "law.go:127", #[⟨2, .data⟩, ⟨4, .data⟩], none⟩ rfl (by kernel_rfl) (Or.inl ⟨by rfl, _⟩) _; rotate_left; · (intro s h; (try dsimp only at h); go_simp; try with_reducible rfl)
 try simp only [Act.put,nA,nB,nC]
 refine' tQ 6 ⟨some 381, .move (.tmp 380), 4, "law.go:127", #[⟨5, .data⟩, ⟨2, .chain⟩], none⟩ rfl (by kernel_rfl) (Or.inl ⟨by rfl, _⟩) _; rotate_left; · (intro s h; (try dsimp only at h); go_simp; try with_reducible rfl)
 try simp only [Act.put,nA,nB,nC]
 refine' tQ 7 ⟨some 382, .move (.tmp 0), 66, "law.go:127", #[⟨6, .guard⟩], some (6, true)⟩ rfl (by kernel_rfl) (Or.inl ⟨by rfl, _⟩) _; rotate_left; · (intro s h; (try dsimp only at h); go_simp; try with_reducible rfl)
 try simp only [Act.put,nA,nB,nC]
 refine' tQ 8 ⟨some 383, .move (.tmp 23), 32, "law.go:127", #[⟨6, .guard⟩], some (6, true)⟩ rfl (by kernel_rfl) (Or.inl ⟨by rfl, _⟩) _; rotate_left; · (intro s h; (try dsimp only at h); go_simp; try with_reducible rfl)
 try simp only [Act.put,nA,nB,nC]
 refine' tQ 9 ⟨some 384, .move (.tmp 25), 32, "law.go:127", #[⟨6, .guard⟩], some (6, true)⟩ rfl (by kernel_rfl) (Or.inl ⟨by rfl, _⟩) _; rotate_left; · (intro s h; (try dsimp only at h); go_simp; try with_reducible rfl)
 try simp only [Act.put,nA,nB,nC]
 refine' tQ 10 ⟨some 385, .move (.tmp 1), 72, "law.go:127", #[⟨6, .guard⟩], some (6, true)⟩ rfl (by kernel_rfl) (Or.inl ⟨by rfl, _⟩) _; rotate_left; · (intro s h; (try dsimp only at h); go_simp; try with_reducible rfl)
 try simp only [Act.put,nA,nB,nC]
 refine' tQ 11 ⟨some 386, .nilCheck (.tmp 385), 0, "law.go:127", #[⟨10, .data⟩, ⟨6, .guard⟩], some (6, true)⟩ rfl (by kernel_rfl) (Or.inl ⟨by rfl, _⟩) _; rotate_left; · (intro s h; (try dsimp only at h); go_simp; try with_reducible rfl)
 try simp only [Act.put,nA,nB,nC]
 refine' tQ 12 ⟨some 387, .fieldAddr 68 (.tmp 386) 1, 0, "law.go:127", #[⟨11, .data⟩, ⟨6, .guard⟩], some (6, true)⟩ rfl (by kernel_rfl) (Or.inl ⟨by rfl, _⟩) _; rotate_left; · (intro s h; (try dsimp only at h); go_simp; try with_reducible rfl)
 try simp only [Act.put,nA,nB,nC]
 refine' tQ 13 ⟨some 388, .load 3 (.tmp 387), 3, "law.go:127", #[⟨12, .data⟩, ⟨6, .guard⟩], some (6, true)⟩ rfl (by kernel_rfl) (Or.inl ⟨by rfl, _⟩) _; rotate_left; · (intro s h; (try dsimp only at h); go_simp; try with_reducible rfl)
 try simp only [Act.put,nA,nB,nC]
 refine' tQ 14 ⟨some 389, .fieldAddr 74 (.tmp 5) 4, 0, "law.go:127", #[⟨6, .guard⟩], some (6, true)⟩ rfl (by kernel_rfl) (Or.inl ⟨by rfl, _⟩) _; rotate_left; · (intro s h; (try dsimp only at h); go_simp; try with_reducible rfl)
 try simp only [Act.put,nA,nB,nC]
 refine' tQ 15 ⟨some 390, .load 29 (.tmp 389), 29, "law.go:127", #[⟨14, .data⟩, ⟨6, .guard⟩], some (6, true)⟩ rfl (by kernel_rfl) (Or.inl ⟨by rfl, _⟩) _; rotate_left; · (intro s h; (try dsimp only at h); go_simp; try with_reducible rfl)
 try simp only [Act.put,nA,nB,nC]
 refine' tQ 16 ⟨some 391, .convert 29 3 (.tmp 390), 3, "law.go:127", #[⟨15, .data⟩, ⟨6, .guard⟩], some (6, true)⟩ rfl (by kernel_rfl) (Or.inl ⟨by rfl, _⟩) _; rotate_left; · (intro s h; (try dsimp only at h); go_simp; try with_reducible rfl)
 try simp only [Act.put,nA,nB,nC]
 refine' tQ 17 ⟨some 392, .move (.tmp 1), 72, "law.go:127", #[⟨6, .guard⟩], some (6, true)⟩ rfl (by kernel_rfl) (Or.inl ⟨by rfl, _⟩) _; rotate_left; · (intro s h; (try dsimp only at h); go_simp; try with_reducible rfl)
 try simp only [Act.put,nA,nB,nC]
 refine' tQ 18 ⟨some 393, .nilCheck (.tmp 392), 0, "law.go:127", #[⟨17, .data⟩, ⟨6, .guard⟩], some (6, true)⟩ rfl (by kernel_rfl) (Or.inl ⟨by rfl, _⟩) _; rotate_left; · (intro s h; (try dsimp only at h); go_simp; try with_reducible rfl)
 try simp only [Act.put,nA,nB,nC]
 refine' tQ 19 ⟨some 394, .fieldAddr 68 (.tmp 393) 2, 0, "law.go:127", #[⟨18, .data⟩, ⟨6, .guard⟩], some (6, true)⟩ rfl (by kernel_rfl) (Or.inl ⟨by rfl, _⟩) _; rotate_left; · (intro s h; (try dsimp only at h); go_simp; try with_reducible rfl)
 try simp only [Act.put,nA,nB,nC]
 refine' tQ 20 ⟨some 395, .load 32 (.tmp 394), 32, "law.go:127", #[⟨19, .data⟩, ⟨6, .guard⟩], some (6, true)⟩ rfl (by kernel_rfl) (Or.inl ⟨by rfl, _⟩) _; rotate_left; · (intro s h; (try dsimp only at h); go_simp; try with_reducible rfl)
 try simp only [Act.put,nA,nB,nC]
 refine' tQ 21 ⟨some 396, .fieldAddr 74 (.tmp 5) 5, 0, "law.go:127", #[⟨6, .guard⟩], some (6, true)⟩ rfl (by kernel_rfl) (Or.inl ⟨by rfl, _⟩) _; rotate_left; · (intro s h; (try dsimp only at h); go_simp; try with_reducible rfl)
 try simp only [Act.put,nA,nB,nC]
 refine' tQ 22 ⟨some 397, .load 29 (.tmp 396), 29, "law.go:127", #[⟨21, .data⟩, ⟨6, .guard⟩], some (6, true)⟩ rfl (by kernel_rfl) (Or.inl ⟨by rfl, _⟩) _; rotate_left; · (intro s h; (try dsimp only at h); go_simp; try with_reducible rfl)
 try simp only [Act.put,nA,nB,nC]
 refine' tQ 23 ⟨some 398, .slice 32 (.tmp 395) none (some (.tmp 397)) none, 32, "law.go:127", #[⟨20, .data⟩, ⟨22, .data⟩, ⟨6, .guard⟩], some (6, true)⟩ rfl (by kernel_rfl) (Or.inl ⟨by rfl, _⟩) _; rotate_left; · (intro s h; (try dsimp only at h); go_simp; try with_reducible rfl)
 try simp only [Act.put,nA,nB,nC]
 refine wpAnyH_ready (rs := [24]) (by kernel_rfl) (by simp) ?_
 refine AllReadyH.cons (o := ⟨some 399, .call ⟨.value (.func 70), #[.tmp 388, .tmp 391, .tmp 398], #[3, 3, 32]⟩, 32, "law.go:127", #[⟨13, .data⟩, ⟨16, .data⟩, ⟨23, .data⟩, ⟨6, .chain⟩, ⟨6, .guard⟩], some (6, true)⟩) rfl (fun K hK => ?_) AllReadyH.nil
 (go_simp; (go_at_call 70; refine (SinceOf_any wd hw hwd s n _ (L.take s) _ Hlt.out dr hns (by omega)).mono ?_; rintro e wc ⟨vc, rfl, oc, bc'⟩; rw [HTR2.out] at oc; have bc : Below wb.heap.size wb wc := Below.trans (Below.refl _ _).drew bc'; have Hwc := Lib.hid (Hwb.out.low bc); have Ewc : Hid (SBx wc N 5 who texts digs n s) := heap_below Ewb.out bc (by omega)))
 refine hK.out _ _ ?_ (fun hHeld => ?_)
 ·exact ⟨Hwc.out.cell (off + 1) _ Hwc.out.c1, Hwc.out.cell (off + 2) _ Hwc.out.c2, heap_cell Ewc.out (o := 4), heap_cell Ewc.out (o := 5)⟩
 clear hK K
 try simp only [Act.put,nA,nB,nC]
 have PBc : Hid (PB wc q c0 c1 c2 c3 c4 c5 tv wv) := Hwc.out.blk
 have TWc := Lib.hid (TWb.out.mod (Mod.of (fun _ => False) bc) (fun _ _ h => h) (fun _ _ h => h))
 have Oac := Lib.hid ((Oa2.out.below bc (fun g hg => (Oa2.out.lt g hg).2)).mono (C := B) (by show B ≤ w0.heap.size; omega))
 have Obc := Lib.hid ((Ob.out.below bc (fun g hg => (Ob.out.lt g hg).2)).mono (C := B) (by show B ≤ wa.heap.size; omega))
 have Occ := Lib.hid (oc.mono (C := B) (by show B ≤ wb.heap.size; omega))
 have Gc : Hid (∀ k, vc.ownBlock = some k → wb.heap.size ≤ k ∧ k < wc.heap.size) := fun k hk => oc.lt k hk
 have hzc := bc.size
 have Mc := Lib.hid (Mb.out.then (Mod.of _ bc))
 have HdC : Hid (∀ v, v = Value.slice aad TR.length acap ∨ v = Value.slice bad TR.length bcap ∨ v = vc → ∀ k, v.ownBlock = some k → k ≠ q ∧ tv.ownBlock ≠ some k ∧ wv.ownBlock ≠ some k) := fun v hv k hk => by
  have hk2 : N ≤ k := by
   rcases hv with rfl | rfl | rfl
   ·exact Ga.out k hk
   ·have := Gb.out k hk; omega
   ·have := (Gc.out k hk).1; omega
  exact ⟨by omega, fun e => by have := HTB.out k (.inl e); omega, fun e => by have := HTB.out k (.inr e); omega⟩
 clear bc bc' oc dr PBb TWb
 refine wpAnyH_ready (rs := [25]) (by kernel_rfl) (by simp) ?_
 refine AllReadyH.cons (o := ⟨some 400, .call ⟨.value (.func 68), #[.tmp 382, .tmp 383, .tmp 384, .tmp 399], #[66, 32, 32, 32]⟩, 4, "law.go:127", #[⟨7, .data⟩, ⟨8, .data⟩, ⟨9, .data⟩, ⟨24, .data⟩, ⟨24, .chain⟩, ⟨6, .guard⟩], some (6, true)⟩) rfl (fun K hK => ?_) AllReadyH.nil
 (go_simp; (go_at_call 68; refine (tell_any wc q B c0 c1 c2 c3 c4 c5 tv wv ts ws _ _ vc TR PBc TWc (by omega) (by omega) HTa (by omega) Oac Obc Occ HdC htl hwl).mono ?_; rintro e we ⟨rfl, tv', wv', pe, te, me, n1, n2⟩; have hc' : ∀ i, i < 6 → ([c0, c1, c2, c3, c4, c5, tv', wv'] : List Value)[i]? = ([c0, c1, c2, c3, c4, c5, tv, wv] : List Value)[i]? := (fun i hi => by match i, hi with | 0, _ => rfl | 1, _ => rfl | 2, _ => rfl | 3, _ => rfl | 4, _ => rfl | 5, _ => rfl); have k1 : we.cell? ⟨q, off + 1, none⟩ = some (.int .i64 (wd : Int)) := (by rw [heap_cell pe, List.getElem?_toArray]; exact (hc' (off + 1) (by omega)).trans Hwc.out.c1); have k2 : we.cell? ⟨q, off + 2, none⟩ = some (.slice rad L.length rcap) := (by rw [heap_cell pe, List.getElem?_toArray]; exact (hc' (off + 2) (by omega)).trans Hwc.out.c2); have Ewe : Hid (SBx we N 5 who texts digs n s) := me.heap Ewc.out (fun e => by rcases e with e | e | e; omega; have := HTB.out _ (.inl e); omega; have := HTB.out _ (.inr e); omega)))
 refine hK.out _ _ ?_ (fun hHeld => ?_)
 ·exact ⟨k1, k2, heap_cell Ewe.out (o := 4), heap_cell Ewe.out (o := 5)⟩
 clear hK K
 try simp only [Act.put,nA,nB,nC]
 have Me := Lib.hid ((Mc.out.mono (T := fun k => k = b ∨ k = q ∨ tv.ownBlock = some k ∨ wv.ownBlock = some k) (fun k hk e => .inl e)).then (me.mono (fun k hk e => .inr e)))
 have Pe := Lib.hid pe
 have Te := Lib.hid te
 have Re : Hid (PR we q off [c0, c1, c2, c3, c4, c5, tv', wv'] B p b lv (.slice rad L.length rcap) wd L) := Hwc.out.recs pe rfl (hc' off (by omega)) (hc' (off + 1) (by omega)) (hc' (off + 2) (by omega)) me (fun e => e.elim (fun e => Hwc.out.qp e.symm) (fun e => (HTb.out _ e).2.1 rfl)) (fun e => e.elim (fun e => Hwc.out.qb e.symm) (fun e => (HTb.out _ e).1 rfl)) (fun k hk e => e.elim (fun e => Hwc.out.ql (by rw [hk, e])) (fun e => (HTb.out _ e).2.2.1 hk)) (fun k hk e => e.elim (fun e => Hwc.out.qr (by rw [hk, e])) (fun e => (HTb.out _ e).2.2.2 hk))
 have hdd : ∀ v, v = Value.slice aad TR.length acap ∨ v = Value.slice bad TR.length bcap ∨ v = vc → ∀ k, v.ownBlock = some k → ¬ (k = q ∨ tv.ownBlock = some k ∨ wv.ownBlock = some k) := fun v hv k hk e => e.elim (HdC.out v hv k hk).1 (fun e => e.elim (HdC.out v hv k hk).2.1 (HdC.out v hv k hk).2.2)
 have Ae := Lib.hid (Oac.out.mod me (hdd _ (.inl rfl)))
 have Be := Lib.hid (Obc.out.mod me (hdd _ (.inr (.inl rfl))))
 have Ce := Lib.hid (Occ.out.mod me (hdd _ (.inr (.inr rfl))))
 have N1 := Lib.hid n1
 have N2 := Lib.hid n2
 clear pe te me n1 n2 hc' k1 k2 hdd
 refine' tQ 26 ⟨some 401, .pick (.tmp 381) (.tmp 400) (.const (.bool false)), 4, "law.go:127", #[⟨6, .data⟩, ⟨25, .data⟩], none⟩ rfl (by kernel_rfl) (Or.inl ⟨by rfl, _⟩) _; rotate_left; · (intro s h; (try dsimp only at h); go_simp; try with_reducible rfl)
 try simp only [Act.put,nA,nB,nC]
 refine' tQ 27 ⟨some 6, .assign (.tmp 401), 4, "law.go:127", #[⟨26, .data⟩, ⟨25, .chain⟩, ⟨0, .phase⟩, ⟨1, .phase⟩, ⟨2, .phase⟩, ⟨3, .phase⟩, ⟨4, .phase⟩, ⟨5, .phase⟩, ⟨6, .phase⟩, ⟨7, .phase⟩, ⟨8, .phase⟩, ⟨9, .phase⟩, ⟨10, .phase⟩, ⟨11, .phase⟩, ⟨12, .phase⟩, ⟨13, .phase⟩, ⟨14, .phase⟩, ⟨15, .phase⟩, ⟨16, .phase⟩, ⟨17, .phase⟩, ⟨18, .phase⟩, ⟨19, .phase⟩, ⟨20, .phase⟩, ⟨21, .phase⟩, ⟨22, .phase⟩, ⟨23, .phase⟩, ⟨24, .phase⟩, ⟨25, .phase⟩, ⟨26, .phase⟩], none⟩ rfl (by kernel_rfl) (Or.inl ⟨by rfl, _⟩) _; rotate_left; · (intro s h; (try dsimp only at h); go_simp; try with_reducible rfl)
 try simp only [Act.put,nA,nB,nC]
 refine wpAnyH_done (by kernel_rfl) ?_ _
 clear hHeld
 go_wp2_with fail
 rw [← HPQ.out]
 exact ⟨rfl, tv', wv', _, _, vc, wa.heap.size, wb.heap.size, wc.heap.size, Re.out, Te.out, Me.out, Ae.out, Be.out, Ce.out, ⟨by have := HN.out; omega, by omega, by omega⟩, fun k hk => ⟨by have := Ga.out k hk; have := HN.out; omega, Ya.out k hk⟩, fun k hk => ⟨Gb.out k hk, Yb.out k hk⟩, Gc.out, N1.out, N2.out⟩
end Go.Proofs.Ytihbhpggpnmifaa
