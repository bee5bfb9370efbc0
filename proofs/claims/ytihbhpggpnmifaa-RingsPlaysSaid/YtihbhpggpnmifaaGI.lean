/-
 Logs in memory; the walk of ring.
-/
import Derived.Test.YtihbhpggpnmifaaGH
set_option linter.unusedSimpArgs false
set_option linter.unusedVariables false
namespace Go.Proofs.Ytihbhpggpnmifaa
open Go.RowKit Go.Lib Hw Go.Maps
theorem OwnR.mod {w w' : World} {S : Nat → Prop} {B : Nat} {v : Value} {xs : List Dg} (h : OwnR w B v xs) (m : Mod S w w') (hd : ∀ k, v.ownBlock = some k → ¬ S k) : OwnR w' B v xs :=
 h.heap (fun g hg => m.block g (h.lt g hg).2 (hd g hg))
structure LogB (w : World) (B p b : Nat) (lv : Value) (wd : Nat) (L : List Dg) : Prop where
 cells : w.heap[p]? = some (.cells #[.int .i64 (wd : Int), lv, .map (some b)] 101 (0, 0))
 leaves : OwnR w B lv L
 all : All32 L
 map : RMap w b wd L
 hp : B ≤ p
 hb : B ≤ b
 hpb : p ≠ b
 hlp : lv.ownBlock ≠ some p
 hlb : lv.ownBlock ≠ some b
 len : L.length ≤ 1048576
section
variable {w w' : World} {B p b : Nat} {lv : Value} {wd : Nat} {L : List Dg}
theorem LogB.mod {S : Nat → Prop} (h : LogB w B p b lv wd L) (m : Mod S w w') (hp : ¬ S p) (hb : ¬ S b) (hl : ∀ k, lv.ownBlock = some k → ¬ S k) : LogB w' B p b lv wd L :=
 ⟨m.heap h.cells hp, h.leaves.mod m hl, h.all, h.map.mod m hb, h.hp, h.hb, h.hpb, h.hlp, h.hlb, h.len⟩
theorem LogB.below (h : LogB w B p b lv wd L) (hb : Below w.heap.size w w') : LogB w' B p b lv wd L := h.mod (Mod.of (fun _ => False) hb) (fun h => h) (fun h => h) (fun _ _ h => h)
theorem LogB.alloc (h : LogB w B p b lv wd L) (o : Obj) : LogB (w.alloc o) B p b lv wd L := h.below ((Below.refl _ _).alloc (Nat.le_refl _) _)
theorem LogB.drew (h : LogB w B p b lv wd L) : LogB w.drew B p b lv wd L := ⟨h.cells, h.leaves.drew, h.all, h.map.drew, h.hp, h.hb, h.hpb, h.hlp, h.hlb, h.len⟩
theorem LogB.cell0 (h : LogB w B p b lv wd L) : w.cell? ⟨p, 0, none⟩ = some (.int .i64 (wd : Int)) := by rw [heap_cell h.cells]; rfl
theorem LogB.cell1 (h : LogB w B p b lv wd L) : w.cell? ⟨p, 1, none⟩ = some lv := by rw [heap_cell h.cells]; rfl
theorem LogB.cell2 (h : LogB w B p b lv wd L) : w.cell? ⟨p, 2, none⟩ = some (.map (some b)) := by rw [heap_cell h.cells]; rfl
theorem LogB.lt (h : LogB w B p b lv wd L) : p < w.heap.size := heap_lt h.cells
theorem LogB.ltb (h : LogB w B p b lv wd L) : b < w.heap.size := h.map.lt
end
set_option maxHeartbeats 4000000 in
theorem ring_zero (B p b a : Nat) (lv : Value) (wd : Nat) (L : List Dg) (w : World) (hL : Hid (LogB w B p b lv wd L)) :
  Calls Try.prog 56 #[.pointer (some ⟨p, 0, none⟩), .int .i64 (a : Int), .int .i64 0] w fun e w' => e = .returned (dv (noneD wd)) ∧ LogB w' B p b lv wd L ∧ Mod (fun k => k = b) w w' := by
 have Hl := Lib.hid (noneD_length wd)
 obtain ⟨R, hR⟩ : ∃ R, noneD wd = R := ⟨_, rfl⟩
 rw [hR] at Hl ⊢
 have HR := Lib.hid hR
 clear hR
 go_enter Try.func56, Try.ntmps56
 go_upto_region 2 with (refine wpList_allocD rfl rfl w.heap.size rfl ?_; intro w1 hd1 hb1 hz1)
 have D1 := Lib.hid hd1
 have B1 := Lib.hid hb1
 have L1 := Lib.hid (hL.out.below hb1)
 have c0 := L1.out.cell0
 clear hd1 hb1
 go_wp2_with (first
  | (go_at_call 49; refine (none_any _ _).mono ?_; rintro e w2 ⟨rfl, hb2⟩; rw [HR.out]; have D2 := Lib.hid (D1.out.below hb2 (by omega)))
  | (refine wpList_storeD rfl _ _ rfl w.heap.size rfl zeros32 R rfl Hl.out rfl D2.out ?_; intro w3 hd3 hb3 hk3 hz3))
 have HB : Below w.heap.size w w3 := (B1.out.trans (hb2.mono (by omega))).trans hb3
 refine bodyPost_ret (v := dv R) ?_ rfl ⟨rfl, hL.out.below HB, Mod.of _ HB⟩
 exact results_cell1 Try.results56 rfl (DB.load hd3 Hl.out)
set_option maxHeartbeats 4000000 in
theorem ring_one (B p b a : Nat) (lv : Value) (wd : Nat) (L : List Dg) (w : World) (hL : Hid (LogB w B p b lv wd L)) (ha : a < L.length) :
  Calls Try.prog 56 #[.pointer (some ⟨p, 0, none⟩), .int .i64 (a : Int), .int .i64 1] w fun e w' => e = .returned (dv L[a]) ∧ LogB w' B p b lv wd L ∧ Mod (fun k => k = b) w w' := by
 have Hl := Lib.hid (hL.out.all L[a] (List.getElem_mem ha))
 obtain ⟨R, hR⟩ : ∃ R, L[a] = R := ⟨_, rfl⟩
 rw [hR] at Hl ⊢
 have HR := Lib.hid hR
 clear hR
 obtain ⟨ad, cap, rfl, hfm⟩ := hL.out.leaves.shape
 obtain ⟨g, rfl⟩ := hfm (by omega)
 clear hfm
 have hlen := hL.out.len
 have hg := hL.out.leaves.lt g rfl
 have i1 : (a : Int) < (L.length : Int) := by omega
 go_enter Try.func56, Try.ntmps56
 go_upto_region 2 with (refine wpList_allocD rfl rfl w.heap.size rfl ?_; intro w1 hd1 hb1 hz1)
 have D1 := Lib.hid hd1
 have B1 := Lib.hid hb1
 have L1 := Lib.hid (hL.out.below hb1)
 have c0 := L1.out.cell1
 clear hd1 hb1
 go_wp2_with (first
  | (refine wpList_loadR rfl _ rfl L1.out.leaves L1.out.all a ha R HR.out (by go_simp) ?_; try simp only [Act.put,nA,nB,nC])
  | (refine wpList_storeD rfl _ _ rfl w.heap.size rfl zeros32 R rfl Hl.out rfl D1.out ?_; intro w3 hd3 hb3 hk3 hz3))
 have HB : Below w.heap.size w w3 := B1.out.trans hb3
 refine bodyPost_ret (v := dv R) ?_ rfl ⟨rfl, hL.out.below HB, Mod.of _ HB⟩
 exact results_cell1 Try.results56 rfl (DB.load hd3 Hl.out)
theorem LogB.grown {w w' : World} {B p b : Nat} {lv : Value} {wd : Nat} {L : List Dg} (h : LogB w B p b lv wd L) (hr : RMap w' b wd L) (hg : w.grownBy w' (some b)) : LogB w' B p b lv wd L :=
 have m : Mod (fun k => k = b) w w' := Mod.grown hg (fun k e => (Option.some.inj e).symm)
 ⟨m.heap h.cells h.hpb, h.leaves.mod m (fun k hk e => h.hlb (e ▸ hk)), h.all, hr, h.hp, h.hb, h.hpb, h.hlp, h.hlb, h.len⟩
structure RI (w : World) (B p b : Nat) (lv : Value) (wd : Nat) (L : List Dg) (a n : Nat) (W : World) : Prop where
 log : LogB W B p b lv wd L
 mod : Mod (fun k => k = b) w W
 d : DB W w.heap.size zeros32
 k : W.heap[w.heap.size + 1]? = some (.cells #[.int .i64 (a : Int), .int .i64 (n : Int)] 62 (0, 0))
 bz : b < w.heap.size
 pz : p < w.heap.size
 lz : ∀ g, lv.ownBlock = some g → g < w.heap.size
 sz : w.heap.size + 3 ≤ W.heap.size
section
variable {w W W' : World} {B p b : Nat} {lv : Value} {wd : Nat} {L : List Dg} {a n : Nat}
theorem RI.mods (h : RI w B p b lv wd L a n W) (hl : LogB W' B p b lv wd L) (m : Mod (fun k => k = b) W W') : RI w B p b lv wd L a n W' :=
 have hb := h.bz
 ⟨hl, h.mod.then m, m.heap h.d (by omega), m.heap h.k (by omega), h.bz, h.pz, h.lz, Nat.le_trans h.sz m.size⟩
theorem RI.below (h : RI w B p b lv wd L a n W) (hb : Below W.heap.size W W') : RI w B p b lv wd L a n W' := h.mods (h.log.below hb) (Mod.of _ hb)
theorem RI.drew (h : RI w B p b lv wd L a n W) : RI w B p b lv wd L a n W.drew := ⟨h.log.drew, h.mod.drew, h.d, h.k, h.bz, h.pz, h.lz, h.sz⟩
theorem RI.grown (h : RI w B p b lv wd L a n W) (hr : RMap W' b wd L) (hg : W.grownBy W' (some b)) : RI w B p b lv wd L a n W' := h.mods (h.log.grown hr hg) (Mod.grown hg (fun k e => (Option.some.inj e).symm))
theorem LogB.keptN {w w' : World} (h : LogB w B p b lv wd L) {N : Nat} (hk : Kept N w w') (h1 : p ≠ N) (h2 : b ≠ N) (h3 : ∀ g, lv.ownBlock = some g → g ≠ N) : LogB w' B p b lv wd L :=
 h.mod (Mod.kept (S := fun k => k = N) hk rfl) h1 h2 h3
theorem RI.keptN (h : RI w B p b lv wd L a n W) {N : Nat} (hk : Kept N W W') (hN : w.heap.size + 3 ≤ N) : RI w B p b lv wd L a n W' := by
 have hbz := h.bz
 have hpz := h.pz
 refine ⟨h.log.keptN hk (by omega) (by omega) (fun g hg => by have := h.lz g hg; omega), ?_, hk.heap h.d (by omega), hk.heap h.k (by omega), h.bz, h.pz, h.lz, Nat.le_trans h.sz hk.size⟩
 exact h.mod.trans (Mod.kept (S := fun k => k = N) hk rfl) (fun i hi e => by omega)
theorem RI.kept (h : RI w B p b lv wd L a n W) (hk : Kept w.heap.size W W') : LogB W' B p b lv wd L ∧ Mod (fun k => k = b) w W' := by
 have hbz := h.bz
 have hpz := h.pz
 exact ⟨h.log.keptN hk (by omega) (by omega) (fun g hg => by have := h.lz g hg; omega), h.mod.trans (Mod.kept (S := fun k => k = w.heap.size) hk rfl) (fun i hi e => by omega)⟩
theorem RI.cell0 (h : RI w B p b lv wd L a n W) : W.cell? ⟨p, 0, none⟩ = some (.int .i64 (wd : Int)) := h.log.cell0
theorem RI.cell2 (h : RI w B p b lv wd L a n W) : W.cell? ⟨p, 2, none⟩ = some (.map (some b)) := h.log.cell2
theorem RI.key0 (h : RI w B p b lv wd L a n W) : W.cell? ⟨w.heap.size + 1, 0, none⟩ = some (.int .i64 (a : Int)) := by rw [heap_cell h.k]; rfl
theorem RI.key1 (h : RI w B p b lv wd L a n W) : W.cell? ⟨w.heap.size + 1, 1, none⟩ = some (.int .i64 (n : Int)) := by rw [heap_cell h.k]; rfl
end
theorem wp_allocD {o : Oper} {a : Act} {w : World} {K : Act → World → Prop} {Q : Exit → Act → World → Prop} (ho : o.op = .alloc 23) (N : Nat) (hN : w.heap.size = N)
  (h : ∀ W, DB W N zeros32 → Below N w W → W.heap.size = N + 1 → K (a.put o.dst (.pointer (some ⟨N, 0, none⟩))) W) : o.wp Try.prog a w K Q := by
 subst hN
 unfold Oper.wp execOp
 simp only [ho, Sem.run_bind, Instr.alloc, zero_D, newVar, newRow, run_newObj_alloc, Sem.run_pure, Result.andThen_ok]
 exact h _ (heap_new w _) ((Below.refl _ _).alloc (Nat.le_refl _) _) (by simp)
theorem wp_storeD {o : Oper} {a : Act} {w : World} {K : Act → World → Prop} {Q : Exit → Act → World → Prop} (x y : Operand) (ho : o.op = .store 23 x y) (b : Nat) (hx : a.eval x = .pointer (some ⟨b, 0, none⟩)) (l m : List UInt8) (hl : l.length = 32) (hm : m.length = 32) (hy : a.eval y = dv m) (hd : DB w b l)
  (h : ∀ W, DB W b m → Below b w W → Kept b w W → W.heap.size = w.heap.size → K (a.put o.dst undef) W) : o.wp Try.prog a w K Q := by
 refine wp_store_mid 23 _ _ ho b 0 (m.map bv).toArray hx hy ?_ (info_D.trans (congrArg some ((List.length_map _).trans hm).symm)) (by simp [bv]; intros; rfl) ?_
 ·have := there_all hd
  simpa [hl, hm] using this
 ·refine h _ (hd.store m (by omega)) (setCells_below _ _ _ _ _ (Nat.le_refl _)) ?_ (setCells_hs ..)
  have h1 := setCells_below (m.map bv) w b 0 b (Nat.le_refl _)
  exact ⟨h1.os, h1.tape, h1.output, h1.size, fun k _ hk => setCells_other _ _ _ _ _ hk⟩
theorem yieldsIf_loadD {ops : Array Oper} {S : World → Prop} {op : Oper} {a : Act} (hw : Region.wanted op (yielded ops a.tmps) = true) (x : Operand) (ho : op.op = .load 23 x) (b : Nat) (hx : a.eval x = .pointer (some ⟨b, 0, none⟩)) (l : List UInt8) (hl : l.length = 32) (hd : ∀ W, S W → DB W b l) :
  YieldsIf Try.prog ops S op (dv l) a :=
 yieldsIf_load_mid hw 23 x ho b 0 hx (l.map bv) _ (fun W h => range_all (cs := l.map bv) (hd W h)) Try.underlying23 rfl (info_D.trans (congrArg some ((List.length_map _).trans hl).symm))
def RingPost (w : World) (B p b : Nat) (lv : Value) (wd : Nat) (L : List Dg) (D : Dg) (e : Ending) (w' : World) : Prop := e = .returned (dv D) ∧ LogB w' B p b lv wd L ∧ Mod (fun k => k = b) w w'
set_option maxHeartbeats 8000000 in
theorem ring_more (B p b a n : Nat) (lv : Value) (wd : Nat) (L : List Dg) (w : World) (hL : Hid (LogB w B p b lv wd L)) (hn : 2 ≤ n) (han : a + n ≤ L.length) (hwd : wd ≤ 32)
  (ih1 : ∀ W, LogB W B p b lv wd L → Calls Try.prog 56 #[.pointer (some ⟨p, 0, none⟩), .int .i64 (a : Int), .int .i64 (halfN n : Int)] W (RingPost W B p b lv wd L (spanD wd L a (halfN n))))
  (ih2 : ∀ W, LogB W B p b lv wd L → Calls Try.prog 56 #[.pointer (some ⟨p, 0, none⟩), .int .i64 ((a + halfN n : Nat) : Int), .int .i64 ((n - halfN n : Nat) : Int)] W (RingPost W B p b lv wd L (spanD wd L (a + halfN n) (n - halfN n)))) :
  Calls Try.prog 56 #[.pointer (some ⟨p, 0, none⟩), .int .i64 (a : Int), .int .i64 (n : Int)] w fun e w' => e = .returned (dv (spanD wd L a n)) ∧ LogB w' B p b lv wd L ∧ Mod (fun k => k = b) w w' := by
 have hlen := hL.out.len
 have hs := half_spec hn
 have hsp := spanD_more wd L a n hn han
 have Hl := Lib.hid (spanD_length wd L a n hL.out.all han)
 have Hl1 := Lib.hid (spanD_length wd L a (halfN n) hL.out.all (by omega))
 have Hl2 := Lib.hid (spanD_length wd L (a + halfN n) (n - halfN n) hL.out.all (by omega))
 obtain ⟨k, hk⟩ : ∃ k, halfN n = k := ⟨_, rfl⟩
 rw [hk] at ih1 ih2 hsp Hl1 Hl2 hs
 obtain ⟨R, hR⟩ : ∃ R, spanD wd L a n = R := ⟨_, rfl⟩
 obtain ⟨X, hX⟩ : ∃ X, spanD wd L a k = X := ⟨_, rfl⟩
 obtain ⟨Y, hY⟩ : ∃ Y, spanD wd L (a + k) (n - k) = Y := ⟨_, rfl⟩
 rw [hX, hY] at hsp
 rw [hX] at ih1 Hl1
 rw [hY] at ih2 Hl2
 rw [hR] at hsp Hl ⊢
 have HSp := Lib.hid hsp.symm
 have HR := Lib.hid hR
 have HK := Lib.hid hk
 have IH1 := Lib.hid ih1
 have IH2 := Lib.hid ih2
 clear hR hX hY hsp hk ih1 ih2
 have n0 : ((n : Int) == 0) = false := by simp; omega
 have n1 : ((n : Int) == 1) = false := by simp; omega
 go_enter Try.func56, Try.ntmps56
 go_upto_region 2 with (refine wpList_allocD rfl rfl w.heap.size rfl ?_; intro w1 hd1 hb1 hz1)
 have D1 := Lib.hid hd1
 have B1 := Lib.hid hb1
 have L1 := Lib.hid (hL.out.below hb1)
 clear hd1 hb1
 go_upto_region 7 with fail
 refine wp_name (fun W => Hid (LogB W B p b lv wd L) ∧ Hid (DB W w.heap.size zeros32) ∧ Hid (W.heap[w.heap.size + 1]? = some (.cells #[.int .i64 (a : Int), .int .i64 (n : Int)] 62 (0, 0))) ∧ Hid (Below w.heap.size w W) ∧ W.heap.size = w.heap.size + 2) ⟨L1.out.alloc _, DB.alloc D1.out _, by rw [← hz1]; exact heap_new _ _, B1.out.alloc (by omega) _, by simp [hz1]⟩ (fun w2 hq => ?_)
 obtain ⟨L2, D2, A2, B2, hz2⟩ := hq
 clear L1 D1 B1 hz1
 obtain ⟨l, t, ht1, ht2, hrun⟩ := run_lookR L2.out.map a n (by omega) (by omega)
 have HRun := Lib.hid hrun
 have c2 := L2.out.cell2
 have d0 : w2.cell? ⟨w.heap.size + 1, 0, none⟩ = some (.int .i64 (a : Int)) := by rw [heap_cell A2.out]; rfl
 have d1 : w2.cell? ⟨w.heap.size + 1, 1, none⟩ = some (.int .i64 (n : Int)) := by rw [heap_cell A2.out]; rfl
 have ht0 : Hid (l.length = 32) := by
  cases t
  ·show _ = _; rw [ht2 rfl]; rfl
  ·show _ = _; rw [(ht1 rfl).2, HR.out]; exact Hl.out
 have HT1 := Lib.hid ht1
 clear hrun ht1 ht2
 refine wp_region_held_drew (S := fun W => W.cell? ⟨p, 2, none⟩ = some (.map (some b)) ∧ W.cell? ⟨w.heap.size + 1, 0, none⟩ = some (.int .i64 (a : Int)) ∧ W.cell? ⟨w.heap.size + 1, 1, none⟩ = some (.int .i64 (n : Int)) ∧ Sem.run Try.prog (Instr.lookup 99 (.map (some b)) (.agg #[.int .i64 (a : Int), .int .i64 (n : Int)]) true) W = .ok (.tuple #[dv l, .bool t]) W) (by kernel_rfl) ⟨c2, d0, d1, HRun.out _ rfl⟩ (fun hHeld => ?_)
 refine' tQ 0 ⟨some 33, .move (.tmp 0), 40, "rings.go:125", #[], none⟩ rfl (by kernel_rfl) (Or.inl ⟨by rfl, _⟩) _; rotate_left; · (intro s h; (try dsimp only at h); go_simp; try with_reducible rfl)
 try simp only [Act.put,nA,nB,nC]
 refine' tQ 1 ⟨some 34, .nilCheck (.tmp 33), 0, "rings.go:125", #[⟨0, .data⟩], none⟩ rfl (by kernel_rfl) (Or.inl ⟨by rfl, _⟩) _; rotate_left; · (intro s h; (try dsimp only at h); go_simp; try with_reducible rfl)
 try simp only [Act.put,nA,nB,nC]
 refine' tQ 2 ⟨some 35, .fieldAddr 101 (.tmp 34) 2, 0, "rings.go:125", #[⟨1, .data⟩], none⟩ rfl (by kernel_rfl) (Or.inl ⟨by rfl, _⟩) _; rotate_left; · (intro s h; (try dsimp only at h); go_simp; try with_reducible rfl)
 try simp only [Act.put,nA,nB,nC]
 refine' tQ 3 ⟨some 36, .load 99 (.tmp 35), 99, "rings.go:125", #[⟨2, .data⟩], none⟩ rfl (by kernel_rfl) (Or.inl ⟨by rfl, _⟩) _; rotate_left; · (intro s h; (try dsimp only at h); go_simp; try with_reducible rfl)
 try simp only [Act.put,nA,nB,nC]
 refine' tQ 4 ⟨some 37, .load 62 (.tmp 7), 62, "rings.go:125", #[], none⟩ rfl (by kernel_rfl) (Or.inl ⟨by rfl, _⟩) _; rotate_left; · (intro s h; (try dsimp only at h); go_simp; try with_reducible rfl)
 try simp only [Act.put,nA,nB,nC]
 refine' tQ 5 ⟨some 38, .lookup 99 (.tmp 36) (.tmp 37) true, 120, "rings.go:125", #[⟨3, .data⟩, ⟨4, .data⟩], none⟩ rfl (by kernel_rfl) (Or.inl ⟨by rfl, _⟩) _; rotate_left; · (intro s h; (try dsimp only at h); go_simp; try with_reducible rfl)
 try simp only [Act.put,nA,nB,nC]
 refine' tQ 6 ⟨some 32, .move (.tmp 38), 120, "rings.go:125", #[⟨5, .data⟩], none⟩ rfl (by kernel_rfl) (Or.inl ⟨by rfl, _⟩) _; rotate_left; · (intro s h; (try dsimp only at h); go_simp; try with_reducible rfl)
 try simp only [Act.put,nA,nB,nC]
 refine' tQ 7 ⟨some 39, .extract (.tmp 32) 0, 23, "rings.go:125", #[⟨6, .data⟩], none⟩ rfl (by kernel_rfl) (Or.inl ⟨by rfl, _⟩) _; rotate_left; · (intro s h; (try dsimp only at h); go_simp; try with_reducible rfl)
 try simp only [Act.put,nA,nB,nC]
 refine' tQ 8 ⟨some 40, .extract (.tmp 32) 1, 4, "rings.go:125", #[⟨6, .data⟩, ⟨10, .gcOnly .lateStores⟩], none⟩ rfl (by kernel_rfl) (Or.inl ⟨by rfl, _⟩) _; rotate_left; · (intro s h; (try dsimp only at h); go_simp; try with_reducible rfl)
 try simp only [Act.put,nA,nB,nC]
 set_option maxRecDepth 20000 in
 refine wpAnyH_ready (rs := [9]) (by kernel_rfl) (by simp) ?_
 refine AllReadyH.cons (o := ⟨some 8, .alloc 23, 0, "rings.go:125", #[], none⟩) rfl (fun K hK => ?_) AllReadyH.nil
 (refine step_of rfl (wp_allocD rfl (w.heap.size + 2) (by exact hz2) ?_); intro w3 hd3 hb3 hz3)
 refine hK.out _ _ ?_ (fun hHeld => ?_)
 ·(obtain ⟨e0, e1, e2, e3⟩ := hHeld; exact ⟨cellB hb3 (by have := L2.out.lt; omega) e0, cellB hb3 (by omega) e1, cellB hb3 (by omega) e2, HRun.out _ (hb3.block b (by have := L2.out.ltb; omega))⟩)
 clear hK K
 try simp only [Act.put,nA,nB,nC]
 refine wpAnyH_ready (rs := [10]) (by kernel_rfl) (by simp) ?_
 refine AllReadyH.cons (o := ⟨none, .store 23 (.tmp 8) (.tmp 39), 0, "rings.go:125", #[⟨9, .data⟩, ⟨7, .data⟩, ⟨0, .phase⟩, ⟨1, .phase⟩, ⟨2, .phase⟩, ⟨3, .phase⟩, ⟨4, .phase⟩, ⟨5, .phase⟩, ⟨6, .phase⟩, ⟨7, .phase⟩, ⟨8, .textOnly .lateStores⟩, ⟨9, .phase⟩], none⟩) rfl (fun K hK => ?_) AllReadyH.nil
 (refine step_of rfl (wp_storeD _ _ rfl (w.heap.size + 2) rfl zeros32 l rfl ht0.out rfl hd3 ?_); intro w4 hd4 hb4 hk4 hz4)
 refine hK.out _ _ ?_ (fun hHeld => ?_)
 ·(obtain ⟨e0, e1, e2, e3⟩ := hHeld; exact ⟨cellB hb4 (by have := L2.out.lt; omega) e0, cellB hb4 (by omega) e1, cellB hb4 (by omega) e2, HRun.out _ ((hb4.block b (by have := L2.out.ltb; omega)).trans (hb3.block b (by have := L2.out.ltb; omega)))⟩)
 clear hK K
 try simp only [Act.put,nA,nB,nC]
 refine' tQ 11 ⟨some 9, .assign (.tmp 40), 4, "rings.go:125", #[⟨8, .data⟩, ⟨10, .chain⟩, ⟨0, .phase⟩, ⟨1, .phase⟩, ⟨2, .phase⟩, ⟨3, .phase⟩, ⟨4, .phase⟩, ⟨5, .phase⟩, ⟨6, .phase⟩, ⟨7, .phase⟩, ⟨8, .phase⟩, ⟨9, .phase⟩, ⟨10, .phase⟩], none⟩ rfl (by kernel_rfl) (Or.inl ⟨by rfl, _⟩) _; rotate_left; · (intro s h; (try dsimp only at h); go_simp; try with_reducible rfl)
 try simp only [Act.put,nA,nB,nC]
 refine wpAnyH_done (by kernel_rfl) ?_ _
 have hb24 : Below w2.heap.size w2 w4 := (Below.trans (Below.refl _ _).drew (hb3.mono (by omega))).trans (hb4.mono (by omega))
 have L4 := Lib.hid (L2.out.below hb24)
 have D4 := Lib.hid (D2.out.below hb24 (by omega))
 have E4 := Lib.hid hd4
 have A4 := Lib.hid (heap_below A2.out hb24 (by omega))
 have B4 : Hid (Below w.heap.size w w4) := B2.out.trans (hb24.mono (by omega))
 have z4 : w4.heap.size = w.heap.size + 3 := by rw [hz4, hz3]
 clear L2 D2 A2 B2 HRun c2 d0 d1 hHeld hd3 hb3 hz3 hd4 hb4 hk4 hz4 hb24 hz2
 cases t
 case true =>
  obtain rfl : R = l := ((HT1.out rfl).2.trans HR.out).symm
  clear HT1 IH1 IH2
  set_option maxRecDepth 200000 in
  go_wp2_with (first
   | (refine wpList_loadD rfl _ rfl (w.heap.size + 2) rfl _ ht0.out E4.out ?_; try simp only [Act.put,nA,nB,nC])
   | (refine wpList_storeD rfl _ _ rfl w.heap.size rfl zeros32 _ rfl ht0.out rfl D4.out ?_; intro w5 hd5 hb5 hk5 hz5))
  have HB : Below w.heap.size w w5 := B4.out.trans hb5
  refine bodyPost_ret (v := dv R) ?_ rfl ⟨rfl, hL.out.below HB, Mod.of _ HB⟩
  exact results_cell1 Try.results56 rfl (DB.load hd5 Hl.out)
 case false =>
  clear HT1 E4 ht0
  go_upto_region 11 with (go_at_call 52; refine (half_any n _ hn (by omega)).mono ?_; rintro e w5 ⟨rfl, rfl⟩; rw [HK.out])
  have T : Hid (RI w B p b lv wd L a n w4) := ⟨L4.out, Mod.of _ B4.out, D4.out, A4.out, hL.out.ltb, hL.out.lt, fun g hg => (hL.out.leaves.lt g hg).2, by omega⟩
  clear L4 B4 D4 A4 z4
  have r0 := T.out.cell0
  obtain ⟨ak, hak⟩ : ∃ ak, a + k = ak := ⟨_, rfl⟩
  obtain ⟨nk, hnk⟩ : ∃ nk, n - k = nk := ⟨_, rfl⟩
  have ea : IntKind.i64.wrap ((a : Int) + (k : Int)) = (ak : Int) := by rw [IntWalk.i64_in _ (by omega)]; omega
  have en : IntKind.i64.wrap ((n : Int) - (k : Int)) = (nk : Int) := by rw [IntWalk.i64_in _ (by omega)]; omega
  rw [hak, hnk] at IH2
  clear hak hnk
  refine wp_region_held_drew (S := fun W => W.cell? ⟨p, 0, none⟩ = some (.int .i64 (wd : Int))) (by kernel_rfl) r0 (fun hHeld => ?_)
  refine' tQ 0 ⟨some 45, .move (.tmp 0), 40, "rings.go:129", #[], none⟩ rfl (by kernel_rfl) (Or.inl ⟨by rfl, _⟩) _; rotate_left; · (intro s h; (try dsimp only at h); go_simp; try with_reducible rfl)
  try simp only [Act.put,nA,nB,nC]
  refine' tQ 1 ⟨some 46, .nilCheck (.tmp 45), 0, "rings.go:129", #[⟨0, .data⟩], none⟩ rfl (by kernel_rfl) (Or.inl ⟨by rfl, _⟩) _; rotate_left; · (intro s h; (try dsimp only at h); go_simp; try with_reducible rfl)
  try simp only [Act.put,nA,nB,nC]
  refine' tQ 2 ⟨some 47, .fieldAddr 101 (.tmp 46) 0, 0, "rings.go:129", #[⟨1, .data⟩], none⟩ rfl (by kernel_rfl) (Or.inl ⟨by rfl, _⟩) _; rotate_left; · (intro s h; (try dsimp only at h); go_simp; try with_reducible rfl)
  try simp only [Act.put,nA,nB,nC]
  refine' tQ 3 ⟨some 48, .load 3 (.tmp 47), 3, "rings.go:129", #[⟨2, .data⟩], none⟩ rfl (by kernel_rfl) (Or.inl ⟨by rfl, _⟩) _; rotate_left; · (intro s h; (try dsimp only at h); go_simp; try with_reducible rfl)
  try simp only [Act.put,nA,nB,nC]
  refine' tQ 4 ⟨some 49, .move (.tmp 0), 40, "rings.go:129", #[], none⟩ rfl (by kernel_rfl) (Or.inl ⟨by rfl, _⟩) _; rotate_left; · (intro s h; (try dsimp only at h); go_simp; try with_reducible rfl)
  try simp only [Act.put,nA,nB,nC]
  refine' tQ 5 ⟨some 50, .move (.tmp 1), 3, "rings.go:129", #[], none⟩ rfl (by kernel_rfl) (Or.inl ⟨by rfl, _⟩) _; rotate_left; · (intro s h; (try dsimp only at h); go_simp; try with_reducible rfl)
  try simp only [Act.put,nA,nB,nC]
  refine' tQ 6 ⟨some 51, .move (.tmp 10), 3, "rings.go:129", #[], none⟩ rfl (by kernel_rfl) (Or.inl ⟨by rfl, _⟩) _; rotate_left; · (intro s h; (try dsimp only at h); go_simp; try with_reducible rfl)
  try simp only [Act.put,nA,nB,nC]
  refine' tQ 8 ⟨some 53, .move (.tmp 0), 40, "rings.go:129", #[], none⟩ rfl (by kernel_rfl) (Or.inl ⟨by rfl, _⟩) _; rotate_left; · (intro s h; (try dsimp only at h); go_simp; try with_reducible rfl)
  try simp only [Act.put,nA,nB,nC]
  refine' tQ 9 ⟨some 54, .move (.tmp 1), 3, "rings.go:129", #[], none⟩ rfl (by kernel_rfl) (Or.inl ⟨by rfl, _⟩) _; rotate_left; · (intro s h; (try dsimp only at h); go_simp; try with_reducible rfl)
  try simp only [Act.put,nA,nB,nC]
  refine' tQ 10 ⟨some 55, .move (.tmp 10), 3, "rings.go:129", #[], none⟩ rfl (by kernel_rfl) (Or.inl ⟨by rfl, _⟩) _; rotate_left; · (intro s h; (try dsimp only at h); go_simp; try with_reducible rfl)
  try simp only [Act.put,nA,nB,nC]
  refine' tQ 11 ⟨some 56, .binOp .add 3 (.tmp 54) (.tmp 55) 3, 3, "rings.go:129", #[⟨9, .data⟩, ⟨10, .data⟩], none⟩ rfl (by kernel_rfl) (Or.inl ⟨by rfl, _⟩) _; rotate_left; · (intro s h; (try dsimp only at h); go_simp; try with_reducible rfl)
  try simp only [Act.put,nA,nB,nC]
  refine' tQ 12 ⟨some 57, .move (.tmp 2), 3, "rings.go:129", #[], none⟩ rfl (by kernel_rfl) (Or.inl ⟨by rfl, _⟩) _; rotate_left; · (intro s h; (try dsimp only at h); go_simp; try with_reducible rfl)
  try simp only [Act.put,nA,nB,nC]
  refine' tQ 13 ⟨some 58, .move (.tmp 10), 3, "rings.go:129", #[], none⟩ rfl (by kernel_rfl) (Or.inl ⟨by rfl, _⟩) _; rotate_left; · (intro s h; (try dsimp only at h); go_simp; try with_reducible rfl)
  try simp only [Act.put,nA,nB,nC]
  refine' tQ 14 ⟨some 59, .binOp .sub 3 (.tmp 57) (.tmp 58) 3, 3, "rings.go:129", #[⟨12, .data⟩, ⟨13, .data⟩], none⟩ rfl (by kernel_rfl) (Or.inl ⟨by rfl, _⟩) _; rotate_left; · (intro s h; (try dsimp only at h); go_simp; try with_reducible rfl)
  try simp only [Act.put,nA,nB,nC]
  clear r0 ea en
  have T0 := Lib.hid T.out.drew
  obtain ⟨y0, hy⟩ : ∃ y : World, w4.drew = y := ⟨_, rfl⟩
  rw [hy] at T0 ⊢
  clear hy T
  refine wpAnyH_ready (rs := [7, 17]) (by kernel_rfl) (by simp) ?_
  refine AllReadyH.cons (o := ⟨some 52, .call ⟨.value (.func 56), #[.tmp 49, .tmp 50, .tmp 51], #[40, 3, 3]⟩, 23, "rings.go:129", #[⟨4, .data⟩, ⟨5, .data⟩, ⟨6, .data⟩], none⟩) rfl (fun K hK => ?_) (AllReadyH.cons (o := ⟨some 11, .alloc 23, 0, "rings.go:129", #[], none⟩) rfl (fun K hK => ?_) AllReadyH.nil)
  ·go_simp
   go_at_call 56
   refine (IH1.out _ T0.out.log).mono ?_
   rintro e y1 ⟨rfl, hl, hm⟩
   have T1 := Lib.hid (T0.out.mods hl hm)
   refine hK.out _ _ ?_ (fun hHeld => ?_)
   ·exact T1.out.cell0
   clear hK K hm hl T0
   try simp only [Act.put,nA,nB,nC]
   refine wpAnyH_ready (rs := [15, 17]) (by kernel_rfl) (by simp) ?_
   refine AllReadyH.cons (o := ⟨some 60, .call ⟨.value (.func 56), #[.tmp 53, .tmp 56, .tmp 59], #[40, 3, 3]⟩, 23, "rings.go:129", #[⟨8, .data⟩, ⟨11, .data⟩, ⟨14, .data⟩, ⟨7, .chain⟩], none⟩) rfl (fun K hK => ?_) (AllReadyH.cons (o := ⟨some 11, .alloc 23, 0, "rings.go:129", #[], none⟩) rfl (fun K hK => ?_) AllReadyH.nil)
   ·go_simp
    go_at_call 56
    refine (IH2.out _ T1.out.log).mono ?_
    rintro e y2 ⟨rfl, hl, hm⟩
    have T2 := Lib.hid (T1.out.mods hl hm)
    refine hK.out _ _ ?_ (fun hHeld => ?_)
    ·exact T2.out.cell0
    clear hK K hm hl T1
    try simp only [Act.put,nA,nB,nC]
    refine wpAnyH_ready (rs := [16, 17]) (by kernel_rfl) (by simp) ?_
    refine AllReadyH.cons (o := ⟨some 61, .call ⟨.value (.func 53), #[.tmp 48, .tmp 52, .tmp 60], #[3, 23, 23]⟩, 23, "rings.go:129", #[⟨3, .data⟩, ⟨7, .data⟩, ⟨15, .data⟩, ⟨15, .chain⟩], none⟩) rfl (fun K hK => ?_) (AllReadyH.cons (o := ⟨some 11, .alloc 23, 0, "rings.go:129", #[], none⟩) rfl (fun K hK => ?_) AllReadyH.nil)
    ·go_simp
     go_at_call 53
     refine (knot_any wd X Y _ hwd Hl1.out Hl2.out).mono ?_
     rintro e y3 ⟨rfl, hm⟩
     rw [HSp.out]
     have T3 := Lib.hid (T2.out.below hm)
     refine hK.out _ _ ?_ (fun hHeld => ?_)
     ·exact T3.out.cell0
     clear hK K hm T2
     try simp only [Act.put,nA,nB,nC]
     refine wpAnyH_ready (rs := [17]) (by kernel_rfl) (by simp) ?_
     refine AllReadyH.cons (o := ⟨some 11, .alloc 23, 0, "rings.go:129", #[], none⟩) rfl (fun K hK => ?_) AllReadyH.nil
     refine step_of rfl (wp_allocD rfl _ rfl ?_)
     intro y4 hd hb hz
     have hN : w.heap.size + 3 ≤ y3.heap.size := T3.out.sz
     have hNb : ¬ y3.heap.size = b := by have := T3.out.bz; omega
     have T4 := Lib.hid (T3.out.below hb)
     have E4 := Lib.hid hd
     clear hb hz hd
     obtain ⟨N, hNe⟩ : ∃ N, y3.heap.size = N := ⟨_, rfl⟩
     rw [hNe] at E4 hN hNb ⊢
     refine hK.out _ _ ?_ (fun hHeld => ?_)
     ·exact T4.out.cell0
     clear hK K T3 hNe
     try simp only [Act.put,nA,nB,nC]
     refine wpAnyH_ready (rs := [18]) (by kernel_rfl) (by simp) ?_
     refine AllReadyH.cons (o := ⟨none, .store 23 (.tmp 11) (.tmp 61), 0, "rings.go:129", #[⟨17, .data⟩, ⟨16, .data⟩, ⟨16, .chain⟩, ⟨0, .phase⟩, ⟨1, .phase⟩, ⟨2, .phase⟩, ⟨3, .phase⟩, ⟨4, .phase⟩, ⟨5, .phase⟩, ⟨6, .phase⟩, ⟨7, .phase⟩, ⟨8, .phase⟩, ⟨9, .phase⟩, ⟨10, .phase⟩, ⟨11, .phase⟩, ⟨12, .phase⟩, ⟨13, .phase⟩, ⟨14, .phase⟩, ⟨15, .phase⟩, ⟨16, .phase⟩, ⟨17, .phase⟩], none⟩) rfl (fun K hK => ?_) AllReadyH.nil
     (refine step_of rfl (wp_storeD _ _ rfl N rfl zeros32 R rfl Hl.out rfl E4.out ?_); intro y hd hb hk hz; have T := Lib.hid (T4.out.keptN hk hN))
     refine hK.out _ _ ?_ (fun hHeld => ?_)
     ·exact T.out.cell0
     clear hK K
     try simp only [Act.put,nA,nB,nC]
     have E := Lib.hid hd
     clear hd hb hk hz E4 T4
     refine wpAnyH_done (by kernel_rfl) ?_ _
     clear hHeld
     have e0 := T.out.cell2
     have e1 := T.out.key0
     have e2 := T.out.key1
     by_cases h2 : 2 * k = n
     ·have h2b : (2 * (k : Int) == (n : Int)) = true := by simp; omega
      have h2c : decide (2 * k = n) = true := by simp; omega
      set_option maxRecDepth 20000 in
      go_upto_region 13 with fail
      refine wp_region_held_drew (S := fun W => W.cell? ⟨p, 2, none⟩ = some (.map (some b)) ∧ W.cell? ⟨w.heap.size + 1, 0, none⟩ = some (.int .i64 (a : Int)) ∧ W.cell? ⟨w.heap.size + 1, 1, none⟩ = some (.int .i64 (n : Int)) ∧ DB W N R) (by kernel_rfl) ⟨e0, e1, e2, E.out⟩ (fun hHeld => ?_)
      refine' tQ 0 ⟨some 66, .move (.tmp 0), 40, "rings.go:131", #[], none⟩ rfl (by kernel_rfl) (Or.inl ⟨by rfl, _⟩) _; rotate_left; · (intro s h; (try dsimp only at h); go_simp; try with_reducible rfl)
      try simp only [Act.put,nA,nB,nC]
      refine' tQ 1 ⟨some 67, .nilCheck (.tmp 66), 0, "rings.go:131", #[⟨0, .data⟩], none⟩ rfl (by kernel_rfl) (Or.inl ⟨by rfl, _⟩) _; rotate_left; · (intro s h; (try dsimp only at h); go_simp; try with_reducible rfl)
      try simp only [Act.put,nA,nB,nC]
      refine' tQ 2 ⟨some 68, .fieldAddr 101 (.tmp 67) 2, 0, "rings.go:131", #[⟨1, .data⟩], none⟩ rfl (by kernel_rfl) (Or.inl ⟨by rfl, _⟩) _; rotate_left; · (intro s h; (try dsimp only at h); go_simp; try with_reducible rfl)
      try simp only [Act.put,nA,nB,nC]
      refine' tQ 3 ⟨some 69, .load 99 (.tmp 68), 99, "rings.go:131", #[⟨2, .data⟩], none⟩ rfl (by kernel_rfl) (Or.inl ⟨by rfl, _⟩) _; rotate_left; · (intro s h; (try dsimp only at h); go_simp; try with_reducible rfl)
      try simp only [Act.put,nA,nB,nC]
      refine' tQ 4 ⟨some 70, .load 62 (.tmp 7), 62, "rings.go:131", #[], none⟩ rfl (by kernel_rfl) (Or.inl ⟨by rfl, _⟩) _; rotate_left; · (intro s h; (try dsimp only at h); go_simp; try with_reducible rfl)
      try simp only [Act.put,nA,nB,nC]
      refine' tQ 5 ⟨some 71, .load 23 (.tmp 11), 23, "rings.go:131", #[], none⟩ rfl (by kernel_rfl) (yieldsIf_loadD (by rfl) _ rfl (N) rfl (R) (Hl.out) (fun W hW => hW.2.2.2)) _
      try simp only [Act.put,nA,nB,nC]
      refine wpAnyH_ready (rs := [6]) (by kernel_rfl) (by simp) ?_
      refine AllReadyH.cons (o := ⟨none, .mapUpdate 99 (.tmp 69) (.tmp 70) (.tmp 71), 0, "rings.go:131", #[⟨3, .data⟩, ⟨4, .data⟩, ⟨5, .data⟩, ⟨0, .phase⟩, ⟨1, .phase⟩, ⟨2, .phase⟩, ⟨3, .phase⟩, ⟨4, .phase⟩, ⟨5, .phase⟩], none⟩) rfl (fun K hK => ?_) AllReadyH.nil
      (refine step_of rfl (wp_storeR _ _ _ _ rfl b wd L rfl T.out.log.drew.map hlen a n rfl han (by rw [HR.out]; rfl) ?_); intro y9 hr9 hg9; have T9 := Lib.hid (T.out.drew.grown hr9 hg9); have E9 : Hid (DB y9 N R) := (hg9.block N (heap_lt E.out) (fun e => hNb (Option.some.inj e))).trans E.out)
      refine hK.out _ _ ?_ (fun hHeld => ?_)
      ·exact ⟨T9.out.cell2, T9.out.key0, T9.out.key1, E9.out⟩
      clear hK K
      try simp only [Act.put,nA,nB,nC]
      refine wpAnyH_done (by kernel_rfl) ?_ _
      clear hHeld e0 e1 e2
      set_option maxRecDepth 20000 in
      go_wp2_with (first
       | (refine wpList_loadD rfl _ rfl N rfl R Hl.out E9.out ?_; try simp only [Act.put,nA,nB,nC])
       | (refine wpList_storeD rfl _ _ rfl w.heap.size rfl zeros32 R rfl Hl.out rfl T9.out.d ?_; intro w9 hd9 hb9 hk9 hz9))
      refine bodyPost_ret (v := dv R) ?_ rfl ⟨rfl, T9.out.kept hk9⟩
      exact results_cell1 Try.results56 rfl (DB.load hd9 Hl.out)
     ·have h2b : (2 * (k : Int) == (n : Int)) = false := by simp; omega
      have h2c : decide (2 * k = n) = false := by simp; omega
      clear e0 e1 e2
      set_option maxRecDepth 20000 in
      go_wp2_with (first
       | (refine wpList_loadD rfl _ rfl N rfl R Hl.out E.out ?_; try simp only [Act.put,nA,nB,nC])
       | (refine wpList_storeD rfl _ _ rfl w.heap.size rfl zeros32 R rfl Hl.out rfl T.out.d ?_; intro w9 hd9 hb9 hk9 hz9))
      refine bodyPost_ret (v := dv R) ?_ rfl ⟨rfl, T.out.kept hk9⟩
      exact results_cell1 Try.results56 rfl (DB.load hd9 Hl.out)
    ·refine step_of rfl (wp_allocD rfl _ rfl ?_)
     intro y3 hd hb hz
     have hN : w.heap.size + 3 ≤ y2.heap.size := T2.out.sz
     have hNb : ¬ y2.heap.size = b := by have := T2.out.bz; omega
     have T3 := Lib.hid (T2.out.below hb)
     have E3 := Lib.hid hd
     clear hb hz hd
     obtain ⟨N, hNe⟩ : ∃ N, y2.heap.size = N := ⟨_, rfl⟩
     rw [hNe] at E3 hN hNb ⊢
     refine hK.out _ _ ?_ (fun hHeld => ?_)
     ·exact T3.out.cell0
     clear hK K T2 hNe
     try simp only [Act.put,nA,nB,nC]
     refine wpAnyH_ready (rs := [16]) (by kernel_rfl) (by simp) ?_
     refine AllReadyH.cons (o := ⟨some 61, .call ⟨.value (.func 53), #[.tmp 48, .tmp 52, .tmp 60], #[3, 23, 23]⟩, 23, "rings.go:129", #[⟨3, .data⟩, ⟨7, .data⟩, ⟨15, .data⟩, ⟨15, .chain⟩], none⟩) rfl (fun K hK => ?_) AllReadyH.nil
     go_simp
     go_at_call 53
     refine (knot_any wd X Y _ hwd Hl1.out Hl2.out).mono ?_
     rintro e y4 ⟨rfl, hm⟩
     rw [HSp.out]
     have T4 := Lib.hid (T3.out.below hm)
     have E4 : Hid (DB y4 N zeros32) := heap_below E3.out hm (heap_lt E3.out)
     refine hK.out _ _ ?_ (fun hHeld => ?_)
     ·exact T4.out.cell0
     clear hK K hm T3 E3
     try simp only [Act.put,nA,nB,nC]
     refine wpAnyH_ready (rs := [18]) (by kernel_rfl) (by simp) ?_
     refine AllReadyH.cons (o := ⟨none, .store 23 (.tmp 11) (.tmp 61), 0, "rings.go:129", #[⟨17, .data⟩, ⟨16, .data⟩, ⟨16, .chain⟩, ⟨0, .phase⟩, ⟨1, .phase⟩, ⟨2, .phase⟩, ⟨3, .phase⟩, ⟨4, .phase⟩, ⟨5, .phase⟩, ⟨6, .phase⟩, ⟨7, .phase⟩, ⟨8, .phase⟩, ⟨9, .phase⟩, ⟨10, .phase⟩, ⟨11, .phase⟩, ⟨12, .phase⟩, ⟨13, .phase⟩, ⟨14, .phase⟩, ⟨15, .phase⟩, ⟨16, .phase⟩, ⟨17, .phase⟩], none⟩) rfl (fun K hK => ?_) AllReadyH.nil
     (refine step_of rfl (wp_storeD _ _ rfl N rfl zeros32 R rfl Hl.out rfl E4.out ?_); intro y hd hb hk hz; have T := Lib.hid (T4.out.keptN hk hN))
     refine hK.out _ _ ?_ (fun hHeld => ?_)
     ·exact T.out.cell0
     clear hK K
     try simp only [Act.put,nA,nB,nC]
     have E := Lib.hid hd
     clear hd hb hk hz E4 T4
     refine wpAnyH_done (by kernel_rfl) ?_ _
     clear hHeld
     have e0 := T.out.cell2
     have e1 := T.out.key0
     have e2 := T.out.key1
     by_cases h2 : 2 * k = n
     ·have h2b : (2 * (k : Int) == (n : Int)) = true := by simp; omega
      have h2c : decide (2 * k = n) = true := by simp; omega
      set_option maxRecDepth 20000 in
      go_upto_region 13 with fail
      refine wp_region_held_drew (S := fun W => W.cell? ⟨p, 2, none⟩ = some (.map (some b)) ∧ W.cell? ⟨w.heap.size + 1, 0, none⟩ = some (.int .i64 (a : Int)) ∧ W.cell? ⟨w.heap.size + 1, 1, none⟩ = some (.int .i64 (n : Int)) ∧ DB W N R) (by kernel_rfl) ⟨e0, e1, e2, E.out⟩ (fun hHeld => ?_)
      refine' tQ 0 ⟨some 66, .move (.tmp 0), 40, "rings.go:131", #[], none⟩ rfl (by kernel_rfl) (Or.inl ⟨by rfl, _⟩) _; rotate_left; · (intro s h; (try dsimp only at h); go_simp; try with_reducible rfl)
      try simp only [Act.put,nA,nB,nC]
      refine' tQ 1 ⟨some 67, .nilCheck (.tmp 66), 0, "rings.go:131", #[⟨0, .data⟩], none⟩ rfl (by kernel_rfl) (Or.inl ⟨by rfl, _⟩) _; rotate_left; · (intro s h; (try dsimp only at h); go_simp; try with_reducible rfl)
      try simp only [Act.put,nA,nB,nC]
      refine' tQ 2 ⟨some 68, .fieldAddr 101 (.tmp 67) 2, 0, "rings.go:131", #[⟨1, .data⟩], none⟩ rfl (by kernel_rfl) (Or.inl ⟨by rfl, _⟩) _; rotate_left; · (intro s h; (try dsimp only at h); go_simp; try with_reducible rfl)
      try simp only [Act.put,nA,nB,nC]
      refine' tQ 3 ⟨some 69, .load 99 (.tmp 68), 99, "rings.go:131", #[⟨2, .data⟩], none⟩ rfl (by kernel_rfl) (Or.inl ⟨by rfl, _⟩) _; rotate_left; · (intro s h; (try dsimp only at h); go_simp; try with_reducible rfl)
      try simp only [Act.put,nA,nB,nC]
      refine' tQ 4 ⟨some 70, .load 62 (.tmp 7), 62, "rings.go:131", #[], none⟩ rfl (by kernel_rfl) (Or.inl ⟨by rfl, _⟩) _; rotate_left; · (intro s h; (try dsimp only at h); go_simp; try with_reducible rfl)
      try simp only [Act.put,nA,nB,nC]
      refine' tQ 5 ⟨some 71, .load 23 (.tmp 11), 23, "rings.go:131", #[], none⟩ rfl (by kernel_rfl) (yieldsIf_loadD (by rfl) _ rfl (N) rfl (R) (Hl.out) (fun W hW => hW.2.2.2)) _
      try simp only [Act.put,nA,nB,nC]
      refine wpAnyH_ready (rs := [6]) (by kernel_rfl) (by simp) ?_
      refine AllReadyH.cons (o := ⟨none, .mapUpdate 99 (.tmp 69) (.tmp 70) (.tmp 71), 0, "rings.go:131", #[⟨3, .data⟩, ⟨4, .data⟩, ⟨5, .data⟩, ⟨0, .phase⟩, ⟨1, .phase⟩, ⟨2, .phase⟩, ⟨3, .phase⟩, ⟨4, .phase⟩, ⟨5, .phase⟩], none⟩) rfl (fun K hK => ?_) AllReadyH.nil
      (refine step_of rfl (wp_storeR _ _ _ _ rfl b wd L rfl T.out.log.drew.map hlen a n rfl han (by rw [HR.out]; rfl) ?_); intro y9 hr9 hg9; have T9 := Lib.hid (T.out.drew.grown hr9 hg9); have E9 : Hid (DB y9 N R) := (hg9.block N (heap_lt E.out) (fun e => hNb (Option.some.inj e))).trans E.out)
      refine hK.out _ _ ?_ (fun hHeld => ?_)
      ·exact ⟨T9.out.cell2, T9.out.key0, T9.out.key1, E9.out⟩
      clear hK K
      try simp only [Act.put,nA,nB,nC]
      refine wpAnyH_done (by kernel_rfl) ?_ _
      clear hHeld e0 e1 e2
      set_option maxRecDepth 20000 in
      go_wp2_with (first
       | (refine wpList_loadD rfl _ rfl N rfl R Hl.out E9.out ?_; try simp only [Act.put,nA,nB,nC])
       | (refine wpList_storeD rfl _ _ rfl w.heap.size rfl zeros32 R rfl Hl.out rfl T9.out.d ?_; intro w9 hd9 hb9 hk9 hz9))
      refine bodyPost_ret (v := dv R) ?_ rfl ⟨rfl, T9.out.kept hk9⟩
      exact results_cell1 Try.results56 rfl (DB.load hd9 Hl.out)
     ·have h2b : (2 * (k : Int) == (n : Int)) = false := by simp; omega
      have h2c : decide (2 * k = n) = false := by simp; omega
      clear e0 e1 e2
      set_option maxRecDepth 20000 in
      go_wp2_with (first
       | (refine wpList_loadD rfl _ rfl N rfl R Hl.out E.out ?_; try simp only [Act.put,nA,nB,nC])
       | (refine wpList_storeD rfl _ _ rfl w.heap.size rfl zeros32 R rfl Hl.out rfl T.out.d ?_; intro w9 hd9 hb9 hk9 hz9))
      refine bodyPost_ret (v := dv R) ?_ rfl ⟨rfl, T.out.kept hk9⟩
      exact results_cell1 Try.results56 rfl (DB.load hd9 Hl.out)
   ·refine step_of rfl (wp_allocD rfl _ rfl ?_)
    intro y2 hd hb hz
    have hN : w.heap.size + 3 ≤ y1.heap.size := T1.out.sz
    have hNb : ¬ y1.heap.size = b := by have := T1.out.bz; omega
    have T2 := Lib.hid (T1.out.below hb)
    have E2 := Lib.hid hd
    clear hb hz hd
    obtain ⟨N, hNe⟩ : ∃ N, y1.heap.size = N := ⟨_, rfl⟩
    rw [hNe] at E2 hN hNb ⊢
    refine hK.out _ _ ?_ (fun hHeld => ?_)
    ·exact T2.out.cell0
    clear hK K T1 hNe
    try simp only [Act.put,nA,nB,nC]
    refine wpAnyH_ready (rs := [15]) (by kernel_rfl) (by simp) ?_
    refine AllReadyH.cons (o := ⟨some 60, .call ⟨.value (.func 56), #[.tmp 53, .tmp 56, .tmp 59], #[40, 3, 3]⟩, 23, "rings.go:129", #[⟨8, .data⟩, ⟨11, .data⟩, ⟨14, .data⟩, ⟨7, .chain⟩], none⟩) rfl (fun K hK => ?_) AllReadyH.nil
    go_simp
    go_at_call 56
    refine (IH2.out _ T2.out.log).mono ?_
    rintro e y3 ⟨rfl, hl, hm⟩
    have T3 := Lib.hid (T2.out.mods hl hm)
    have E3 : Hid (DB y3 N zeros32) := hm.heap E2.out hNb
    refine hK.out _ _ ?_ (fun hHeld => ?_)
    ·exact T3.out.cell0
    clear hK K hm hl T2 E2
    try simp only [Act.put,nA,nB,nC]
    refine wpAnyH_ready (rs := [16]) (by kernel_rfl) (by simp) ?_
    refine AllReadyH.cons (o := ⟨some 61, .call ⟨.value (.func 53), #[.tmp 48, .tmp 52, .tmp 60], #[3, 23, 23]⟩, 23, "rings.go:129", #[⟨3, .data⟩, ⟨7, .data⟩, ⟨15, .data⟩, ⟨15, .chain⟩], none⟩) rfl (fun K hK => ?_) AllReadyH.nil
    go_simp
    go_at_call 53
    refine (knot_any wd X Y _ hwd Hl1.out Hl2.out).mono ?_
    rintro e y4 ⟨rfl, hm⟩
    rw [HSp.out]
    have T4 := Lib.hid (T3.out.below hm)
    have E4 : Hid (DB y4 N zeros32) := heap_below E3.out hm (heap_lt E3.out)
    refine hK.out _ _ ?_ (fun hHeld => ?_)
    ·exact T4.out.cell0
    clear hK K hm T3 E3
    try simp only [Act.put,nA,nB,nC]
    refine wpAnyH_ready (rs := [18]) (by kernel_rfl) (by simp) ?_
    refine AllReadyH.cons (o := ⟨none, .store 23 (.tmp 11) (.tmp 61), 0, "rings.go:129", #[⟨17, .data⟩, ⟨16, .data⟩, ⟨16, .chain⟩, ⟨0, .phase⟩, ⟨1, .phase⟩, ⟨2, .phase⟩, ⟨3, .phase⟩, ⟨4, .phase⟩, ⟨5, .phase⟩, ⟨6, .phase⟩, ⟨7, .phase⟩, ⟨8, .phase⟩, ⟨9, .phase⟩, ⟨10, .phase⟩, ⟨11, .phase⟩, ⟨12, .phase⟩, ⟨13, .phase⟩, ⟨14, .phase⟩, ⟨15, .phase⟩, ⟨16, .phase⟩, ⟨17, .phase⟩], none⟩) rfl (fun K hK => ?_) AllReadyH.nil
    (refine step_of rfl (wp_storeD _ _ rfl N rfl zeros32 R rfl Hl.out rfl E4.out ?_); intro y hd hb hk hz; have T := Lib.hid (T4.out.keptN hk hN))
    refine hK.out _ _ ?_ (fun hHeld => ?_)
    ·exact T.out.cell0
    clear hK K
    try simp only [Act.put,nA,nB,nC]
    have E := Lib.hid hd
    clear hd hb hk hz E4 T4
    refine wpAnyH_done (by kernel_rfl) ?_ _
    clear hHeld
    have e0 := T.out.cell2
    have e1 := T.out.key0
    have e2 := T.out.key1
    by_cases h2 : 2 * k = n
    ·have h2b : (2 * (k : Int) == (n : Int)) = true := by simp; omega
     have h2c : decide (2 * k = n) = true := by simp; omega
     set_option maxRecDepth 20000 in
     go_upto_region 13 with fail
     refine wp_region_held_drew (S := fun W => W.cell? ⟨p, 2, none⟩ = some (.map (some b)) ∧ W.cell? ⟨w.heap.size + 1, 0, none⟩ = some (.int .i64 (a : Int)) ∧ W.cell? ⟨w.heap.size + 1, 1, none⟩ = some (.int .i64 (n : Int)) ∧ DB W N R) (by kernel_rfl) ⟨e0, e1, e2, E.out⟩ (fun hHeld => ?_)
     refine' tQ 0 ⟨some 66, .move (.tmp 0), 40, "rings.go:131", #[], none⟩ rfl (by kernel_rfl) (Or.inl ⟨by rfl, _⟩) _; rotate_left; · (intro s h; (try dsimp only at h); go_simp; try with_reducible rfl)
     try simp only [Act.put,nA,nB,nC]
     refine' tQ 1 ⟨some 67, .nilCheck (.tmp 66), 0, "rings.go:131", #[⟨0, .data⟩], none⟩ rfl (by kernel_rfl) (Or.inl ⟨by rfl, _⟩) _; rotate_left; · (intro s h; (try dsimp only at h); go_simp; try with_reducible rfl)
     try simp only [Act.put,nA,nB,nC]
     refine' tQ 2 ⟨some 68, .fieldAddr 101 (.tmp 67) 2, 0, "rings.go:131", #[⟨1, .data⟩], none⟩ rfl (by kernel_rfl) (Or.inl ⟨by rfl, _⟩) _; rotate_left; · (intro s h; (try dsimp only at h); go_simp; try with_reducible rfl)
     try simp only [Act.put,nA,nB,nC]
     refine' tQ 3 ⟨some 69, .load 99 (.tmp 68), 99, "rings.go:131", #[⟨2, .data⟩], none⟩ rfl (by kernel_rfl) (Or.inl ⟨by rfl, _⟩) _; rotate_left; · (intro s h; (try dsimp only at h); go_simp; try with_reducible rfl)
     try simp only [Act.put,nA,nB,nC]
     refine' tQ 4 ⟨some 70, .load 62 (.tmp 7), 62, "rings.go:131", #[], none⟩ rfl (by kernel_rfl) (Or.inl ⟨by rfl, _⟩) _; rotate_left; · (intro s h; (try dsimp only at h); go_simp; try with_reducible rfl)
     try simp only [Act.put,nA,nB,nC]
     refine' tQ 5 ⟨some 71, .load 23 (.tmp 11), 23, "rings.go:131", #[], none⟩ rfl (by kernel_rfl) (yieldsIf_loadD (by rfl) _ rfl (N) rfl (R) (Hl.out) (fun W hW => hW.2.2.2)) _
     try simp only [Act.put,nA,nB,nC]
     refine wpAnyH_ready (rs := [6]) (by kernel_rfl) (by simp) ?_
     refine AllReadyH.cons (o := ⟨none, .mapUpdate 99 (.tmp 69) (.tmp 70) (.tmp 71), 0, "rings.go:131", #[⟨3, .data⟩, ⟨4, .data⟩, ⟨5, .data⟩, ⟨0, .phase⟩, ⟨1, .phase⟩, ⟨2, .phase⟩, ⟨3, .phase⟩, ⟨4, .phase⟩, ⟨5, .phase⟩], none⟩) rfl (fun K hK => ?_) AllReadyH.nil
     (refine step_of rfl (wp_storeR _ _ _ _ rfl b wd L rfl T.out.log.drew.map hlen a n rfl han (by rw [HR.out]; rfl) ?_); intro y9 hr9 hg9; have T9 := Lib.hid (T.out.drew.grown hr9 hg9); have E9 : Hid (DB y9 N R) := (hg9.block N (heap_lt E.out) (fun e => hNb (Option.some.inj e))).trans E.out)
     refine hK.out _ _ ?_ (fun hHeld => ?_)
     ·exact ⟨T9.out.cell2, T9.out.key0, T9.out.key1, E9.out⟩
     clear hK K
     try simp only [Act.put,nA,nB,nC]
     refine wpAnyH_done (by kernel_rfl) ?_ _
     clear hHeld e0 e1 e2
     set_option maxRecDepth 20000 in
     go_wp2_with (first
      | (refine wpList_loadD rfl _ rfl N rfl R Hl.out E9.out ?_; try simp only [Act.put,nA,nB,nC])
      | (refine wpList_storeD rfl _ _ rfl w.heap.size rfl zeros32 R rfl Hl.out rfl T9.out.d ?_; intro w9 hd9 hb9 hk9 hz9))
     refine bodyPost_ret (v := dv R) ?_ rfl ⟨rfl, T9.out.kept hk9⟩
     exact results_cell1 Try.results56 rfl (DB.load hd9 Hl.out)
    ·have h2b : (2 * (k : Int) == (n : Int)) = false := by simp; omega
     have h2c : decide (2 * k = n) = false := by simp; omega
     clear e0 e1 e2
     set_option maxRecDepth 20000 in
     go_wp2_with (first
      | (refine wpList_loadD rfl _ rfl N rfl R Hl.out E.out ?_; try simp only [Act.put,nA,nB,nC])
      | (refine wpList_storeD rfl _ _ rfl w.heap.size rfl zeros32 R rfl Hl.out rfl T.out.d ?_; intro w9 hd9 hb9 hk9 hz9))
     refine bodyPost_ret (v := dv R) ?_ rfl ⟨rfl, T.out.kept hk9⟩
     exact results_cell1 Try.results56 rfl (DB.load hd9 Hl.out)
  ·refine step_of rfl (wp_allocD rfl _ rfl ?_)
   intro y1 hd hb hz
   have hN : w.heap.size + 3 ≤ y0.heap.size := T0.out.sz
   have hNb : ¬ y0.heap.size = b := by have := T0.out.bz; omega
   have T1 := Lib.hid (T0.out.below hb)
   have E1 := Lib.hid hd
   clear hb hz hd
   obtain ⟨N, hNe⟩ : ∃ N, y0.heap.size = N := ⟨_, rfl⟩
   rw [hNe] at E1 hN hNb ⊢
   refine hK.out _ _ ?_ (fun hHeld => ?_)
   ·exact T1.out.cell0
   clear hK K T0 hNe
   try simp only [Act.put,nA,nB,nC]
   refine wpAnyH_ready (rs := [7]) (by kernel_rfl) (by simp) ?_
   refine AllReadyH.cons (o := ⟨some 52, .call ⟨.value (.func 56), #[.tmp 49, .tmp 50, .tmp 51], #[40, 3, 3]⟩, 23, "rings.go:129", #[⟨4, .data⟩, ⟨5, .data⟩, ⟨6, .data⟩], none⟩) rfl (fun K hK => ?_) AllReadyH.nil
   go_simp
   go_at_call 56
   refine (IH1.out _ T1.out.log).mono ?_
   rintro e y2 ⟨rfl, hl, hm⟩
   have T2 := Lib.hid (T1.out.mods hl hm)
   have E2 : Hid (DB y2 N zeros32) := hm.heap E1.out hNb
   refine hK.out _ _ ?_ (fun hHeld => ?_)
   ·exact T2.out.cell0
   clear hK K hm hl T1 E1
   try simp only [Act.put,nA,nB,nC]
   refine wpAnyH_ready (rs := [15]) (by kernel_rfl) (by simp) ?_
   refine AllReadyH.cons (o := ⟨some 60, .call ⟨.value (.func 56), #[.tmp 53, .tmp 56, .tmp 59], #[40, 3, 3]⟩, 23, "rings.go:129", #[⟨8, .data⟩, ⟨11, .data⟩, ⟨14, .data⟩, ⟨7, .chain⟩], none⟩) rfl (fun K hK => ?_) AllReadyH.nil
   go_simp
   go_at_call 56
   refine (IH2.out _ T2.out.log).mono ?_
   rintro e y3 ⟨rfl, hl, hm⟩
   have T3 := Lib.hid (T2.out.mods hl hm)
   have E3 : Hid (DB y3 N zeros32) := hm.heap E2.out hNb
   refine hK.out _ _ ?_ (fun hHeld => ?_)
   ·exact T3.out.cell0
   clear hK K hm hl T2 E2
   try simp only [Act.put,nA,nB,nC]
   refine wpAnyH_ready (rs := [16]) (by kernel_rfl) (by simp) ?_
   refine AllReadyH.cons (o := ⟨some 61, .call ⟨.value (.func 53), #[.tmp 48, .tmp 52, .tmp 60], #[3, 23, 23]⟩, 23, "rings.go:129", #[⟨3, .data⟩, ⟨7, .data⟩, ⟨15, .data⟩, ⟨15, .chain⟩], none⟩) rfl (fun K hK => ?_) AllReadyH.nil
   go_simp
   go_at_call 53
   refine (knot_any wd X Y _ hwd Hl1.out Hl2.out).mono ?_
   rintro e y4 ⟨rfl, hm⟩
   rw [HSp.out]
   have T4 := Lib.hid (T3.out.below hm)
   have E4 : Hid (DB y4 N zeros32) := heap_below E3.out hm (heap_lt E3.out)
   refine hK.out _ _ ?_ (fun hHeld => ?_)
   ·exact T4.out.cell0
   clear hK K hm T3 E3
   try simp only [Act.put,nA,nB,nC]
   refine wpAnyH_ready (rs := [18]) (by kernel_rfl) (by simp) ?_
   refine AllReadyH.cons (o := ⟨none, .store 23 (.tmp 11) (.tmp 61), 0, "rings.go:129", #[⟨17, .data⟩, ⟨16, .data⟩, ⟨16, .chain⟩, ⟨0, .phase⟩, ⟨1, .phase⟩, ⟨2, .phase⟩, ⟨3, .phase⟩, ⟨4, .phase⟩, ⟨5, .phase⟩, ⟨6, .phase⟩, ⟨7, .phase⟩, ⟨8, .phase⟩, ⟨9, .phase⟩, ⟨10, .phase⟩, ⟨11, .phase⟩, ⟨12, .phase⟩, ⟨13, .phase⟩, ⟨14, .phase⟩, ⟨15, .phase⟩, ⟨16, .phase⟩, ⟨17, .phase⟩], none⟩) rfl (fun K hK => ?_) AllReadyH.nil
   (refine step_of rfl (wp_storeD _ _ rfl N rfl zeros32 R rfl Hl.out rfl E4.out ?_); intro y hd hb hk hz; have T := Lib.hid (T4.out.keptN hk hN))
   refine hK.out _ _ ?_ (fun hHeld => ?_)
   ·exact T.out.cell0
   clear hK K
   try simp only [Act.put,nA,nB,nC]
   have E := Lib.hid hd
   clear hd hb hk hz E4 T4
   refine wpAnyH_done (by kernel_rfl) ?_ _
   clear hHeld
   have e0 := T.out.cell2
   have e1 := T.out.key0
   have e2 := T.out.key1
   by_cases h2 : 2 * k = n
   ·have h2b : (2 * (k : Int) == (n : Int)) = true := by simp; omega
    have h2c : decide (2 * k = n) = true := by simp; omega
    set_option maxRecDepth 20000 in
    go_upto_region 13 with fail
    refine wp_region_held_drew (S := fun W => W.cell? ⟨p, 2, none⟩ = some (.map (some b)) ∧ W.cell? ⟨w.heap.size + 1, 0, none⟩ = some (.int .i64 (a : Int)) ∧ W.cell? ⟨w.heap.size + 1, 1, none⟩ = some (.int .i64 (n : Int)) ∧ DB W N R) (by kernel_rfl) ⟨e0, e1, e2, E.out⟩ (fun hHeld => ?_)
    refine' tQ 0 ⟨some 66, .move (.tmp 0), 40, "rings.go:131", #[], none⟩ rfl (by kernel_rfl) (Or.inl ⟨by rfl, _⟩) _; rotate_left; · (intro s h; (try dsimp only at h); go_simp; try with_reducible rfl)
    try simp only [Act.put,nA,nB,nC]
    refine' tQ 1 ⟨some 67, .nilCheck (.tmp 66), 0, "rings.go:131", #[⟨0, .data⟩], none⟩ rfl (by kernel_rfl) (Or.inl ⟨by rfl, _⟩) _; rotate_left; · (intro s h; (try dsimp only at h); go_simp; try with_reducible rfl)
    try simp only [Act.put,nA,nB,nC]
    refine' tQ 2 ⟨some 68, .fieldAddr 101 (.tmp 67) 2, 0, "rings.go:131", #[⟨1, .data⟩], none⟩ rfl (by kernel_rfl) (Or.inl ⟨by rfl, _⟩) _; rotate_left; · (intro s h; (try dsimp only at h); go_simp; try with_reducible rfl)
    try simp only [Act.put,nA,nB,nC]
    refine' tQ 3 ⟨some 69, .load 99 (.tmp 68), 99, "rings.go:131", #[⟨2, .data⟩], none⟩ rfl (by kernel_rfl) (Or.inl ⟨by rfl, _⟩) _; rotate_left; · (intro s h; (try dsimp only at h); go_simp; try with_reducible rfl)
    try simp only [Act.put,nA,nB,nC]
    refine' tQ 4 ⟨some 70, .load 62 (.tmp 7), 62, "rings.go:131", #[], none⟩ rfl (by kernel_rfl) (Or.inl ⟨by rfl, _⟩) _; rotate_left; · (intro s h; (try dsimp only at h); go_simp; try with_reducible rfl)
    try simp only [Act.put,nA,nB,nC]
    refine' tQ 5 ⟨some 71, .load 23 (.tmp 11), 23, "rings.go:131", #[], none⟩ rfl (by kernel_rfl) (yieldsIf_loadD (by rfl) _ rfl (N) rfl (R) (Hl.out) (fun W hW => hW.2.2.2)) _
    try simp only [Act.put,nA,nB,nC]
    refine wpAnyH_ready (rs := [6]) (by kernel_rfl) (by simp) ?_
    refine AllReadyH.cons (o := ⟨none, .mapUpdate 99 (.tmp 69) (.tmp 70) (.tmp 71), 0, "rings.go:131", #[⟨3, .data⟩, ⟨4, .data⟩, ⟨5, .data⟩, ⟨0, .phase⟩, ⟨1, .phase⟩, ⟨2, .phase⟩, ⟨3, .phase⟩, ⟨4, .phase⟩, ⟨5, .phase⟩], none⟩) rfl (fun K hK => ?_) AllReadyH.nil
    (refine step_of rfl (wp_storeR _ _ _ _ rfl b wd L rfl T.out.log.drew.map hlen a n rfl han (by rw [HR.out]; rfl) ?_); intro y9 hr9 hg9; have T9 := Lib.hid (T.out.drew.grown hr9 hg9); have E9 : Hid (DB y9 N R) := (hg9.block N (heap_lt E.out) (fun e => hNb (Option.some.inj e))).trans E.out)
    refine hK.out _ _ ?_ (fun hHeld => ?_)
    ·exact ⟨T9.out.cell2, T9.out.key0, T9.out.key1, E9.out⟩
    clear hK K
    try simp only [Act.put,nA,nB,nC]
    refine wpAnyH_done (by kernel_rfl) ?_ _
    clear hHeld e0 e1 e2
    set_option maxRecDepth 20000 in
    go_wp2_with (first
     | (refine wpList_loadD rfl _ rfl N rfl R Hl.out E9.out ?_; try simp only [Act.put,nA,nB,nC])
     | (refine wpList_storeD rfl _ _ rfl w.heap.size rfl zeros32 R rfl Hl.out rfl T9.out.d ?_; intro w9 hd9 hb9 hk9 hz9))
    refine bodyPost_ret (v := dv R) ?_ rfl ⟨rfl, T9.out.kept hk9⟩
    exact results_cell1 Try.results56 rfl (DB.load hd9 Hl.out)
   ·have h2b : (2 * (k : Int) == (n : Int)) = false := by simp; omega
    have h2c : decide (2 * k = n) = false := by simp; omega
    clear e0 e1 e2
    set_option maxRecDepth 20000 in
    go_wp2_with (first
     | (refine wpList_loadD rfl _ rfl N rfl R Hl.out E.out ?_; try simp only [Act.put,nA,nB,nC])
     | (refine wpList_storeD rfl _ _ rfl w.heap.size rfl zeros32 R rfl Hl.out rfl T.out.d ?_; intro w9 hd9 hb9 hk9 hz9))
    refine bodyPost_ret (v := dv R) ?_ rfl ⟨rfl, T.out.kept hk9⟩
    exact results_cell1 Try.results56 rfl (DB.load hd9 Hl.out)
theorem ring_any (wd : Nat) (hwd : wd ≤ 32) (B p b : Nat) (lv : Value) (L : List Dg) : ∀ (n a : Nat) (w : World), Hid (LogB w B p b lv wd L) → a + n ≤ L.length →
  Calls Try.prog 56 #[.pointer (some ⟨p, 0, none⟩), .int .i64 (a : Int), .int .i64 (n : Int)] w (RingPost w B p b lv wd L (spanD wd L a n)) := by
 intro n
 induction n using Nat.strongRecOn with
 | _ n ih =>
  intro a w hL han
  match n, han, ih with
  | 0, han, ih =>
   rw [spanD_zero]
   exact ring_zero B p b a lv wd L w hL
  | 1, han, ih =>
   rw [spanD_one wd L a (by omega)]
   exact ring_one B p b a lv wd L w hL (by omega)
  | n + 2, han, ih =>
   have hs := half_spec (n := n + 2) (by omega)
   exact ring_more B p b a (n + 2) lv wd L w hL (by omega) han hwd
    (fun W h => ih _ (by omega) a W (Lib.hid h) (by omega))
    (fun W h => ih _ (by omega) _ W (Lib.hid h) (by omega))
end Go.Proofs.Ytihbhpggpnmifaa
