/-
 A step of the third kind: Head.
-/
import Derived.Test.YtihbhpggpnmifaaHI
import Derived.Test.YtihbhpggpnmifaaGX
import Derived.Test.YtihbhpggpnmifaaHH
set_option linter.unusedSimpArgs false
set_option linter.unusedVariables false
namespace Go.Proofs.Ytihbhpggpnmifaa
open Go.RowKit Go.Lib Hw
theorem PR.logd {W W' : World} {q off : Nat} {cs : List Value} {B p b : Nat} {lv rv : Value} {wd : Nat} {L : List Dg} (h : PR W q off cs B p b lv rv wd L) (l : LogB W' B p b lv wd L) (m : Mod (fun k => k = b) W W') : PR W' q off cs B p b lv rv wd L :=
 ⟨m.heap h.blk h.qb, h.len, h.c0, h.c1, h.c2, l, h.row.mod m (fun k hk e => h.rb (by rw [hk, e])), h.qp, h.qb, h.ql, h.qr, h.rp, h.rb, h.rl⟩
theorem wp_allocH {o : Oper} {a : Act} {w : World} {K : Act → World → Prop} {Q : Exit → Act → World → Prop} (ho : o.op = .alloc 31) (N : Nat) (hN : w.heap.size = N)
  (h : ∀ W, HB W N 0 zeros32 → Below N w W → W.heap.size = N + 1 → K (a.put o.dst (.pointer (some ⟨N, 0, none⟩))) W) : o.wp Try.prog a w K Q := by
 subst hN
 unfold Oper.wp execOp
 simp only [ho, Sem.run_bind, Instr.alloc, zero_H, newVar, newRow, run_newObj_alloc, Sem.run_pure, Result.andThen_ok]
 exact h _ (heap_new w _) ((Below.refl _ _).alloc (Nat.le_refl _) _) (by simp)
theorem wp_storeH {o : Oper} {a : Act} {w : World} {K : Act → World → Prop} {Q : Exit → Act → World → Prop} (x y : Operand) (ho : o.op = .store 31 x y) (b : Nat) (hx : a.eval x = .pointer (some ⟨b, 0, none⟩)) (s s' : Nat) (d d' : Dg) (hd : d.length = 32) (hd' : d'.length = 32) (hb : HB w b s d) (hy : a.eval y = hv s' d')
  (h : ∀ W, HB W b s' d' → Kept b w W → Below b w W → W.heap.size = w.heap.size → K (a.put o.dst undef) W) : o.wp Try.prog a w K Q := by
 have h1 := hcs_length s hd
 have h2 := hcs_length s' hd'
 refine wp_store_mid 31 _ _ ho b 0 (hcs s' d').toArray hx hy ?_ (info_H.trans (congrArg some (by rw [List.size_toArray, h2]))) (by simp [hcs, bv]; exact ⟨rfl, fun _ _ => rfl⟩) ?_
 ·have := there_all hb
  rw [List.size_toArray, h1] at this
  rw [List.size_toArray, h2]
  exact this
 ·have h3 := block_put hb 0 (hcs s' d') (by omega)
  rw [List.take_zero, List.nil_append, List.drop_eq_nil_of_le (by omega), List.append_nil] at h3
  exact h _ h3.1 h3.2 (setCells_below _ _ _ _ _ (Nat.le_refl _)) (setCells_hs ..)
theorem build_Hx (ρ : Operand → Value) (o : Oper) (a b : Operand) (ho : o.op = .build 31 #[(0, a), (1, b)]) (s : Nat) (d : Dg) (hd : d.length = 32) (ha : ρ a = .int .u64 (s : Int)) (hb : ρ b = dv d) (w : World) : (execOp ρ o).run Try.prog w = .ok (.value (hv s d)) w := by
 unfold execOp
 have e : (#[(0, a), (1, b)] : Array (Nat × Operand)).map (fun (i, x) => (i, ρ x)) = #[(0, .int .u64 (s : Int)), (1, dv d)] := by simp [ha, hb]
 have hr : (Instr.build 31 #[(0, .int .u64 (s : Int)), (1, dv d)]).run Try.prog w = .ok (hv s d) w := run_build w _ _ _ (built_hv s d hd)
 simp only [ho, Sem.run_bind]
 rw [e]
 simp only [hr, Result.andThen_ok]
 rfl
theorem wpList_buildH0g {ops : Array Oper} {rest : List Oper} {o : Oper} {a : Act} {w : World} {Q : Exit → Act → World → Prop} (hg : Region.wanted o (yielded ops a.tmps) = true) (ho : o.op = .build 31 #[]) (h : wpList Try.prog ops Q rest (a.put o.dst (hv 0 zeros32)) w) : wpList Try.prog ops Q (o :: rest) a w :=
 wpList_step fun K hK => by
  rw [if_pos hg]
  exact wp_built 31 #[] ho [] (by simp) _ built_H0 (hK _ _ h)
set_option maxRecDepth 20000 in
set_option maxHeartbeats 8000000 in
theorem step_3_yes (w : World) (q off : Nat) (cs : List Value) (B p b : Nat) (lv rv : Value) (wd : Nat) (L : List Dg) (who : Int) (texts digs : Value) (n s : Nat) (h : Hid (PR w q off cs B p b lv rv wd L)) (hw : 1 ≤ wd) (hwd : wd ≤ 32) (hn : s ≤ L.length) (hn64 : s < 18446744073709551616) :
  Calls Try.prog 37 #[.pointer (some ⟨q, 0, none⟩), .pointer (some ⟨q, off, none⟩), stepV 3 who texts digs n s] w fun e w' => e = .returned (.bool true) ∧ PR w' q off cs B p b lv rv wd L ∧ Mod (fun k => k = b) w w' := by
 obtain ⟨rad, rcap, hrv, hrf⟩ := h.out.row.shape
 have f0 := h.out.cell off _ h.out.c0
 have f1 := h.out.cell (off + 1) _ h.out.c1
 have f2 := h.out.cell (off + 2) _ h.out.c2
 subst hrv
 have hLl := h.out.log.len
 have HAll : Hid (All32 L) := h.out.log.all
 obtain ⟨D, hD⟩ : ∃ D, spanD wd L 0 s = D := ⟨_, rfl⟩
 have hDl : D.length = 32 := by rw [← hD]; exact spanD_length wd L 0 s HAll.out (by omega)
 have hDr : ringD wd (L.take s) = D := by rw [← hD]; unfold spanD; rw [List.drop_zero]
 have HDr := Lib.hid hDr
 clear hDr
 have HD := Lib.hid hD
 have HDl := Lib.hid hDl
 clear hD hDl
 obtain ⟨N, hN⟩ : ∃ N, w.heap.size = N := ⟨_, rfl⟩
 have HN := Lib.hid hN
 have hqN : q < N := by have := heap_lt h.out.blk; omega
 have HBN : Hid (b < N) := by show _ < _; have := h.out.log.ltb; omega
 clear hN hrf
 unfold stepV
 go_enter Try.func37, Try.ntmps37
 go_upto_region 0 with fail
 with_reducible refine wp_region_list ?_
 refine wpList_boxB rfl _ _ rfl N HN.out #[.int .i64 3, .int .i64 who, texts, digs, .int .u64 (n : Int), .int .u64 (s : Int)] rfl ?_
 intro w0 e0 b0 z0
 try simp only [Act.put,nA,nB,nC]
 (with_reducible refine wpList_plain rfl ?_); intro K hK; go_simp; (with_reducible refine hK _ _ ?_); clear hK K; try simp only [Act.put,nA,nB,nC]
 have H0 := Lib.hid (h.out.low (by rw [HN.out]; exact b0))
 have B0 : Hid (Mod (fun k => k = b) w w0) := Mod.of _ (by rw [HN.out]; exact b0)
 have E0 : Hid (SBx w0 N 3 who texts digs n s) := e0
 have g0 := H0.out.cell off _ H0.out.c0
 have g2 := H0.out.cell (off + 2) _ H0.out.c2
 have s0 := heap_cell e0 (o := 0)
 have s4 := heap_cell e0 (o := 5)
 have LD : Hid (LogB w0.drew B p b lv wd L) := H0.out.log.drew
 have wL := IntWalk.u64_in (L.length : Int) (by omega)
 clear f0 f1 f2 h b0 e0
 go_upto_region 29 with fail
 clear s0 g2
 refine wp_region_held_drew (S := fun W => W.cell? ⟨q, off, none⟩ = some (.pointer (some ⟨p, 0, none⟩)) ∧ W.cell? ⟨N, 5, none⟩ = some (.int .u64 (s : Int))) (by kernel_rfl) ⟨g0, s4⟩ (fun hHeld => ?_)
 refine' tQ 0 ⟨some 205, .move (.tmp 1), 72, "law.go:109", #[], none⟩ rfl (by kernel_rfl) (Or.inl ⟨by rfl, _⟩) _; rotate_left; · (intro s h; (try dsimp only at h); go_simp; try with_reducible rfl)
 try simp only [Act.put,nA,nB,nC]
 refine' tQ 1 ⟨some 206, .nilCheck (.tmp 205), 0, "law.go:109", #[⟨0, .data⟩], none⟩ rfl (by kernel_rfl) (Or.inl ⟨by rfl, _⟩) _; rotate_left; · (intro s h; (try dsimp only at h); go_simp; try with_reducible rfl)
 try simp only [Act.put,nA,nB,nC]
 refine' tQ 2 ⟨some 207, .fieldAddr 68 (.tmp 206) 0, 0, "law.go:109", #[⟨1, .data⟩], none⟩ rfl (by kernel_rfl) (Or.inl ⟨by rfl, _⟩) _; rotate_left; · (intro s h; (try dsimp only at h); go_simp; try with_reducible rfl)
 try simp only [Act.put,nA,nB,nC]
 refine' tQ 3 ⟨some 208, .load 40 (.tmp 207), 40, "law.go:109", #[⟨2, .data⟩], none⟩ rfl (by kernel_rfl) (Or.inl ⟨by rfl, _⟩) _; rotate_left; · (intro s h; (try dsimp only at h); go_simp; try with_reducible rfl)
 try simp only [Act.put,nA,nB,nC]
 refine' tQ 4 ⟨some 209, .fieldAddr 74 (.tmp 5) 5, 0, "law.go:109", #[], none⟩ rfl (by kernel_rfl) (Or.inl ⟨by rfl, _⟩) _; rotate_left; · (intro s h; (try dsimp only at h); go_simp; try with_reducible rfl)
 try simp only [Act.put,nA,nB,nC]
 refine' tQ 5 ⟨some 210, .load 29 (.tmp 209), 29, "law.go:109", #[⟨4, .data⟩], none⟩ rfl (by kernel_rfl) (Or.inl ⟨by rfl, _⟩) _; rotate_left; · (intro s h; (try dsimp only at h); go_simp; try with_reducible rfl)
 try simp only [Act.put,nA,nB,nC]
 refine wpAnyH_ready (rs := [6, 10]) (by kernel_rfl) (by simp) ?_
 refine (AllReadyH.cons (o := ⟨some 211, .call ⟨.value (.func 25), #[.tmp 208, .tmp 210], #[40, 29]⟩, 44, "law.go:109", #[⟨3, .data⟩, ⟨5, .data⟩], none⟩) rfl (fun K hK => ?_) (AllReadyH.cons (o := ⟨some 17, .alloc 31, 0, "law.go:109", #[], none⟩) rfl (fun K hK => ?_) AllReadyH.nil))
 ·go_simp
  go_at_call 25
  refine (Head_yes _ B p b lv wd L s LD hw hwd hn).mono ?_
  rintro e w2 ⟨rfl, l2, m2'⟩; rw [HD.out]
  have m2 : Mod (fun k => k = b) w0 w2 := (Mod.refl _ w0).drew.then m2'
  have H2 := Lib.hid (H0.out.logd l2 m2)
  have E2 : Hid (SBx w2 N 3 who texts digs n s) := m2.heap E0.out (by have := HBN.out; omega)
  have B2 := Lib.hid (B0.out.then m2)
  have hz2 := m2.size
  clear l2 m2 m2' H0 E0 B0 LD
  refine hK.out _ _ ?_ (fun hHeld => ?_)
  ·exact ⟨H2.out.cell off _ H2.out.c0, by rw [heap_cell E2.out]; rfl⟩
  clear hK K
  try simp only [Act.put,nA,nB,nC]
  refine' tQ 7 ⟨some 204, .move (.tmp 211), 44, "law.go:109", #[⟨6, .data⟩], none⟩ rfl (by kernel_rfl) (Or.inl ⟨by rfl, _⟩) _; rotate_left; · (intro s h; (try dsimp only at h); go_simp; try with_reducible rfl)
  try simp only [Act.put,nA,nB,nC]
  refine' tQ 8 ⟨some 212, .extract (.tmp 204) 0, 31, "law.go:109", #[⟨7, .data⟩], none⟩ rfl (by kernel_rfl) (Or.inl ⟨by rfl, _⟩) _; rotate_left; · (intro s h; (try dsimp only at h); go_simp; try with_reducible rfl)
  try simp only [Act.put,nA,nB,nC]
  refine' tQ 9 ⟨some 213, .extract (.tmp 204) 1, 24, "law.go:109", #[⟨7, .data⟩, ⟨11, .gcOnly .lateStores⟩], none⟩ rfl (by kernel_rfl) (Or.inl ⟨by rfl, _⟩) _; rotate_left; · (intro s h; (try dsimp only at h); go_simp; try with_reducible rfl)
  try simp only [Act.put,nA,nB,nC]
  refine wpAnyH_ready (rs := [10]) (by kernel_rfl) (by simp) ?_
  refine (AllReadyH.cons (o := ⟨some 17, .alloc 31, 0, "law.go:109", #[], none⟩) rfl (fun K hK => ?_) AllReadyH.nil)
  obtain ⟨x, hx⟩ : ∃ x, w2.heap.size = x := ⟨_, rfl⟩
  refine step_of rfl (wp_allocH rfl x hx ?_)
  intro w3 e3 b3 z3
  have hb3 : Below w2.heap.size w2 w3 := by rw [hx]; exact b3
  have H3 := Lib.hid (H2.out.low hb3)
  have E3 : Hid (SBx w3 N 3 who texts digs n s) := heap_below E2.out hb3 (by omega)
  have B3 := Lib.hid (B2.out.then (Mod.of _ hb3))
  have HX : Hid (p < x ∧ b < x ∧ (∀ k, lv.ownBlock = some k → k < x) ∧ (∀ k, (Value.slice rad L.length rcap).ownBlock = some k → k < x)) := ⟨by have := H2.out.log.lt; omega, by have := H2.out.log.ltb; omega, fun k hk => by have := (H2.out.log.leaves.lt k hk).2; omega, fun k hk => by have := (H2.out.row.lt k hk).2; omega⟩
  clear b3 hb3 H2 E2 B2
  refine hK.out _ _ ?_ (fun hHeld => ?_)
  ·exact ⟨H3.out.cell off _ H3.out.c0, by rw [heap_cell E3.out]; rfl⟩
  clear hK K
  try simp only [Act.put,nA,nB,nC]
  refine wpAnyH_ready (rs := [11]) (by kernel_rfl) (by simp) ?_
  refine (AllReadyH.cons (o := ⟨none, .store 31 (.tmp 17) (.tmp 212), 0, "law.go:109", #[⟨10, .data⟩, ⟨8, .data⟩, ⟨6, .chain⟩, ⟨0, .phase⟩, ⟨1, .phase⟩, ⟨2, .phase⟩, ⟨3, .phase⟩, ⟨4, .phase⟩, ⟨5, .phase⟩, ⟨6, .phase⟩, ⟨7, .phase⟩, ⟨8, .phase⟩, ⟨9, .textOnly .lateStores⟩, ⟨10, .phase⟩], none⟩) rfl (fun K hK => ?_) AllReadyH.nil)
  refine step_of rfl (wp_storeH _ _ rfl x rfl 0 s zeros32 D rfl HDl.out e3 rfl ?_)
  intro w9 e9 k9 b9 z9
  have hb9 : Below x w3 w9 := b9
  have hqx : q < x := by omega
  have H9 := Lib.hid (H3.out.kept (Mod.kept (S := fun k => k = x) k9 rfl) (by omega) (by have := HX.out; omega) (by have := HX.out; omega) (fun k hk e => by have := HX.out; have := this.2.2.1 k hk; omega) (fun k hk e => by have := HX.out; have := this.2.2.2 k hk; omega))
  have E9 : Hid (SBx w9 N 3 who texts digs n s) := k9.heap E3.out (by omega)
  have B9 := Lib.hid (B3.out.trans (Mod.kept (S := fun k => k = x) k9 rfl) (fun i hi e => by have := HN.out; omega))
  have X9 := Lib.hid e9
  have e9x := Lib.hid e9
  refine hK.out _ _ ?_ (fun hHeld => ?_)
  ·exact ⟨H9.out.cell off _ H9.out.c0, by rw [heap_cell E9.out]; rfl⟩
  clear hK K e3 e9 b9 k9 hb9 H3 E3 B3
  try simp only [Act.put,nA,nB,nC]
  refine' tQ 12 ⟨some 18, .assign (.tmp 213), 24, "law.go:109", #[⟨9, .data⟩, ⟨11, .chain⟩, ⟨0, .phase⟩, ⟨1, .phase⟩, ⟨2, .phase⟩, ⟨3, .phase⟩, ⟨4, .phase⟩, ⟨5, .phase⟩, ⟨6, .phase⟩, ⟨7, .phase⟩, ⟨8, .phase⟩, ⟨9, .phase⟩, ⟨10, .phase⟩, ⟨11, .phase⟩], none⟩ rfl (by kernel_rfl) (Or.inl ⟨by rfl, _⟩) _; rotate_left; · (intro s h; (try dsimp only at h); go_simp; try with_reducible rfl)
  try simp only [Act.put,nA,nB,nC]
  refine wpAnyH_done (by kernel_rfl) ?_ _
  clear hHeld
  have g1 := H9.out.cell (off + 1) _ H9.out.c1
  have g2 := H9.out.cell (off + 2) _ H9.out.c2
  have s4 := heap_cell E9.out (o := 5)
  have hz9 := heap_lt e9x.out
  have d1 : decide (L.length < s) = false := decide_eq_false (by omega)
  have d2 : decide ((L.length : Int) < (s : Int)) = false := decide_eq_false (by omega)
  have isL : (s : Int) ≤ (L.length : Int) := by omega
  have hlt9 : (L.take s).length = s := by rw [List.length_take]; omega
  have dr9 : Hid (DRow w9.drew w9.drew.heap.size (.slice rad s rcap) (L.take s)) := Lib.hid ((H9.out.row.drow HAll.out (by omega)).take s hn)
  have hcap : s ≤ rcap := by have := (H9.out.row.drow HAll.out (by omega)).2; obtain ⟨_, _, e, h1, _⟩ := this; simp only [Value.slice.injEq] at e; omega
  have hqd := eqH s s D D HDl.out HDl.out
  rw [beq_self_eq_true, beq_self_eq_true] at hqd
  have hqg := eqGuardH s s D D
  go_upto_region 32 with fail
  refine wp_region_held_drew (S := fun W => HB W x s D ∧ W.cell? ⟨q, off + 1, none⟩ = some (.int .i64 (wd : Int)) ∧ W.cell? ⟨q, off + 2, none⟩ = some (.slice rad L.length rcap) ∧ W.cell? ⟨N, 5, none⟩ = some (.int .u64 (s : Int))) (by kernel_rfl) ⟨X9.out, g1, g2, s4⟩ (fun hHeld => ?_)
  refine' tQ 0 ⟨some 225, .move (.tmp 18), 24, "law.go:113", #[], none⟩ rfl (by kernel_rfl) (Or.inl ⟨by rfl, _⟩) _; rotate_left; · (intro s h; (try dsimp only at h); go_simp; try with_reducible rfl)
  try simp only [Act.put,nA,nB,nC]
  refine' tQ 1 ⟨some 226, .binOp .eql 24 (.tmp 225) (.const (.int .i64 0)) 24, 4, "law.go:113", #[⟨0, .data⟩], none⟩ rfl (by kernel_rfl) (Or.inl ⟨by rfl, _⟩) _; rotate_left; · (intro s h; (try dsimp only at h); go_simp; try with_reducible rfl)
  try simp only [Act.put,nA,nB,nC]
  refine' tQ 2 ⟨some 227, .move (.tmp 226), 4, "law.go:113", #[⟨1, .data⟩], none⟩ rfl (by kernel_rfl) (Or.inl ⟨by rfl, _⟩) _; rotate_left; · (intro s h; (try dsimp only at h); go_simp; try with_reducible rfl)
  try simp only [Act.put,nA,nB,nC]
  refine' tQ 3 ⟨some 228, .load 31 (.tmp 17), 31, "law.go:113", #[⟨2, .guard⟩], some (2, true)⟩ rfl (by kernel_rfl) (yieldsIf_loadH (by rfl) _ rfl x 0 rfl (s, D) HDl.out (fun W hW => range_all (cs := hcs s D) hW.1)) _
  try simp only [Act.put,nA,nB,nC]
  refine' tQ 4 ⟨some 229, .fieldAddr 74 (.tmp 5) 5, 0, "law.go:113", #[⟨2, .guard⟩], some (2, true)⟩ rfl (by kernel_rfl) (Or.inl ⟨by rfl, _⟩) _; rotate_left; · (intro s h; (try dsimp only at h); go_simp; try with_reducible rfl)
  try simp only [Act.put,nA,nB,nC]
  refine' tQ 5 ⟨some 230, .load 29 (.tmp 229), 29, "law.go:113", #[⟨4, .data⟩, ⟨2, .guard⟩], some (2, true)⟩ rfl (by kernel_rfl) (Or.inl ⟨by rfl, _⟩) _; rotate_left; · (intro s h; (try dsimp only at h); go_simp; try with_reducible rfl)
  try simp only [Act.put,nA,nB,nC]
  refine' tQ 6 ⟨some 231, .move (.tmp 1), 72, "law.go:113", #[⟨2, .guard⟩], some (2, true)⟩ rfl (by kernel_rfl) (Or.inl ⟨by rfl, _⟩) _; rotate_left; · (intro s h; (try dsimp only at h); go_simp; try with_reducible rfl)
  try simp only [Act.put,nA,nB,nC]
  refine' tQ 7 ⟨some 232, .nilCheck (.tmp 231), 0, "law.go:113", #[⟨6, .data⟩, ⟨2, .guard⟩], some (2, true)⟩ rfl (by kernel_rfl) (Or.inl ⟨by rfl, _⟩) _; rotate_left; · (intro s h; (try dsimp only at h); go_simp; try with_reducible rfl)
  try simp only [Act.put,nA,nB,nC]
  refine' tQ 8 ⟨some 233, .fieldAddr 68 (.tmp 232) 1, 0, "law.go:113", #[⟨7, .data⟩, ⟨2, .guard⟩], some (2, true)⟩ rfl (by kernel_rfl) (Or.inl ⟨by rfl, _⟩) _; rotate_left; · (intro s h; (try dsimp only at h); go_simp; try with_reducible rfl)
  try simp only [Act.put,nA,nB,nC]
  refine' tQ 9 ⟨some 234, .load 3 (.tmp 233), 3, "law.go:113", #[⟨8, .data⟩, ⟨2, .guard⟩], some (2, true)⟩ rfl (by kernel_rfl) (Or.inl ⟨by rfl, _⟩) _; rotate_left; · (intro s h; (try dsimp only at h); go_simp; try with_reducible rfl)
  try simp only [Act.put,nA,nB,nC]
  refine' tQ 10 ⟨some 235, .move (.tmp 1), 72, "law.go:113", #[⟨2, .guard⟩], some (2, true)⟩ rfl (by kernel_rfl) (Or.inl ⟨by rfl, _⟩) _; rotate_left; · (intro s h; (try dsimp only at h); go_simp; try with_reducible rfl)
  try simp only [Act.put,nA,nB,nC]
  refine' tQ 11 ⟨some 236, .nilCheck (.tmp 235), 0, "law.go:113", #[⟨10, .data⟩, ⟨2, .guard⟩], some (2, true)⟩ rfl (by kernel_rfl) (Or.inl ⟨by rfl, _⟩) _; rotate_left; · (intro s h; (try dsimp only at h); go_simp; try with_reducible rfl)
  try simp only [Act.put,nA,nB,nC]
  refine' tQ 12 ⟨some 237, .fieldAddr 68 (.tmp 236) 2, 0, "law.go:113", #[⟨11, .data⟩, ⟨2, .guard⟩], some (2, true)⟩ rfl (by kernel_rfl) (Or.inl ⟨by rfl, _⟩) _; rotate_left; · (intro s h; (try dsimp only at h); go_simp; try with_reducible rfl)
  try simp only [Act.put,nA,nB,nC]
  refine' tQ 13 ⟨some 238, .load 32 (.tmp 237), 32, "law.go:113", #[⟨12, .data⟩, ⟨2, .guard⟩], some (2, true)⟩ rfl (by kernel_rfl) (Or.inl ⟨by rfl, _⟩) _; rotate_left; · (intro s h; (try dsimp only at h); go_simp; try with_reducible rfl)
  try simp only [Act.put,nA,nB,nC]
  refine' tQ 14 ⟨some 239, .fieldAddr 74 (.tmp 5) 5, 0, "law.go:113", #[⟨2, .guard⟩], some (2, true)⟩ rfl (by kernel_rfl) (Or.inl ⟨by rfl, _⟩) _; rotate_left; · (intro s h; (try dsimp only at h); go_simp; try with_reducible rfl)
  try simp only [Act.put,nA,nB,nC]
  refine' tQ 15 ⟨some 240, .load 29 (.tmp 239), 29, "law.go:113", #[⟨14, .data⟩, ⟨2, .guard⟩], some (2, true)⟩ rfl (by kernel_rfl) (Or.inl ⟨by rfl, _⟩) _; rotate_left; · (intro s h; (try dsimp only at h); go_simp; try with_reducible rfl)
  try simp only [Act.put,nA,nB,nC]
  refine' tQ 16 ⟨some 241, .slice 32 (.tmp 238) none (some (.tmp 240)) none, 32, "law.go:113", #[⟨13, .data⟩, ⟨15, .data⟩, ⟨2, .guard⟩], some (2, true)⟩ rfl (by kernel_rfl) (Or.inl ⟨by rfl, _⟩) _; rotate_left; · (intro s h; (try dsimp only at h); go_simp; try with_reducible rfl)
  try simp only [Act.put,nA,nB,nC]
  refine wpAnyH_ready (rs := [17]) (by kernel_rfl) (by simp) ?_
  refine AllReadyH.cons (o := ⟨some 242, .call ⟨.value (.func 54), #[.tmp 234, .tmp 241], #[3, 32]⟩, 23, "law.go:113", #[⟨9, .data⟩, ⟨16, .data⟩, ⟨2, .chain⟩, ⟨2, .guard⟩], some (2, true)⟩) rfl (fun K hK => ?_) AllReadyH.nil
  (go_simp; (go_at_call 54; refine (refRing_any wd hw hwd s _ (L.take s) _ hlt9 dr9 (by omega)).mono ?_; rintro e wq ⟨rfl, bq'⟩; rw [HDr.out]; have bq : Below w9.heap.size w9 wq := Below.trans (Below.refl _ _).drew bq'; have Hq := Lib.hid (H9.out.low bq); have Eq := heap_below E9.out bq (by omega); have Xq := heap_below X9.out bq (by omega)))
  refine hK.out _ _ ?_ (fun hHeld => ?_)
  ·exact ⟨Xq, Hq.out.cell (off + 1) _ Hq.out.c1, Hq.out.cell (off + 2) _ Hq.out.c2, by rw [heap_cell Eq]; rfl⟩
  clear hK K
  try simp only [Act.put,nA,nB,nC]
  refine' tQ 18 ⟨some 243, .build 31 #[(0, .tmp 230), (1, .tmp 242)], 31, "law.go:113", #[⟨5, .data⟩, ⟨17, .data⟩, ⟨2, .guard⟩], some (2, true)⟩ rfl (by kernel_rfl) (Or.inl ⟨by rfl, _⟩) _
  rotate_left
  ·intro wS hSw
   exact build_Hx _ _ _ _ rfl s D HDl.out rfl rfl wS
  try simp only [Act.put,nA,nB,nC]
  refine' tQ 19 ⟨some 244, .binOp .eql 31 (.tmp 228) (.tmp 243) 31, 4, "law.go:113", #[⟨3, .data⟩, ⟨18, .data⟩, ⟨2, .guard⟩], some (2, true)⟩ rfl (by kernel_rfl) (Or.inl ⟨by rfl, _⟩) _; rotate_left; · (intro s h; (try dsimp only at h); go_simp; try with_reducible rfl)
  try simp only [Act.put,nA,nB,nC]
  refine' tQ 20 ⟨some 245, .pick (.tmp 227) (.tmp 244) (.const (.bool false)), 4, "law.go:113", #[⟨2, .data⟩, ⟨19, .data⟩], none⟩ rfl (by kernel_rfl) (Or.inl ⟨by rfl, _⟩) _; rotate_left; · (intro s h; (try dsimp only at h); go_simp; try with_reducible rfl)
  try simp only [Act.put,nA,nB,nC]
  refine' tQ 21 ⟨some 6, .assign (.tmp 245), 4, "law.go:113", #[⟨20, .data⟩, ⟨17, .chain⟩, ⟨0, .phase⟩, ⟨1, .phase⟩, ⟨2, .phase⟩, ⟨3, .phase⟩, ⟨4, .phase⟩, ⟨5, .phase⟩, ⟨6, .phase⟩, ⟨7, .phase⟩, ⟨8, .phase⟩, ⟨9, .phase⟩, ⟨10, .phase⟩, ⟨11, .phase⟩, ⟨12, .phase⟩, ⟨13, .phase⟩, ⟨14, .phase⟩, ⟨15, .phase⟩, ⟨16, .phase⟩, ⟨17, .phase⟩, ⟨18, .phase⟩, ⟨19, .phase⟩, ⟨20, .phase⟩], none⟩ rfl (by kernel_rfl) (Or.inl ⟨by rfl, _⟩) _; rotate_left; · (intro s h; (try dsimp only at h); go_simp; try with_reducible rfl)
  try simp only [Act.put,nA,nB,nC]
  refine wpAnyH_done (by kernel_rfl) ?_ _
  have B10 := Lib.hid (B9.out.then (Mod.of _ bq))
  clear hHeld hqd hqg bq bq' dr9
  go_wp2_with fail
  go_ret
  exact ⟨rfl, Hq.out, B10.out⟩
 ·obtain ⟨x, hx⟩ : ∃ x, w0.heap.size = x := ⟨_, rfl⟩
  refine step_of rfl (wp_allocH rfl x hx ?_)
  intro w2 e2 b2 z2
  have hb2 : Below w0.heap.size w0 w2 := Below.trans (Below.refl _ _).drew (by rw [hx]; exact b2)
  have H2 := Lib.hid (H0.out.low hb2)
  have E2 : Hid (SBx w2 N 3 who texts digs n s) := heap_below E0.out hb2 (by omega)
  have B2 := Lib.hid (B0.out.then (Mod.of _ hb2))
  have HX : Hid (p < x ∧ b < x ∧ (∀ k, lv.ownBlock = some k → k < x) ∧ (∀ k, (Value.slice rad L.length rcap).ownBlock = some k → k < x)) := ⟨by have := H0.out.log.lt; omega, by have := H0.out.log.ltb; omega, fun k hk => by have := (H0.out.log.leaves.lt k hk).2; omega, fun k hk => by have := (H0.out.row.lt k hk).2; omega⟩
  clear b2 hb2 H0 E0 B0 LD
  refine hK.out _ _ ?_ (fun hHeld => ?_)
  ·exact ⟨H2.out.cell off _ H2.out.c0, by rw [heap_cell E2.out]; rfl⟩
  clear hK K
  try simp only [Act.put,nA,nB,nC]
  refine wpAnyH_ready (rs := [6]) (by kernel_rfl) (by simp) ?_
  refine AllReadyH.cons (o := ⟨some 211, .call ⟨.value (.func 25), #[.tmp 208, .tmp 210], #[40, 29]⟩, 44, "law.go:109", #[⟨3, .data⟩, ⟨5, .data⟩], none⟩) rfl (fun K hK => ?_) AllReadyH.nil
  (go_simp; (go_at_call 25; refine (Head_yes _ B p b lv wd L s (Lib.hid H2.out.log) hw hwd hn).mono ?_; rintro e w3 ⟨rfl, l3, m3⟩; rw [HD.out]; have H3 := Lib.hid (H2.out.logd l3 m3); have E3 : Hid (SBx w3 N 3 who texts digs n s) := m3.heap E2.out (by have := HBN.out; omega)))
  refine hK.out _ _ ?_ (fun hHeld => ?_)
  ·exact ⟨H3.out.cell off _ H3.out.c0, by rw [heap_cell E3.out]; rfl⟩
  clear hK K
  try simp only [Act.put,nA,nB,nC]
  have B3 := Lib.hid (B2.out.then m3)
  have e3 := m3.heap e2 (by have := HBN.out; omega)
  have hz3 := m3.size
  clear l3 m3 e2 H2 E2 B2
  refine' tQ 7 ⟨some 204, .move (.tmp 211), 44, "law.go:109", #[⟨6, .data⟩], none⟩ rfl (by kernel_rfl) (Or.inl ⟨by rfl, _⟩) _; rotate_left; · (intro s h; (try dsimp only at h); go_simp; try with_reducible rfl)
  try simp only [Act.put,nA,nB,nC]
  refine' tQ 8 ⟨some 212, .extract (.tmp 204) 0, 31, "law.go:109", #[⟨7, .data⟩], none⟩ rfl (by kernel_rfl) (Or.inl ⟨by rfl, _⟩) _; rotate_left; · (intro s h; (try dsimp only at h); go_simp; try with_reducible rfl)
  try simp only [Act.put,nA,nB,nC]
  refine' tQ 9 ⟨some 213, .extract (.tmp 204) 1, 24, "law.go:109", #[⟨7, .data⟩, ⟨11, .gcOnly .lateStores⟩], none⟩ rfl (by kernel_rfl) (Or.inl ⟨by rfl, _⟩) _; rotate_left; · (intro s h; (try dsimp only at h); go_simp; try with_reducible rfl)
  try simp only [Act.put,nA,nB,nC]
  refine wpAnyH_ready (rs := [11]) (by kernel_rfl) (by simp) ?_
  refine (AllReadyH.cons (o := ⟨none, .store 31 (.tmp 17) (.tmp 212), 0, "law.go:109", #[⟨10, .data⟩, ⟨8, .data⟩, ⟨6, .chain⟩, ⟨0, .phase⟩, ⟨1, .phase⟩, ⟨2, .phase⟩, ⟨3, .phase⟩, ⟨4, .phase⟩, ⟨5, .phase⟩, ⟨6, .phase⟩, ⟨7, .phase⟩, ⟨8, .phase⟩, ⟨9, .textOnly .lateStores⟩, ⟨10, .phase⟩], none⟩) rfl (fun K hK => ?_) AllReadyH.nil)
  refine step_of rfl (wp_storeH _ _ rfl x rfl 0 s zeros32 D rfl HDl.out e3 rfl ?_)
  intro w9 e9 k9 b9 z9
  have hb9 : Below x w3 w9 := b9
  have hqx : q < x := by omega
  have H9 := Lib.hid (H3.out.kept (Mod.kept (S := fun k => k = x) k9 rfl) (by omega) (by have := HX.out; omega) (by have := HX.out; omega) (fun k hk e => by have := HX.out; have := this.2.2.1 k hk; omega) (fun k hk e => by have := HX.out; have := this.2.2.2 k hk; omega))
  have E9 : Hid (SBx w9 N 3 who texts digs n s) := k9.heap E3.out (by omega)
  have B9 := Lib.hid (B3.out.trans (Mod.kept (S := fun k => k = x) k9 rfl) (fun i hi e => by have := HN.out; omega))
  have X9 := Lib.hid e9
  have e9x := Lib.hid e9
  refine hK.out _ _ ?_ (fun hHeld => ?_)
  ·exact ⟨H9.out.cell off _ H9.out.c0, by rw [heap_cell E9.out]; rfl⟩
  clear hK K e3 e9 b9 k9 hb9 H3 E3 B3
  try simp only [Act.put,nA,nB,nC]
  refine' tQ 12 ⟨some 18, .assign (.tmp 213), 24, "law.go:109", #[⟨9, .data⟩, ⟨11, .chain⟩, ⟨0, .phase⟩, ⟨1, .phase⟩, ⟨2, .phase⟩, ⟨3, .phase⟩, ⟨4, .phase⟩, ⟨5, .phase⟩, ⟨6, .phase⟩, ⟨7, .phase⟩, ⟨8, .phase⟩, ⟨9, .phase⟩, ⟨10, .phase⟩, ⟨11, .phase⟩], none⟩ rfl (by kernel_rfl) (Or.inl ⟨by rfl, _⟩) _; rotate_left; · (intro s h; (try dsimp only at h); go_simp; try with_reducible rfl)
  try simp only [Act.put,nA,nB,nC]
  refine wpAnyH_done (by kernel_rfl) ?_ _
  clear hHeld
  have g1 := H9.out.cell (off + 1) _ H9.out.c1
  have g2 := H9.out.cell (off + 2) _ H9.out.c2
  have s4 := heap_cell E9.out (o := 5)
  have hz9 := heap_lt e9x.out
  have d1 : decide (L.length < s) = false := decide_eq_false (by omega)
  have d2 : decide ((L.length : Int) < (s : Int)) = false := decide_eq_false (by omega)
  have isL : (s : Int) ≤ (L.length : Int) := by omega
  have hlt9 : (L.take s).length = s := by rw [List.length_take]; omega
  have dr9 : Hid (DRow w9.drew w9.drew.heap.size (.slice rad s rcap) (L.take s)) := Lib.hid ((H9.out.row.drow HAll.out (by omega)).take s hn)
  have hcap : s ≤ rcap := by have := (H9.out.row.drow HAll.out (by omega)).2; obtain ⟨_, _, e, h1, _⟩ := this; simp only [Value.slice.injEq] at e; omega
  have hqd := eqH s s D D HDl.out HDl.out
  rw [beq_self_eq_true, beq_self_eq_true] at hqd
  have hqg := eqGuardH s s D D
  go_upto_region 32 with fail
  refine wp_region_held_drew (S := fun W => HB W x s D ∧ W.cell? ⟨q, off + 1, none⟩ = some (.int .i64 (wd : Int)) ∧ W.cell? ⟨q, off + 2, none⟩ = some (.slice rad L.length rcap) ∧ W.cell? ⟨N, 5, none⟩ = some (.int .u64 (s : Int))) (by kernel_rfl) ⟨X9.out, g1, g2, s4⟩ (fun hHeld => ?_)
  refine' tQ 0 ⟨some 225, .move (.tmp 18), 24, "law.go:113", #[], none⟩ rfl (by kernel_rfl) (Or.inl ⟨by rfl, _⟩) _; rotate_left; · (intro s h; (try dsimp only at h); go_simp; try with_reducible rfl)
  try simp only [Act.put,nA,nB,nC]
  refine' tQ 1 ⟨some 226, .binOp .eql 24 (.tmp 225) (.const (.int .i64 0)) 24, 4, "law.go:113", #[⟨0, .data⟩], none⟩ rfl (by kernel_rfl) (Or.inl ⟨by rfl, _⟩) _; rotate_left; · (intro s h; (try dsimp only at h); go_simp; try with_reducible rfl)
  try simp only [Act.put,nA,nB,nC]
  refine' tQ 2 ⟨some 227, .move (.tmp 226), 4, "law.go:113", #[⟨1, .data⟩], none⟩ rfl (by kernel_rfl) (Or.inl ⟨by rfl, _⟩) _; rotate_left; · (intro s h; (try dsimp only at h); go_simp; try with_reducible rfl)
  try simp only [Act.put,nA,nB,nC]
  refine' tQ 3 ⟨some 228, .load 31 (.tmp 17), 31, "law.go:113", #[⟨2, .guard⟩], some (2, true)⟩ rfl (by kernel_rfl) (yieldsIf_loadH (by rfl) _ rfl x 0 rfl (s, D) HDl.out (fun W hW => range_all (cs := hcs s D) hW.1)) _
  try simp only [Act.put,nA,nB,nC]
  refine' tQ 4 ⟨some 229, .fieldAddr 74 (.tmp 5) 5, 0, "law.go:113", #[⟨2, .guard⟩], some (2, true)⟩ rfl (by kernel_rfl) (Or.inl ⟨by rfl, _⟩) _; rotate_left; · (intro s h; (try dsimp only at h); go_simp; try with_reducible rfl)
  try simp only [Act.put,nA,nB,nC]
  refine' tQ 5 ⟨some 230, .load 29 (.tmp 229), 29, "law.go:113", #[⟨4, .data⟩, ⟨2, .guard⟩], some (2, true)⟩ rfl (by kernel_rfl) (Or.inl ⟨by rfl, _⟩) _; rotate_left; · (intro s h; (try dsimp only at h); go_simp; try with_reducible rfl)
  try simp only [Act.put,nA,nB,nC]
  refine' tQ 6 ⟨some 231, .move (.tmp 1), 72, "law.go:113", #[⟨2, .guard⟩], some (2, true)⟩ rfl (by kernel_rfl) (Or.inl ⟨by rfl, _⟩) _; rotate_left; · (intro s h; (try dsimp only at h); go_simp; try with_reducible rfl)
  try simp only [Act.put,nA,nB,nC]
  refine' tQ 7 ⟨some 232, .nilCheck (.tmp 231), 0, "law.go:113", #[⟨6, .data⟩, ⟨2, .guard⟩], some (2, true)⟩ rfl (by kernel_rfl) (Or.inl ⟨by rfl, _⟩) _; rotate_left; · (intro s h; (try dsimp only at h); go_simp; try with_reducible rfl)
  try simp only [Act.put,nA,nB,nC]
  refine' tQ 8 ⟨some 233, .fieldAddr 68 (.tmp 232) 1, 0, "law.go:113", #[⟨7, .data⟩, ⟨2, .guard⟩], some (2, true)⟩ rfl (by kernel_rfl) (Or.inl ⟨by rfl, _⟩) _; rotate_left; · (intro s h; (try dsimp only at h); go_simp; try with_reducible rfl)
  try simp only [Act.put,nA,nB,nC]
  refine' tQ 9 ⟨some 234, .load 3 (.tmp 233), 3, "law.go:113", #[⟨8, .data⟩, ⟨2, .guard⟩], some (2, true)⟩ rfl (by kernel_rfl) (Or.inl ⟨by rfl, _⟩) _; rotate_left; · (intro s h; (try dsimp only at h); go_simp; try with_reducible rfl)
  try simp only [Act.put,nA,nB,nC]
  refine' tQ 10 ⟨some 235, .move (.tmp 1), 72, "law.go:113", #[⟨2, .guard⟩], some (2, true)⟩ rfl (by kernel_rfl) (Or.inl ⟨by rfl, _⟩) _; rotate_left; · (intro s h; (try dsimp only at h); go_simp; try with_reducible rfl)
  try simp only [Act.put,nA,nB,nC]
  refine' tQ 11 ⟨some 236, .nilCheck (.tmp 235), 0, "law.go:113", #[⟨10, .data⟩, ⟨2, .guard⟩], some (2, true)⟩ rfl (by kernel_rfl) (Or.inl ⟨by rfl, _⟩) _; rotate_left; · (intro s h; (try dsimp only at h); go_simp; try with_reducible rfl)
  try simp only [Act.put,nA,nB,nC]
  refine' tQ 12 ⟨some 237, .fieldAddr 68 (.tmp 236) 2, 0, "law.go:113", #[⟨11, .data⟩, ⟨2, .guard⟩], some (2, true)⟩ rfl (by kernel_rfl) (Or.inl ⟨by rfl, _⟩) _; rotate_left; · (intro s h; (try dsimp only at h); go_simp; try with_reducible rfl)
  try simp only [Act.put,nA,nB,nC]
  refine' tQ 13 ⟨some 238, .load 32 (.tmp 237), 32, "law.go:113", #[⟨12, .data⟩, ⟨2, .guard⟩], some (2, true)⟩ rfl (by kernel_rfl) (Or.inl ⟨by rfl, _⟩) _; rotate_left; · (intro s h; (try dsimp only at h); go_simp; try with_reducible rfl)
  try simp only [Act.put,nA,nB,nC]
  refine' tQ 14 ⟨some 239, .fieldAddr 74 (.tmp 5) 5, 0, "law.go:113", #[⟨2, .guard⟩], some (2, true)⟩ rfl (by kernel_rfl) (Or.inl ⟨by rfl, _⟩) _; rotate_left; · (intro s h; (try dsimp only at h); go_simp; try with_reducible rfl)
  try simp only [Act.put,nA,nB,nC]
  refine' tQ 15 ⟨some 240, .load 29 (.tmp 239), 29, "law.go:113", #[⟨14, .data⟩, ⟨2, .guard⟩], some (2, true)⟩ rfl (by kernel_rfl) (Or.inl ⟨by rfl, _⟩) _; rotate_left; · (intro s h; (try dsimp only at h); go_simp; try with_reducible rfl)
  try simp only [Act.put,nA,nB,nC]
  refine' tQ 16 ⟨some 241, .slice 32 (.tmp 238) none (some (.tmp 240)) none, 32, "law.go:113", #[⟨13, .data⟩, ⟨15, .data⟩, ⟨2, .guard⟩], some (2, true)⟩ rfl (by kernel_rfl) (Or.inl ⟨by rfl, _⟩) _; rotate_left; · (intro s h; (try dsimp only at h); go_simp; try with_reducible rfl)
  try simp only [Act.put,nA,nB,nC]
  refine wpAnyH_ready (rs := [17]) (by kernel_rfl) (by simp) ?_
  refine AllReadyH.cons (o := ⟨some 242, .call ⟨.value (.func 54), #[.tmp 234, .tmp 241], #[3, 32]⟩, 23, "law.go:113", #[⟨9, .data⟩, ⟨16, .data⟩, ⟨2, .chain⟩, ⟨2, .guard⟩], some (2, true)⟩) rfl (fun K hK => ?_) AllReadyH.nil
  (go_simp; (go_at_call 54; refine (refRing_any wd hw hwd s _ (L.take s) _ hlt9 dr9 (by omega)).mono ?_; rintro e wq ⟨rfl, bq'⟩; rw [HDr.out]; have bq : Below w9.heap.size w9 wq := Below.trans (Below.refl _ _).drew bq'; have Hq := Lib.hid (H9.out.low bq); have Eq := heap_below E9.out bq (by omega); have Xq := heap_below X9.out bq (by omega)))
  refine hK.out _ _ ?_ (fun hHeld => ?_)
  ·exact ⟨Xq, Hq.out.cell (off + 1) _ Hq.out.c1, Hq.out.cell (off + 2) _ Hq.out.c2, by rw [heap_cell Eq]; rfl⟩
  clear hK K
  try simp only [Act.put,nA,nB,nC]
  refine' tQ 18 ⟨some 243, .build 31 #[(0, .tmp 230), (1, .tmp 242)], 31, "law.go:113", #[⟨5, .data⟩, ⟨17, .data⟩, ⟨2, .guard⟩], some (2, true)⟩ rfl (by kernel_rfl) (Or.inl ⟨by rfl, _⟩) _
  rotate_left
  ·intro wS hSw
   exact build_Hx _ _ _ _ rfl s D HDl.out rfl rfl wS
  try simp only [Act.put,nA,nB,nC]
  refine' tQ 19 ⟨some 244, .binOp .eql 31 (.tmp 228) (.tmp 243) 31, 4, "law.go:113", #[⟨3, .data⟩, ⟨18, .data⟩, ⟨2, .guard⟩], some (2, true)⟩ rfl (by kernel_rfl) (Or.inl ⟨by rfl, _⟩) _; rotate_left; · (intro s h; (try dsimp only at h); go_simp; try with_reducible rfl)
  try simp only [Act.put,nA,nB,nC]
  refine' tQ 20 ⟨some 245, .pick (.tmp 227) (.tmp 244) (.const (.bool false)), 4, "law.go:113", #[⟨2, .data⟩, ⟨19, .data⟩], none⟩ rfl (by kernel_rfl) (Or.inl ⟨by rfl, _⟩) _; rotate_left; · (intro s h; (try dsimp only at h); go_simp; try with_reducible rfl)
  try simp only [Act.put,nA,nB,nC]
  refine' tQ 21 ⟨some 6, .assign (.tmp 245), 4, "law.go:113", #[⟨20, .data⟩, ⟨17, .chain⟩, ⟨0, .phase⟩, ⟨1, .phase⟩, ⟨2, .phase⟩, ⟨3, .phase⟩, ⟨4, .phase⟩, ⟨5, .phase⟩, ⟨6, .phase⟩, ⟨7, .phase⟩, ⟨8, .phase⟩, ⟨9, .phase⟩, ⟨10, .phase⟩, ⟨11, .phase⟩, ⟨12, .phase⟩, ⟨13, .phase⟩, ⟨14, .phase⟩, ⟨15, .phase⟩, ⟨16, .phase⟩, ⟨17, .phase⟩, ⟨18, .phase⟩, ⟨19, .phase⟩, ⟨20, .phase⟩], none⟩ rfl (by kernel_rfl) (Or.inl ⟨by rfl, _⟩) _; rotate_left; · (intro s h; (try dsimp only at h); go_simp; try with_reducible rfl)
  try simp only [Act.put,nA,nB,nC]
  refine wpAnyH_done (by kernel_rfl) ?_ _
  have B10 := Lib.hid (B9.out.then (Mod.of _ bq))
  clear hHeld hqd hqg bq bq' dr9
  go_wp2_with fail
  go_ret
  exact ⟨rfl, Hq.out, B10.out⟩
set_option maxRecDepth 20000 in
set_option maxHeartbeats 8000000 in
theorem step_3_no (w : World) (q off : Nat) (cs : List Value) (B p b : Nat) (lv rv : Value) (wd : Nat) (L : List Dg) (who : Int) (texts digs : Value) (n s : Nat) (h : Hid (PR w q off cs B p b lv rv wd L)) (hw : 1 ≤ wd) (hn : L.length < s) (hn64 : s < 18446744073709551616) :
  Calls Try.prog 37 #[.pointer (some ⟨q, 0, none⟩), .pointer (some ⟨q, off, none⟩), stepV 3 who texts digs n s] w fun e w' => e = .returned (.bool true) ∧ Below w.heap.size w w' := by
 obtain ⟨rad, rcap, hrv, hrf⟩ := h.out.row.shape
 have f0 := h.out.cell off _ h.out.c0
 have f1 := h.out.cell (off + 1) _ h.out.c1
 have f2 := h.out.cell (off + 2) _ h.out.c2
 subst hrv
 have hLl := h.out.log.len
 have HAll : Hid (All32 L) := h.out.log.all
 have zeros32_len : zeros32.length = 32 := rfl
 obtain ⟨N, hN⟩ : ∃ N, w.heap.size = N := ⟨_, rfl⟩
 have HN := Lib.hid hN
 have hqN : q < N := by have := heap_lt h.out.blk; omega
 rw [hN]
 clear hN hrf
 unfold stepV
 go_enter Try.func37, Try.ntmps37
 go_upto_region 0 with fail
 with_reducible refine wp_region_list ?_
 refine wpList_boxB rfl _ _ rfl N HN.out #[.int .i64 3, .int .i64 who, texts, digs, .int .u64 (n : Int), .int .u64 (s : Int)] rfl ?_
 intro w0 e0 b0 z0
 try simp only [Act.put,nA,nB,nC]
 (with_reducible refine wpList_plain rfl ?_); intro K hK; go_simp; (with_reducible refine hK _ _ ?_); clear hK K; try simp only [Act.put,nA,nB,nC]
 have H0 := Lib.hid (h.out.low (by rw [HN.out]; exact b0))
 have B0 := Lib.hid b0
 have E0 : Hid (SBx w0 N 3 who texts digs n s) := e0
 have g0 := H0.out.cell off _ H0.out.c0
 have g2 := H0.out.cell (off + 2) _ H0.out.c2
 have s0 := heap_cell e0 (o := 0)
 have s4 := heap_cell e0 (o := 5)
 have LD : Hid (LogB w0.drew B p b lv wd L) := H0.out.log.drew
 have wL := IntWalk.u64_in (L.length : Int) (by omega)
 clear f0 f1 f2 h b0 e0
 go_upto_region 29 with fail
 clear s0 g2
 refine wp_region_held_drew (S := fun W => W.cell? ⟨q, off, none⟩ = some (.pointer (some ⟨p, 0, none⟩)) ∧ W.cell? ⟨N, 5, none⟩ = some (.int .u64 (s : Int))) (by kernel_rfl) ⟨g0, s4⟩ (fun hHeld => ?_)
 refine' tQ 0 ⟨some 205, .move (.tmp 1), 72, "law.go:109", #[], none⟩ rfl (by kernel_rfl) (Or.inl ⟨by rfl, _⟩) _; rotate_left; · (intro s h; (try dsimp only at h); go_simp; try with_reducible rfl)
 try simp only [Act.put,nA,nB,nC]
 refine' tQ 1 ⟨some 206, .nilCheck (.tmp 205), 0, "law.go:109", #[⟨0, .data⟩], none⟩ rfl (by kernel_rfl) (Or.inl ⟨by rfl, _⟩) _; rotate_left; · (intro s h; (try dsimp only at h); go_simp; try with_reducible rfl)
 try simp only [Act.put,nA,nB,nC]
 refine' tQ 2 ⟨some 207, .fieldAddr 68 (.tmp 206) 0, 0, "law.go:109", #[⟨1, .data⟩], none⟩ rfl (by kernel_rfl) (Or.inl ⟨by rfl, _⟩) _; rotate_left; · (intro s h; (try dsimp only at h); go_simp; try with_reducible rfl)
 try simp only [Act.put,nA,nB,nC]
 refine' tQ 3 ⟨some 208, .load 40 (.tmp 207), 40, "law.go:109", #[⟨2, .data⟩], none⟩ rfl (by kernel_rfl) (Or.inl ⟨by rfl, _⟩) _; rotate_left; · (intro s h; (try dsimp only at h); go_simp; try with_reducible rfl)
 try simp only [Act.put,nA,nB,nC]
 refine' tQ 4 ⟨some 209, .fieldAddr 74 (.tmp 5) 5, 0, "law.go:109", #[], none⟩ rfl (by kernel_rfl) (Or.inl ⟨by rfl, _⟩) _; rotate_left; · (intro s h; (try dsimp only at h); go_simp; try with_reducible rfl)
 try simp only [Act.put,nA,nB,nC]
 refine' tQ 5 ⟨some 210, .load 29 (.tmp 209), 29, "law.go:109", #[⟨4, .data⟩], none⟩ rfl (by kernel_rfl) (Or.inl ⟨by rfl, _⟩) _; rotate_left; · (intro s h; (try dsimp only at h); go_simp; try with_reducible rfl)
 try simp only [Act.put,nA,nB,nC]
 refine wpAnyH_ready (rs := [6, 10]) (by kernel_rfl) (by simp) ?_
 refine (AllReadyH.cons (o := ⟨some 211, .call ⟨.value (.func 25), #[.tmp 208, .tmp 210], #[40, 29]⟩, 44, "law.go:109", #[⟨3, .data⟩, ⟨5, .data⟩], none⟩) rfl (fun K hK => ?_) (AllReadyH.cons (o := ⟨some 17, .alloc 31, 0, "law.go:109", #[], none⟩) rfl (fun K hK => ?_) AllReadyH.nil))
 ·go_simp
  go_at_call 25
  refine (Head_no _ B p b lv wd L s LD hw hn).mono ?_
  rintro e w2 ⟨rfl, b2'⟩
  have b2 : Below w0.heap.size w0 w2 := Below.trans (Below.refl _ _).drew b2'
  have H2 := Lib.hid (H0.out.low b2)
  have E2 : Hid (SBx w2 N 3 who texts digs n s) := heap_below E0.out b2 (by omega)
  have B2 := Lib.hid (B0.out.trans (b2.mono (by omega)))
  have hz2 := b2.size
  clear b2 b2' H0 E0 B0 LD
  refine hK.out _ _ ?_ (fun hHeld => ?_)
  ·exact ⟨H2.out.cell off _ H2.out.c0, by rw [heap_cell E2.out]; rfl⟩
  clear hK K
  try simp only [Act.put,nA,nB,nC]
  refine' tQ 7 ⟨some 204, .move (.tmp 211), 44, "law.go:109", #[⟨6, .data⟩], none⟩ rfl (by kernel_rfl) (Or.inl ⟨by rfl, _⟩) _; rotate_left; · (intro s h; (try dsimp only at h); go_simp; try with_reducible rfl)
  try simp only [Act.put,nA,nB,nC]
  refine' tQ 8 ⟨some 212, .extract (.tmp 204) 0, 31, "law.go:109", #[⟨7, .data⟩], none⟩ rfl (by kernel_rfl) (Or.inl ⟨by rfl, _⟩) _; rotate_left; · (intro s h; (try dsimp only at h); go_simp; try with_reducible rfl)
  try simp only [Act.put,nA,nB,nC]
  refine' tQ 9 ⟨some 213, .extract (.tmp 204) 1, 24, "law.go:109", #[⟨7, .data⟩, ⟨11, .gcOnly .lateStores⟩], none⟩ rfl (by kernel_rfl) (Or.inl ⟨by rfl, _⟩) _; rotate_left; · (intro s h; (try dsimp only at h); go_simp; try with_reducible rfl)
  try simp only [Act.put,nA,nB,nC]
  refine wpAnyH_ready (rs := [10]) (by kernel_rfl) (by simp) ?_
  refine (AllReadyH.cons (o := ⟨some 17, .alloc 31, 0, "law.go:109", #[], none⟩) rfl (fun K hK => ?_) AllReadyH.nil)
  obtain ⟨x, hx⟩ : ∃ x, w2.heap.size = x := ⟨_, rfl⟩
  refine step_of rfl (wp_allocH rfl x hx ?_)
  intro w3 e3 b3 z3
  have hb3 : Below w2.heap.size w2 w3 := by rw [hx]; exact b3
  have H3 := Lib.hid (H2.out.low hb3)
  have E3 : Hid (SBx w3 N 3 who texts digs n s) := heap_below E2.out hb3 (by omega)
  have B3 := Lib.hid (B2.out.trans (hb3.mono (by omega)))
  have HX : Hid (p < x ∧ b < x ∧ (∀ k, lv.ownBlock = some k → k < x) ∧ (∀ k, (Value.slice rad L.length rcap).ownBlock = some k → k < x)) := ⟨by have := H2.out.log.lt; omega, by have := H2.out.log.ltb; omega, fun k hk => by have := (H2.out.log.leaves.lt k hk).2; omega, fun k hk => by have := (H2.out.row.lt k hk).2; omega⟩
  clear b3 hb3 H2 E2 B2
  refine hK.out _ _ ?_ (fun hHeld => ?_)
  ·exact ⟨H3.out.cell off _ H3.out.c0, by rw [heap_cell E3.out]; rfl⟩
  clear hK K
  try simp only [Act.put,nA,nB,nC]
  refine wpAnyH_ready (rs := [11]) (by kernel_rfl) (by simp) ?_
  refine (AllReadyH.cons (o := ⟨none, .store 31 (.tmp 17) (.tmp 212), 0, "law.go:109", #[⟨10, .data⟩, ⟨8, .data⟩, ⟨6, .chain⟩, ⟨0, .phase⟩, ⟨1, .phase⟩, ⟨2, .phase⟩, ⟨3, .phase⟩, ⟨4, .phase⟩, ⟨5, .phase⟩, ⟨6, .phase⟩, ⟨7, .phase⟩, ⟨8, .phase⟩, ⟨9, .textOnly .lateStores⟩, ⟨10, .phase⟩], none⟩) rfl (fun K hK => ?_) AllReadyH.nil)
  refine step_of rfl (wp_storeH _ _ rfl x rfl 0 0 zeros32 zeros32 rfl zeros32_len e3 rfl ?_)
  intro w9 e9 k9 b9 z9
  have hb9 : Below x w3 w9 := b9
  have hqx : q < x := by omega
  have H9 := Lib.hid (H3.out.kept (Mod.kept (S := fun k => k = x) k9 rfl) (by omega) (by have := HX.out; omega) (by have := HX.out; omega) (fun k hk e => by have := HX.out; have := this.2.2.1 k hk; omega) (fun k hk e => by have := HX.out; have := this.2.2.2 k hk; omega))
  have E9 : Hid (SBx w9 N 3 who texts digs n s) := k9.heap E3.out (by omega)
  have B9 := Lib.hid (B3.out.trans (hb9.mono (by omega)))
  have X9 := Lib.hid e9
  have e9x := Lib.hid e9
  refine hK.out _ _ ?_ (fun hHeld => ?_)
  ·exact ⟨H9.out.cell off _ H9.out.c0, by rw [heap_cell E9.out]; rfl⟩
  clear hK K e3 e9 b9 k9 hb9 H3 E3 B3
  try simp only [Act.put,nA,nB,nC]
  refine' tQ 12 ⟨some 18, .assign (.tmp 213), 24, "law.go:109", #[⟨9, .data⟩, ⟨11, .chain⟩, ⟨0, .phase⟩, ⟨1, .phase⟩, ⟨2, .phase⟩, ⟨3, .phase⟩, ⟨4, .phase⟩, ⟨5, .phase⟩, ⟨6, .phase⟩, ⟨7, .phase⟩, ⟨8, .phase⟩, ⟨9, .phase⟩, ⟨10, .phase⟩, ⟨11, .phase⟩], none⟩ rfl (by kernel_rfl) (Or.inl ⟨by rfl, _⟩) _; rotate_left; · (intro s h; (try dsimp only at h); go_simp; try with_reducible rfl)
  try simp only [Act.put,nA,nB,nC]
  refine wpAnyH_done (by kernel_rfl) ?_ _
  clear hHeld
  have g1 := H9.out.cell (off + 1) _ H9.out.c1
  have g2 := H9.out.cell (off + 2) _ H9.out.c2
  have s4 := heap_cell E9.out (o := 5)
  have hz9 := heap_lt e9x.out
  have d1 : decide (L.length < s) = true := decide_eq_true (by omega)
  have d2 : decide ((L.length : Int) < (s : Int)) = true := decide_eq_true (by omega)
  have hqd := eqH 0 0 zeros32 zeros32 rfl rfl
  rw [beq_self_eq_true, beq_self_eq_true] at hqd
  have hqg := eqGuardH 0 0 zeros32 zeros32
  go_upto_region 31 with fail
  with_reducible refine wp_region_list ?_
  iterate 3
   (with_reducible refine wpList_plain rfl ?_); intro K hK; go_simp; (with_reducible refine hK _ _ ?_); clear hK K; try simp only [Act.put,nA,nB,nC]
  set_option maxRecDepth 20000 in
  refine wpList_loadHG rfl _ rfl x rfl 0 zeros32 rfl X9.out ?_
  try simp only [Act.put,nA,nB,nC]
  set_option maxRecDepth 20000 in
  refine wpList_buildH0g rfl rfl ?_
  try simp only [Act.put,nA,nB,nC]
  (with_reducible refine wpList_step ?_); intro K hK; rw [if_pos (by rfl)]; go_simp; (with_reducible refine hK _ _ ?_); clear hK K; try simp only [Act.put,nA,nB,nC]
  iterate 2
   (with_reducible refine wpList_plain rfl ?_); intro K hK; go_simp; (with_reducible refine hK _ _ ?_); clear hK K; try simp only [Act.put,nA,nB,nC]
  clear hqd hqg
  go_wp2_with fail
  go_ret
  exact ⟨rfl, B9.out⟩
 ·obtain ⟨x, hx⟩ : ∃ x, w0.heap.size = x := ⟨_, rfl⟩
  refine step_of rfl (wp_allocH rfl x hx ?_)
  intro w2 e2 b2 z2
  have hb2 : Below w0.heap.size w0 w2 := Below.trans (Below.refl _ _).drew (by rw [hx]; exact b2)
  have H2 := Lib.hid (H0.out.low hb2)
  have E2 : Hid (SBx w2 N 3 who texts digs n s) := heap_below E0.out hb2 (by omega)
  have B2 := Lib.hid (B0.out.trans (hb2.mono (by omega)))
  have HX : Hid (p < x ∧ b < x ∧ (∀ k, lv.ownBlock = some k → k < x) ∧ (∀ k, (Value.slice rad L.length rcap).ownBlock = some k → k < x)) := ⟨by have := H0.out.log.lt; omega, by have := H0.out.log.ltb; omega, fun k hk => by have := (H0.out.log.leaves.lt k hk).2; omega, fun k hk => by have := (H0.out.row.lt k hk).2; omega⟩
  clear b2 hb2 H0 E0 B0 LD
  refine hK.out _ _ ?_ (fun hHeld => ?_)
  ·exact ⟨H2.out.cell off _ H2.out.c0, by rw [heap_cell E2.out]; rfl⟩
  clear hK K
  try simp only [Act.put,nA,nB,nC]
  refine wpAnyH_ready (rs := [6]) (by kernel_rfl) (by simp) ?_
  refine AllReadyH.cons (o := ⟨some 211, .call ⟨.value (.func 25), #[.tmp 208, .tmp 210], #[40, 29]⟩, 44, "law.go:109", #[⟨3, .data⟩, ⟨5, .data⟩], none⟩) rfl (fun K hK => ?_) AllReadyH.nil
  (go_simp; (go_at_call 25; refine (Head_no _ B p b lv wd L s (Lib.hid H2.out.log) hw hn).mono ?_; rintro e w3 ⟨rfl, b3⟩; have H3 := Lib.hid (H2.out.low b3); have E3 : Hid (SBx w3 N 3 who texts digs n s) := heap_below E2.out b3 (by omega)))
  refine hK.out _ _ ?_ (fun hHeld => ?_)
  ·exact ⟨H3.out.cell off _ H3.out.c0, by rw [heap_cell E3.out]; rfl⟩
  clear hK K
  try simp only [Act.put,nA,nB,nC]
  have B3 := Lib.hid (B2.out.trans (b3.mono (by omega)))
  have e3 := heap_below e2 b3 (by omega)
  have hz3 := b3.size
  clear b3 e2 H2 E2 B2
  refine' tQ 7 ⟨some 204, .move (.tmp 211), 44, "law.go:109", #[⟨6, .data⟩], none⟩ rfl (by kernel_rfl) (Or.inl ⟨by rfl, _⟩) _; rotate_left; · (intro s h; (try dsimp only at h); go_simp; try with_reducible rfl)
  try simp only [Act.put,nA,nB,nC]
  refine' tQ 8 ⟨some 212, .extract (.tmp 204) 0, 31, "law.go:109", #[⟨7, .data⟩], none⟩ rfl (by kernel_rfl) (Or.inl ⟨by rfl, _⟩) _; rotate_left; · (intro s h; (try dsimp only at h); go_simp; try with_reducible rfl)
  try simp only [Act.put,nA,nB,nC]
  refine' tQ 9 ⟨some 213, .extract (.tmp 204) 1, 24, "law.go:109", #[⟨7, .data⟩, ⟨11, .gcOnly .lateStores⟩], none⟩ rfl (by kernel_rfl) (Or.inl ⟨by rfl, _⟩) _; rotate_left; · (intro s h; (try dsimp only at h); go_simp; try with_reducible rfl)
  try simp only [Act.put,nA,nB,nC]
  refine wpAnyH_ready (rs := [11]) (by kernel_rfl) (by simp) ?_
  refine (AllReadyH.cons (o := ⟨none, .store 31 (.tmp 17) (.tmp 212), 0, "law.go:109", #[⟨10, .data⟩, ⟨8, .data⟩, ⟨6, .chain⟩, ⟨0, .phase⟩, ⟨1, .phase⟩, ⟨2, .phase⟩, ⟨3, .phase⟩, ⟨4, .phase⟩, ⟨5, .phase⟩, ⟨6, .phase⟩, ⟨7, .phase⟩, ⟨8, .phase⟩, ⟨9, .textOnly .lateStores⟩, ⟨10, .phase⟩], none⟩) rfl (fun K hK => ?_) AllReadyH.nil)
  refine step_of rfl (wp_storeH _ _ rfl x rfl 0 0 zeros32 zeros32 rfl zeros32_len e3 rfl ?_)
  intro w9 e9 k9 b9 z9
  have hb9 : Below x w3 w9 := b9
  have hqx : q < x := by omega
  have H9 := Lib.hid (H3.out.kept (Mod.kept (S := fun k => k = x) k9 rfl) (by omega) (by have := HX.out; omega) (by have := HX.out; omega) (fun k hk e => by have := HX.out; have := this.2.2.1 k hk; omega) (fun k hk e => by have := HX.out; have := this.2.2.2 k hk; omega))
  have E9 : Hid (SBx w9 N 3 who texts digs n s) := k9.heap E3.out (by omega)
  have B9 := Lib.hid (B3.out.trans (hb9.mono (by omega)))
  have X9 := Lib.hid e9
  have e9x := Lib.hid e9
  refine hK.out _ _ ?_ (fun hHeld => ?_)
  ·exact ⟨H9.out.cell off _ H9.out.c0, by rw [heap_cell E9.out]; rfl⟩
  clear hK K e3 e9 b9 k9 hb9 H3 E3 B3
  try simp only [Act.put,nA,nB,nC]
  refine' tQ 12 ⟨some 18, .assign (.tmp 213), 24, "law.go:109", #[⟨9, .data⟩, ⟨11, .chain⟩, ⟨0, .phase⟩, ⟨1, .phase⟩, ⟨2, .phase⟩, ⟨3, .phase⟩, ⟨4, .phase⟩, ⟨5, .phase⟩, ⟨6, .phase⟩, ⟨7, .phase⟩, ⟨8, .phase⟩, ⟨9, .phase⟩, ⟨10, .phase⟩, ⟨11, .phase⟩], none⟩ rfl (by kernel_rfl) (Or.inl ⟨by rfl, _⟩) _; rotate_left; · (intro s h; (try dsimp only at h); go_simp; try with_reducible rfl)
  try simp only [Act.put,nA,nB,nC]
  refine wpAnyH_done (by kernel_rfl) ?_ _
  clear hHeld
  have g1 := H9.out.cell (off + 1) _ H9.out.c1
  have g2 := H9.out.cell (off + 2) _ H9.out.c2
  have s4 := heap_cell E9.out (o := 5)
  have hz9 := heap_lt e9x.out
  have d1 : decide (L.length < s) = true := decide_eq_true (by omega)
  have d2 : decide ((L.length : Int) < (s : Int)) = true := decide_eq_true (by omega)
  have hqd := eqH 0 0 zeros32 zeros32 rfl rfl
  rw [beq_self_eq_true, beq_self_eq_true] at hqd
  have hqg := eqGuardH 0 0 zeros32 zeros32
  go_upto_region 31 with fail
  with_reducible refine wp_region_list ?_
  iterate 3
   (with_reducible refine wpList_plain rfl ?_); intro K hK; go_simp; (with_reducible refine hK _ _ ?_); clear hK K; try simp only [Act.put,nA,nB,nC]
  set_option maxRecDepth 20000 in
  refine wpList_loadHG rfl _ rfl x rfl 0 zeros32 rfl X9.out ?_
  try simp only [Act.put,nA,nB,nC]
  set_option maxRecDepth 20000 in
  refine wpList_buildH0g rfl rfl ?_
  try simp only [Act.put,nA,nB,nC]
  (with_reducible refine wpList_step ?_); intro K hK; rw [if_pos (by rfl)]; go_simp; (with_reducible refine hK _ _ ?_); clear hK K; try simp only [Act.put,nA,nB,nC]
  iterate 2
   (with_reducible refine wpList_plain rfl ?_); intro K hK; go_simp; (with_reducible refine hK _ _ ?_); clear hK K; try simp only [Act.put,nA,nB,nC]
  clear hqd hqg
  go_wp2_with fail
  go_ret
  exact ⟨rfl, B9.out⟩
end Go.Proofs.Ytihbhpggpnmifaa
namespace Go.Proofs.Ytihbhpggpnmifaa
open Go.RowKit Go.Lib Hw
set_option maxRecDepth 20000 in
set_option maxHeartbeats 4000000 in
theorem step_other (w : World) (q off : Nat) (cs : List Value) (B p b : Nat) (lv rv : Value) (wd : Nat) (L : List Dg) (d who : Int) (texts digs : Value) (n s : Nat) (h : Hid (PR w q off cs B p b lv rv wd L)) (hd : ¬ (0 ≤ d ∧ d ≤ 6)) :
  Calls Try.prog 37 #[.pointer (some ⟨q, 0, none⟩), .pointer (some ⟨q, off, none⟩), stepV d who texts digs n s] w fun e w' => e = .returned (.bool true) ∧ Below w.heap.size w w' := by
 obtain ⟨rad, rcap, hrv, _⟩ := h.out.row.shape
 subst hrv
 have hLl := h.out.log.len
 obtain ⟨N, hN⟩ : ∃ N, w.heap.size = N := ⟨_, rfl⟩
 have HN := Lib.hid hN
 rw [hN]
 have d0 : (d == 0) = false := beq_eq_false_iff_ne.2 (by omega)
 have d1 : (d == 1) = false := beq_eq_false_iff_ne.2 (by omega)
 have d2 : (d == 2) = false := beq_eq_false_iff_ne.2 (by omega)
 have d3 : (d == 3) = false := beq_eq_false_iff_ne.2 (by omega)
 have d4 : (d == 4) = false := beq_eq_false_iff_ne.2 (by omega)
 have d5 : (d == 5) = false := beq_eq_false_iff_ne.2 (by omega)
 have d6 : (d == 6) = false := beq_eq_false_iff_ne.2 (by omega)
 clear hN hd
 unfold stepV
 go_enter Try.func37, Try.ntmps37
 go_upto_region 0 with fail
 with_reducible refine wp_region_list ?_
 refine wpList_boxB rfl _ _ rfl N HN.out #[.int .i64 d, .int .i64 who, texts, digs, .int .u64 (n : Int), .int .u64 (s : Int)] rfl ?_
 intro w0 e0 b0 z0
 try simp only [Act.put,nA,nB,nC]
 (with_reducible refine wpList_plain rfl ?_); intro K hK; go_simp; (with_reducible refine hK _ _ ?_); clear hK K; try simp only [Act.put,nA,nB,nC]
 have H0 := Lib.hid (h.out.low (by rw [HN.out]; exact b0))
 have B0 := Lib.hid b0
 have g2 := H0.out.cell (off + 2) _ H0.out.c2
 have s0 := heap_cell e0 (o := 0)
 have wL := IntWalk.u64_in (L.length : Int) (by omega)
 clear h b0 e0
 go_wp2_with fail
 go_ret
 exact ⟨rfl, B0.out⟩
end Go.Proofs.Ytihbhpggpnmifaa
