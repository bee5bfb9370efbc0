/-
 A step of the second kind: Leaf.
-/
import Derived.Test.YtihbhpggpnmifaaHH
set_option linter.unusedSimpArgs false
set_option linter.unusedVariables false
namespace Go.Proofs.Ytihbhpggpnmifaa
open Go.RowKit Go.Lib Hw
theorem PR.kept {W W' : World} {q off : Nat} {cs : List Value} {B p b : Nat} {lv rv : Value} {wd : Nat} {L : List Dg} (h : PR W q off cs B p b lv rv wd L) {S : Nat → Prop} (m : Mod S W W') (h1 : ¬ S q) (h2 : ¬ S p) (h3 : ¬ S b) (h4 : ∀ k, lv.ownBlock = some k → ¬ S k) (h5 : ∀ k, rv.ownBlock = some k → ¬ S k) : PR W' q off cs B p b lv rv wd L :=
 ⟨m.heap h.blk h1, h.len, h.c0, h.c1, h.c2, h.log.mod m h2 h3 h4, h.row.mod m h5, h.qp, h.qb, h.ql, h.qr, h.rp, h.rb, h.rl⟩
def SBx (W : World) (N : Nat) (d who : Int) (texts digs : Value) (n s : Nat) : Prop := W.heap[N]? = some (.cells #[.int .i64 d, .int .i64 who, texts, digs, .int .u64 (n : Int), .int .u64 (s : Int)] 74 (0, 0))
set_option maxRecDepth 20000 in
set_option maxHeartbeats 8000000 in
theorem step_2_yes (w : World) (q off : Nat) (cs : List Value) (B p b : Nat) (lv rv : Value) (wd : Nat) (L : List Dg) (who : Int) (texts digs : Value) (n s : Nat) (h : Hid (PR w q off cs B p b lv rv wd L)) (hw : 1 ≤ wd) (hn : n < L.length) (hn64 : n < 18446744073709551616) :
  Calls Try.prog 37 #[.pointer (some ⟨q, 0, none⟩), .pointer (some ⟨q, off, none⟩), stepV 2 who texts digs n s] w fun e w' => e = .returned (.bool true) ∧ Below w.heap.size w w' := by
 obtain ⟨rad, rcap, hrv, hrf⟩ := h.out.row.shape
 obtain ⟨gr, rfl⟩ := hrf (by omega)
 have f0 := h.out.cell off _ h.out.c0
 have f1 := h.out.cell (off + 1) _ h.out.c1
 have f2 := h.out.cell (off + 2) _ h.out.c2
 subst hrv
 have hLl := h.out.log.len
 have HAll : Hid (All32 L) := h.out.log.all
 obtain ⟨D, hD⟩ : ∃ D, L[n] = D := ⟨_, rfl⟩
 have hDl : D.length = 32 := by rw [← hD]; exact HAll.out _ (List.getElem_mem hn)
 have HD := Lib.hid hD
 have HDl := Lib.hid hDl
 clear hD hDl
 obtain ⟨N, hN⟩ : ∃ N, w.heap.size = N := ⟨_, rfl⟩
 have HN := Lib.hid hN
 have hqN : q < N := by have := heap_lt h.out.blk; omega
 rw [hN]
 clear hN hrf
 unfold stepV
 go_enter Try.func37, Try.ntmps37
 go_upto_region 0 with fail
 with_reducible refine wp_region_list ?_
 refine wpList_boxB rfl _ _ rfl N HN.out #[.int .i64 2, .int .i64 who, texts, digs, .int .u64 (n : Int), .int .u64 (s : Int)] rfl ?_
 intro w0 e0 b0 z0
 try simp only [Act.put,nA,nB,nC]
 (with_reducible refine wpList_plain rfl ?_); intro K hK; go_simp; (with_reducible refine hK _ _ ?_); clear hK K; try simp only [Act.put,nA,nB,nC]
 have H0 := Lib.hid (h.out.low (by rw [HN.out]; exact b0))
 have B0 := Lib.hid b0
 have E0 : Hid (SBx w0 N 2 who texts digs n s) := e0
 have g0 := H0.out.cell off _ H0.out.c0
 have g2 := H0.out.cell (off + 2) _ H0.out.c2
 have s0 := heap_cell e0 (o := 0)
 have s4 := heap_cell e0 (o := 4)
 have LD : Hid (LogB w0.drew B p b lv wd L) := H0.out.log.drew
 have wL := IntWalk.u64_in (L.length : Int) (by omega)
 clear f0 f1 f2 h b0 e0
 go_upto_region 24 with fail
 clear s0 g2
 refine wp_region_held_drew (S := fun W => W.cell? ⟨q, off, none⟩ = some (.pointer (some ⟨p, 0, none⟩)) ∧ W.cell? ⟨N, 4, none⟩ = some (.int .u64 (n : Int))) (by kernel_rfl) ⟨g0, s4⟩ (fun hHeld => ?_)
 refine' tQ 0 ⟨some 168, .move (.tmp 1), 72, "law.go:103", #[], none⟩ rfl (by kernel_rfl) (Or.inl ⟨by rfl, _⟩) _; rotate_left; · (intro s h; (try dsimp only at h); go_simp; try with_reducible rfl)
 try simp only [Act.put,nA,nB,nC]
 refine' tQ 1 ⟨some 169, .nilCheck (.tmp 168), 0, "law.go:103", #[⟨0, .data⟩], none⟩ rfl (by kernel_rfl) (Or.inl ⟨by rfl, _⟩) _; rotate_left; · (intro s h; (try dsimp only at h); go_simp; try with_reducible rfl)
 try simp only [Act.put,nA,nB,nC]
 refine' tQ 2 ⟨some 170, .fieldAddr 68 (.tmp 169) 0, 0, "law.go:103", #[⟨1, .data⟩], none⟩ rfl (by kernel_rfl) (Or.inl ⟨by rfl, _⟩) _; rotate_left; · (intro s h; (try dsimp only at h); go_simp; try with_reducible rfl)
 try simp only [Act.put,nA,nB,nC]
 refine' tQ 3 ⟨some 171, .load 40 (.tmp 170), 40, "law.go:103", #[⟨2, .data⟩], none⟩ rfl (by kernel_rfl) (Or.inl ⟨by rfl, _⟩) _; rotate_left; · (intro s h; (try dsimp only at h); go_simp; try with_reducible rfl)
 try simp only [Act.put,nA,nB,nC]
 refine' tQ 4 ⟨some 172, .fieldAddr 74 (.tmp 5) 4, 0, "law.go:103", #[], none⟩ rfl (by kernel_rfl) (Or.inl ⟨by rfl, _⟩) _; rotate_left; · (intro s h; (try dsimp only at h); go_simp; try with_reducible rfl)
 try simp only [Act.put,nA,nB,nC]
 refine' tQ 5 ⟨some 173, .load 29 (.tmp 172), 29, "law.go:103", #[⟨4, .data⟩], none⟩ rfl (by kernel_rfl) (Or.inl ⟨by rfl, _⟩) _; rotate_left; · (intro s h; (try dsimp only at h); go_simp; try with_reducible rfl)
 try simp only [Act.put,nA,nB,nC]
 refine wpAnyH_ready (rs := [6, 10]) (by kernel_rfl) (by simp) ?_
 refine (AllReadyH.cons (o := ⟨some 174, .call ⟨.value (.func 28), #[.tmp 171, .tmp 173], #[40, 29]⟩, 25, "law.go:103", #[⟨3, .data⟩, ⟨5, .data⟩], none⟩) rfl (fun K hK => ?_) (AllReadyH.cons (o := ⟨some 15, .alloc 23, 0, "law.go:103", #[], none⟩) rfl (fun K hK => ?_) AllReadyH.nil))
 ·go_simp
  go_at_call 28
  refine (LLeaf_yes _ B p b lv wd L n LD hw hn).mono ?_
  rintro e w2 ⟨rfl, b2'⟩; rw [HD.out]
  have b2 : Below w0.heap.size w0 w2 := Below.trans (Below.refl _ _).drew b2'
  have H2 := Lib.hid (H0.out.low b2)
  have E2 : Hid (SBx w2 N 2 who texts digs n s) := heap_below E0.out b2 (by omega)
  have B2 := Lib.hid (B0.out.trans (b2.mono (by omega)))
  have hz2 := b2.size
  clear b2 b2' H0 E0 B0 LD
  refine hK.out _ _ ?_ (fun hHeld => ?_)
  ·exact ⟨H2.out.cell off _ H2.out.c0, by rw [heap_cell E2.out]; rfl⟩
  clear hK K
  try simp only [Act.put,nA,nB,nC]
  refine' tQ 7 ⟨some 167, .move (.tmp 174), 25, "law.go:103", #[⟨6, .data⟩], none⟩ rfl (by kernel_rfl) (Or.inl ⟨by rfl, _⟩) _; rotate_left; · (intro s h; (try dsimp only at h); go_simp; try with_reducible rfl)
  try simp only [Act.put,nA,nB,nC]
  refine' tQ 8 ⟨some 175, .extract (.tmp 167) 0, 23, "law.go:103", #[⟨7, .data⟩], none⟩ rfl (by kernel_rfl) (Or.inl ⟨by rfl, _⟩) _; rotate_left; · (intro s h; (try dsimp only at h); go_simp; try with_reducible rfl)
  try simp only [Act.put,nA,nB,nC]
  refine' tQ 9 ⟨some 176, .extract (.tmp 167) 1, 24, "law.go:103", #[⟨7, .data⟩, ⟨11, .gcOnly .lateStores⟩], none⟩ rfl (by kernel_rfl) (Or.inl ⟨by rfl, _⟩) _; rotate_left; · (intro s h; (try dsimp only at h); go_simp; try with_reducible rfl)
  try simp only [Act.put,nA,nB,nC]
  refine wpAnyH_ready (rs := [10]) (by kernel_rfl) (by simp) ?_
  refine (AllReadyH.cons (o := ⟨some 15, .alloc 23, 0, "law.go:103", #[], none⟩) rfl (fun K hK => ?_) AllReadyH.nil)
  obtain ⟨x, hx⟩ : ∃ x, w2.heap.size = x := ⟨_, rfl⟩
  refine step_of rfl (wp_allocD rfl x hx ?_)
  intro w3 e3 b3 z3
  have hb3 : Below w2.heap.size w2 w3 := by rw [hx]; exact b3
  have H3 := Lib.hid (H2.out.low hb3)
  have E3 : Hid (SBx w3 N 2 who texts digs n s) := heap_below E2.out hb3 (by omega)
  have B3 := Lib.hid (B2.out.trans (hb3.mono (by omega)))
  have HX : Hid (p < x ∧ b < x ∧ (∀ k, lv.ownBlock = some k → k < x) ∧ (∀ k, (Value.slice (some ⟨gr, 0, none⟩) L.length rcap).ownBlock = some k → k < x)) := ⟨by have := H2.out.log.lt; omega, by have := H2.out.log.ltb; omega, fun k hk => by have := (H2.out.log.leaves.lt k hk).2; omega, fun k hk => by have := (H2.out.row.lt k hk).2; omega⟩
  clear b3 hb3 H2 E2 B2
  refine hK.out _ _ ?_ (fun hHeld => ?_)
  ·exact ⟨H3.out.cell off _ H3.out.c0, by rw [heap_cell E3.out]; rfl⟩
  clear hK K
  try simp only [Act.put,nA,nB,nC]
  refine wpAnyH_ready (rs := [11]) (by kernel_rfl) (by simp) ?_
  refine (AllReadyH.cons (o := ⟨none, .store 23 (.tmp 15) (.tmp 175), 0, "law.go:103", #[⟨10, .data⟩, ⟨8, .data⟩, ⟨6, .chain⟩, ⟨0, .phase⟩, ⟨1, .phase⟩, ⟨2, .phase⟩, ⟨3, .phase⟩, ⟨4, .phase⟩, ⟨5, .phase⟩, ⟨6, .phase⟩, ⟨7, .phase⟩, ⟨8, .phase⟩, ⟨9, .textOnly .lateStores⟩, ⟨10, .phase⟩], none⟩) rfl (fun K hK => ?_) AllReadyH.nil)
  refine step_of rfl (wp_storeD _ _ rfl x rfl zeros32 D rfl HDl.out rfl e3 ?_)
  intro w9 e9 b9 k9 z9
  have hb9 : Below x w3 w9 := b9
  have hqx : q < x := by omega
  have H9 := Lib.hid (H3.out.kept (Mod.kept (S := fun k => k = x) k9 rfl) (by omega) (by have := HX.out; omega) (by have := HX.out; omega) (fun k hk e => by have := HX.out; have := this.2.2.1 k hk; omega) (fun k hk e => by have := HX.out; have := this.2.2.2 k hk; omega))
  have E9 : Hid (SBx w9 N 2 who texts digs n s) := k9.heap E3.out (by omega)
  have B9 := Lib.hid (B3.out.trans (hb9.mono (by omega)))
  have X9 := Lib.hid e9
  refine hK.out _ _ ?_ (fun hHeld => ?_)
  ·exact ⟨H9.out.cell off _ H9.out.c0, by rw [heap_cell E9.out]; rfl⟩
  clear hK K e3 e9 b9 k9 hb9 H3 E3 B3
  try simp only [Act.put,nA,nB,nC]
  refine' tQ 12 ⟨some 16, .assign (.tmp 176), 24, "law.go:103", #[⟨9, .data⟩, ⟨11, .chain⟩, ⟨0, .phase⟩, ⟨1, .phase⟩, ⟨2, .phase⟩, ⟨3, .phase⟩, ⟨4, .phase⟩, ⟨5, .phase⟩, ⟨6, .phase⟩, ⟨7, .phase⟩, ⟨8, .phase⟩, ⟨9, .phase⟩, ⟨10, .phase⟩, ⟨11, .phase⟩], none⟩ rfl (by kernel_rfl) (Or.inl ⟨by rfl, _⟩) _; rotate_left; · (intro s h; (try dsimp only at h); go_simp; try with_reducible rfl)
  try simp only [Act.put,nA,nB,nC]
  refine wpAnyH_done (by kernel_rfl) ?_ _
  clear hHeld
  have g2 := H9.out.cell (off + 2) _ H9.out.c2
  have s4 := heap_cell E9.out (o := 4)
  have d1 : decide (L.length ≤ n) = false := decide_eq_false (by omega)
  have d2 : decide ((L.length : Int) ≤ (n : Int)) = false := decide_eq_false (by omega)
  have inL : (n : Int) < (L.length : Int) := by omega
  have hr := H9.out.row.range HAll.out n hn
  rw [HD.out] at hr
  have hqd := eqD D D HDl.out HDl.out
  rw [beq_self_eq_true] at hqd
  have hqg := eqGuardD D D
  go_upto_region 27 with fail
  refine wp_region_held_drew (S := fun W => DB W x D ∧ W.rangeAt gr (n * 32) (D.map bv) ∧ W.cell? ⟨q, off + 2, none⟩ = some (.slice (some ⟨gr, 0, none⟩) L.length rcap) ∧ W.cell? ⟨N, 4, none⟩ = some (.int .u64 (n : Int))) (by kernel_rfl) ⟨X9.out, hr, g2, s4⟩ (fun hHeld => ?_)
  refine' tQ 0 ⟨some 188, .move (.tmp 16), 24, "law.go:107", #[], none⟩ rfl (by kernel_rfl) (Or.inl ⟨by rfl, _⟩) _; rotate_left; · (intro s h; (try dsimp only at h); go_simp; try with_reducible rfl)
  try simp only [Act.put,nA,nB,nC]
  refine' tQ 1 ⟨some 189, .binOp .eql 24 (.tmp 188) (.const (.int .i64 0)) 24, 4, "law.go:107", #[⟨0, .data⟩], none⟩ rfl (by kernel_rfl) (Or.inl ⟨by rfl, _⟩) _; rotate_left; · (intro s h; (try dsimp only at h); go_simp; try with_reducible rfl)
  try simp only [Act.put,nA,nB,nC]
  refine' tQ 2 ⟨some 190, .move (.tmp 189), 4, "law.go:107", #[⟨1, .data⟩], none⟩ rfl (by kernel_rfl) (Or.inl ⟨by rfl, _⟩) _; rotate_left; · (intro s h; (try dsimp only at h); go_simp; try with_reducible rfl)
  try simp only [Act.put,nA,nB,nC]
  refine' tQ 3 ⟨some 191, .load 23 (.tmp 15), 23, "law.go:107", #[⟨2, .guard⟩], some (2, true)⟩ rfl (by kernel_rfl) (yieldsIf_loadD (by rfl) _ rfl (x) rfl (D) (HDl.out) (fun W hW => hW.1)) _
  try simp only [Act.put,nA,nB,nC]
  refine' tQ 4 ⟨some 192, .move (.tmp 1), 72, "law.go:107", #[⟨2, .guard⟩], some (2, true)⟩ rfl (by kernel_rfl) (Or.inl ⟨by rfl, _⟩) _; rotate_left; · (intro s h; (try dsimp only at h); go_simp; try with_reducible rfl)
  try simp only [Act.put,nA,nB,nC]
  refine' tQ 5 ⟨some 193, .nilCheck (.tmp 192), 0, "law.go:107", #[⟨4, .data⟩, ⟨2, .guard⟩], some (2, true)⟩ rfl (by kernel_rfl) (Or.inl ⟨by rfl, _⟩) _; rotate_left; · (intro s h; (try dsimp only at h); go_simp; try with_reducible rfl)
  try simp only [Act.put,nA,nB,nC]
  refine' tQ 6 ⟨some 194, .fieldAddr 68 (.tmp 193) 2, 0, "law.go:107", #[⟨5, .data⟩, ⟨2, .guard⟩], some (2, true)⟩ rfl (by kernel_rfl) (Or.inl ⟨by rfl, _⟩) _; rotate_left; · (intro s h; (try dsimp only at h); go_simp; try with_reducible rfl)
  try simp only [Act.put,nA,nB,nC]
  refine' tQ 7 ⟨some 195, .load 32 (.tmp 194), 32, "law.go:107", #[⟨6, .data⟩, ⟨2, .guard⟩], some (2, true)⟩ rfl (by kernel_rfl) (Or.inl ⟨by rfl, _⟩) _; rotate_left; · (intro s h; (try dsimp only at h); go_simp; try with_reducible rfl)
  try simp only [Act.put,nA,nB,nC]
  refine' tQ 8 ⟨some 196, .fieldAddr 74 (.tmp 5) 4, 0, "law.go:107", #[⟨2, .guard⟩], some (2, true)⟩ rfl (by kernel_rfl) (Or.inl ⟨by rfl, _⟩) _; rotate_left; · (intro s h; (try dsimp only at h); go_simp; try with_reducible rfl)
  try simp only [Act.put,nA,nB,nC]
  refine' tQ 9 ⟨some 197, .load 29 (.tmp 196), 29, "law.go:107", #[⟨8, .data⟩, ⟨2, .guard⟩], some (2, true)⟩ rfl (by kernel_rfl) (Or.inl ⟨by rfl, _⟩) _; rotate_left; · (intro s h; (try dsimp only at h); go_simp; try with_reducible rfl)
  try simp only [Act.put,nA,nB,nC]
  refine' tQ 10 ⟨some 198, .indexAddr 32 (.tmp 195) (.tmp 197), 0, "law.go:107", #[⟨7, .data⟩, ⟨9, .data⟩, ⟨2, .guard⟩], some (2, true)⟩ rfl (by kernel_rfl) (Or.inl ⟨by rfl, _⟩) _; rotate_left; · (intro s h; (try dsimp only at h); go_simp; try with_reducible rfl)
  try simp only [Act.put,nA,nB,nC]
  refine' tQ 11 ⟨some 199, .load 23 (.tmp 198), 23, "law.go:107", #[⟨10, .data⟩, ⟨2, .guard⟩], some (2, true)⟩ rfl (by kernel_rfl) (yieldsIf_loadRng (by rfl) _ rfl gr (n * 32) rfl D HDl.out (fun W hW => hW.2.1)) _
  try simp only [Act.put,nA,nB,nC]
  refine' tQ 12 ⟨some 200, .binOp .eql 23 (.tmp 191) (.tmp 199) 23, 4, "law.go:107", #[⟨3, .data⟩, ⟨11, .data⟩, ⟨2, .guard⟩], some (2, true)⟩ rfl (by kernel_rfl) (Or.inl ⟨by rfl, _⟩) _; rotate_left; · (intro s h; (try dsimp only at h); go_simp; try with_reducible rfl)
  try simp only [Act.put,nA,nB,nC]
  refine' tQ 13 ⟨some 201, .pick (.tmp 190) (.tmp 200) (.const (.bool false)), 4, "law.go:107", #[⟨2, .data⟩, ⟨12, .data⟩], none⟩ rfl (by kernel_rfl) (Or.inl ⟨by rfl, _⟩) _; rotate_left; · (intro s h; (try dsimp only at h); go_simp; try with_reducible rfl)
  try simp only [Act.put,nA,nB,nC]
  refine' tQ 14 ⟨some 6, .assign (.tmp 201), 4, "law.go:107", #[⟨13, .data⟩, ⟨2, .chain⟩, ⟨0, .phase⟩, ⟨1, .phase⟩, ⟨2, .phase⟩, ⟨3, .phase⟩, ⟨4, .phase⟩, ⟨5, .phase⟩, ⟨6, .phase⟩, ⟨7, .phase⟩, ⟨8, .phase⟩, ⟨9, .phase⟩, ⟨10, .phase⟩, ⟨11, .phase⟩, ⟨12, .phase⟩, ⟨13, .phase⟩], none⟩ rfl (by kernel_rfl) (Or.inl ⟨by rfl, _⟩) _; rotate_left; · (intro s h; (try dsimp only at h); go_simp; try with_reducible rfl)
  try simp only [Act.put,nA,nB,nC]
  refine wpAnyH_done (by kernel_rfl) ?_ _
  clear hHeld hqd hqg hr
  have B10 := Lib.hid B9.out.drew
  go_wp2_with fail
  go_ret
  exact ⟨rfl, B10.out⟩
 ·obtain ⟨x, hx⟩ : ∃ x, w0.heap.size = x := ⟨_, rfl⟩
  refine step_of rfl (wp_allocD rfl x hx ?_)
  intro w2 e2 b2 z2
  have hb2 : Below w0.heap.size w0 w2 := Below.trans (Below.refl _ _).drew (by rw [hx]; exact b2)
  have H2 := Lib.hid (H0.out.low hb2)
  have E2 : Hid (SBx w2 N 2 who texts digs n s) := heap_below E0.out hb2 (by omega)
  have B2 := Lib.hid (B0.out.trans (hb2.mono (by omega)))
  have HX : Hid (p < x ∧ b < x ∧ (∀ k, lv.ownBlock = some k → k < x) ∧ (∀ k, (Value.slice (some ⟨gr, 0, none⟩) L.length rcap).ownBlock = some k → k < x)) := ⟨by have := H0.out.log.lt; omega, by have := H0.out.log.ltb; omega, fun k hk => by have := (H0.out.log.leaves.lt k hk).2; omega, fun k hk => by have := (H0.out.row.lt k hk).2; omega⟩
  clear b2 hb2 H0 E0 B0 LD
  refine hK.out _ _ ?_ (fun hHeld => ?_)
  ·exact ⟨H2.out.cell off _ H2.out.c0, by rw [heap_cell E2.out]; rfl⟩
  clear hK K
  try simp only [Act.put,nA,nB,nC]
  refine wpAnyH_ready (rs := [6]) (by kernel_rfl) (by simp) ?_
  refine AllReadyH.cons (o := ⟨some 174, .call ⟨.value (.func 28), #[.tmp 171, .tmp 173], #[40, 29]⟩, 25, "law.go:103", #[⟨3, .data⟩, ⟨5, .data⟩], none⟩) rfl (fun K hK => ?_) AllReadyH.nil
  (go_simp; (go_at_call 28; refine (LLeaf_yes _ B p b lv wd L n (Lib.hid H2.out.log) hw hn).mono ?_; rintro e w3 ⟨rfl, b3⟩; rw [HD.out]; have H3 := Lib.hid (H2.out.low b3); have E3 : Hid (SBx w3 N 2 who texts digs n s) := heap_below E2.out b3 (by omega)))
  refine hK.out _ _ ?_ (fun hHeld => ?_)
  ·exact ⟨H3.out.cell off _ H3.out.c0, by rw [heap_cell E3.out]; rfl⟩
  clear hK K
  try simp only [Act.put,nA,nB,nC]
  have B3 := Lib.hid (B2.out.trans (b3.mono (by omega)))
  have e3 := heap_below e2 b3 (by omega)
  have hz3 := b3.size
  clear b3 e2 H2 E2 B2
  refine' tQ 7 ⟨some 167, .move (.tmp 174), 25, "law.go:103", #[⟨6, .data⟩], none⟩ rfl (by kernel_rfl) (Or.inl ⟨by rfl, _⟩) _; rotate_left; · (intro s h; (try dsimp only at h); go_simp; try with_reducible rfl)
  try simp only [Act.put,nA,nB,nC]
  refine' tQ 8 ⟨some 175, .extract (.tmp 167) 0, 23, "law.go:103", #[⟨7, .data⟩], none⟩ rfl (by kernel_rfl) (Or.inl ⟨by rfl, _⟩) _; rotate_left; · (intro s h; (try dsimp only at h); go_simp; try with_reducible rfl)
  try simp only [Act.put,nA,nB,nC]
  refine' tQ 9 ⟨some 176, .extract (.tmp 167) 1, 24, "law.go:103", #[⟨7, .data⟩, ⟨11, .gcOnly .lateStores⟩], none⟩ rfl (by kernel_rfl) (Or.inl ⟨by rfl, _⟩) _; rotate_left; · (intro s h; (try dsimp only at h); go_simp; try with_reducible rfl)
  try simp only [Act.put,nA,nB,nC]
  refine wpAnyH_ready (rs := [11]) (by kernel_rfl) (by simp) ?_
  refine (AllReadyH.cons (o := ⟨none, .store 23 (.tmp 15) (.tmp 175), 0, "law.go:103", #[⟨10, .data⟩, ⟨8, .data⟩, ⟨6, .chain⟩, ⟨0, .phase⟩, ⟨1, .phase⟩, ⟨2, .phase⟩, ⟨3, .phase⟩, ⟨4, .phase⟩, ⟨5, .phase⟩, ⟨6, .phase⟩, ⟨7, .phase⟩, ⟨8, .phase⟩, ⟨9, .textOnly .lateStores⟩, ⟨10, .phase⟩], none⟩) rfl (fun K hK => ?_) AllReadyH.nil)
  refine step_of rfl (wp_storeD _ _ rfl x rfl zeros32 D rfl HDl.out rfl e3 ?_)
  intro w9 e9 b9 k9 z9
  have hb9 : Below x w3 w9 := b9
  have hqx : q < x := by omega
  have H9 := Lib.hid (H3.out.kept (Mod.kept (S := fun k => k = x) k9 rfl) (by omega) (by have := HX.out; omega) (by have := HX.out; omega) (fun k hk e => by have := HX.out; have := this.2.2.1 k hk; omega) (fun k hk e => by have := HX.out; have := this.2.2.2 k hk; omega))
  have E9 : Hid (SBx w9 N 2 who texts digs n s) := k9.heap E3.out (by omega)
  have B9 := Lib.hid (B3.out.trans (hb9.mono (by omega)))
  have X9 := Lib.hid e9
  refine hK.out _ _ ?_ (fun hHeld => ?_)
  ·exact ⟨H9.out.cell off _ H9.out.c0, by rw [heap_cell E9.out]; rfl⟩
  clear hK K e3 e9 b9 k9 hb9 H3 E3 B3
  try simp only [Act.put,nA,nB,nC]
  refine' tQ 12 ⟨some 16, .assign (.tmp 176), 24, "law.go:103", #[⟨9, .data⟩, ⟨11, .chain⟩, ⟨0, .phase⟩, ⟨1, .phase⟩, ⟨2, .phase⟩, ⟨3, .phase⟩, ⟨4, .phase⟩, ⟨5, .phase⟩, ⟨6, .phase⟩, ⟨7, .phase⟩, ⟨8, .phase⟩, ⟨9, .phase⟩, ⟨10, .phase⟩, ⟨11, .phase⟩], none⟩ rfl (by kernel_rfl) (Or.inl ⟨by rfl, _⟩) _; rotate_left; · (intro s h; (try dsimp only at h); go_simp; try with_reducible rfl)
  try simp only [Act.put,nA,nB,nC]
  refine wpAnyH_done (by kernel_rfl) ?_ _
  clear hHeld
  have g2 := H9.out.cell (off + 2) _ H9.out.c2
  have s4 := heap_cell E9.out (o := 4)
  have d1 : decide (L.length ≤ n) = false := decide_eq_false (by omega)
  have d2 : decide ((L.length : Int) ≤ (n : Int)) = false := decide_eq_false (by omega)
  have inL : (n : Int) < (L.length : Int) := by omega
  have hr := H9.out.row.range HAll.out n hn
  rw [HD.out] at hr
  have hqd := eqD D D HDl.out HDl.out
  rw [beq_self_eq_true] at hqd
  have hqg := eqGuardD D D
  go_upto_region 27 with fail
  refine wp_region_held_drew (S := fun W => DB W x D ∧ W.rangeAt gr (n * 32) (D.map bv) ∧ W.cell? ⟨q, off + 2, none⟩ = some (.slice (some ⟨gr, 0, none⟩) L.length rcap) ∧ W.cell? ⟨N, 4, none⟩ = some (.int .u64 (n : Int))) (by kernel_rfl) ⟨X9.out, hr, g2, s4⟩ (fun hHeld => ?_)
  refine' tQ 0 ⟨some 188, .move (.tmp 16), 24, "law.go:107", #[], none⟩ rfl (by kernel_rfl) (Or.inl ⟨by rfl, _⟩) _; rotate_left; · (intro s h; (try dsimp only at h); go_simp; try with_reducible rfl)
  try simp only [Act.put,nA,nB,nC]
  refine' tQ 1 ⟨some 189, .binOp .eql 24 (.tmp 188) (.const (.int .i64 0)) 24, 4, "law.go:107", #[⟨0, .data⟩], none⟩ rfl (by kernel_rfl) (Or.inl ⟨by rfl, _⟩) _; rotate_left; · (intro s h; (try dsimp only at h); go_simp; try with_reducible rfl)
  try simp only [Act.put,nA,nB,nC]
  refine' tQ 2 ⟨some 190, .move (.tmp 189), 4, "law.go:107", #[⟨1, .data⟩], none⟩ rfl (by kernel_rfl) (Or.inl ⟨by rfl, _⟩) _; rotate_left; · (intro s h; (try dsimp only at h); go_simp; try with_reducible rfl)
  try simp only [Act.put,nA,nB,nC]
  refine' tQ 3 ⟨some 191, .load 23 (.tmp 15), 23, "law.go:107", #[⟨2, .guard⟩], some (2, true)⟩ rfl (by kernel_rfl) (yieldsIf_loadD (by rfl) _ rfl (x) rfl (D) (HDl.out) (fun W hW => hW.1)) _
  try simp only [Act.put,nA,nB,nC]
  refine' tQ 4 ⟨some 192, .move (.tmp 1), 72, "law.go:107", #[⟨2, .guard⟩], some (2, true)⟩ rfl (by kernel_rfl) (Or.inl ⟨by rfl, _⟩) _; rotate_left; · (intro s h; (try dsimp only at h); go_simp; try with_reducible rfl)
  try simp only [Act.put,nA,nB,nC]
  refine' tQ 5 ⟨some 193, .nilCheck (.tmp 192), 0, "law.go:107", #[⟨4, .data⟩, ⟨2, .guard⟩], some (2, true)⟩ rfl (by kernel_rfl) (Or.inl ⟨by rfl, _⟩) _; rotate_left; · (intro s h; (try dsimp only at h); go_simp; try with_reducible rfl)
  try simp only [Act.put,nA,nB,nC]
  refine' tQ 6 ⟨some 194, .fieldAddr 68 (.tmp 193) 2, 0, "law.go:107", #[⟨5, .data⟩, ⟨2, .guard⟩], some (2, true)⟩ rfl (by kernel_rfl) (Or.inl ⟨by rfl, _⟩) _; rotate_left; · (intro s h; (try dsimp only at h); go_simp; try with_reducible rfl)
  try simp only [Act.put,nA,nB,nC]
  refine' tQ 7 ⟨some 195, .load 32 (.tmp 194), 32, "law.go:107", #[⟨6, .data⟩, ⟨2, .guard⟩], some (2, true)⟩ rfl (by kernel_rfl) (Or.inl ⟨by rfl, _⟩) _; rotate_left; · (intro s h; (try dsimp only at h); go_simp; try with_reducible rfl)
  try simp only [Act.put,nA,nB,nC]
  refine' tQ 8 ⟨some 196, .fieldAddr 74 (.tmp 5) 4, 0, "law.go:107", #[⟨2, .guard⟩], some (2, true)⟩ rfl (by kernel_rfl) (Or.inl ⟨by rfl, _⟩) _; rotate_left; · (intro s h; (try dsimp only at h); go_simp; try with_reducible rfl)
  try simp only [Act.put,nA,nB,nC]
  refine' tQ 9 ⟨some 197, .load 29 (.tmp 196), 29, "law.go:107", #[⟨8, .data⟩, ⟨2, .guard⟩], some (2, true)⟩ rfl (by kernel_rfl) (Or.inl ⟨by rfl, _⟩) _; rotate_left; · (intro s h; (try dsimp only at h); go_simp; try with_reducible rfl)
  try simp only [Act.put,nA,nB,nC]
  refine' tQ 10 ⟨some 198, .indexAddr 32 (.tmp 195) (.tmp 197), 0, "law.go:107", #[⟨7, .data⟩, ⟨9, .data⟩, ⟨2, .guard⟩], some (2, true)⟩ rfl (by kernel_rfl) (Or.inl ⟨by rfl, _⟩) _; rotate_left; · (intro s h; (try dsimp only at h); go_simp; try with_reducible rfl)
  try simp only [Act.put,nA,nB,nC]
  refine' tQ 11 ⟨some 199, .load 23 (.tmp 198), 23, "law.go:107", #[⟨10, .data⟩, ⟨2, .guard⟩], some (2, true)⟩ rfl (by kernel_rfl) (yieldsIf_loadRng (by rfl) _ rfl gr (n * 32) rfl D HDl.out (fun W hW => hW.2.1)) _
  try simp only [Act.put,nA,nB,nC]
  refine' tQ 12 ⟨some 200, .binOp .eql 23 (.tmp 191) (.tmp 199) 23, 4, "law.go:107", #[⟨3, .data⟩, ⟨11, .data⟩, ⟨2, .guard⟩], some (2, true)⟩ rfl (by kernel_rfl) (Or.inl ⟨by rfl, _⟩) _; rotate_left; · (intro s h; (try dsimp only at h); go_simp; try with_reducible rfl)
  try simp only [Act.put,nA,nB,nC]
  refine' tQ 13 ⟨some 201, .pick (.tmp 190) (.tmp 200) (.const (.bool false)), 4, "law.go:107", #[⟨2, .data⟩, ⟨12, .data⟩], none⟩ rfl (by kernel_rfl) (Or.inl ⟨by rfl, _⟩) _; rotate_left; · (intro s h; (try dsimp only at h); go_simp; try with_reducible rfl)
  try simp only [Act.put,nA,nB,nC]
  refine' tQ 14 ⟨some 6, .assign (.tmp 201), 4, "law.go:107", #[⟨13, .data⟩, ⟨2, .chain⟩, ⟨0, .phase⟩, ⟨1, .phase⟩, ⟨2, .phase⟩, ⟨3, .phase⟩, ⟨4, .phase⟩, ⟨5, .phase⟩, ⟨6, .phase⟩, ⟨7, .phase⟩, ⟨8, .phase⟩, ⟨9, .phase⟩, ⟨10, .phase⟩, ⟨11, .phase⟩, ⟨12, .phase⟩, ⟨13, .phase⟩], none⟩ rfl (by kernel_rfl) (Or.inl ⟨by rfl, _⟩) _; rotate_left; · (intro s h; (try dsimp only at h); go_simp; try with_reducible rfl)
  try simp only [Act.put,nA,nB,nC]
  refine wpAnyH_done (by kernel_rfl) ?_ _
  clear hHeld hqd hqg hr
  have B10 := Lib.hid B9.out.drew
  go_wp2_with fail
  go_ret
  exact ⟨rfl, B10.out⟩
set_option maxRecDepth 20000 in
set_option maxHeartbeats 8000000 in
theorem step_2_no (w : World) (q off : Nat) (cs : List Value) (B p b : Nat) (lv rv : Value) (wd : Nat) (L : List Dg) (who : Int) (texts digs : Value) (n s : Nat) (h : Hid (PR w q off cs B p b lv rv wd L)) (hw : 1 ≤ wd) (hn : L.length ≤ n) (hn64 : n < 18446744073709551616) :
  Calls Try.prog 37 #[.pointer (some ⟨q, 0, none⟩), .pointer (some ⟨q, off, none⟩), stepV 2 who texts digs n s] w fun e w' => e = .returned (.bool true) ∧ Below w.heap.size w w' := by
 obtain ⟨rad, rcap, hrv, hrf⟩ := h.out.row.shape
 have f0 := h.out.cell off _ h.out.c0
 have f1 := h.out.cell (off + 1) _ h.out.c1
 have f2 := h.out.cell (off + 2) _ h.out.c2
 subst hrv
 have hLl := h.out.log.len
 have HAll : Hid (All32 L) := h.out.log.all
 have zeros32_len : zeros32.length = 32 := rfl
 obtain ⟨N, hN⟩ : ∃ N, w.heap.size = N := ⟨_, rfl⟩
 have HN := Lib.hid hN
 have hqN : q < N := by have := heap_lt h.out.blk; omega
 rw [hN]
 clear hN hrf
 unfold stepV
 go_enter Try.func37, Try.ntmps37
 go_upto_region 0 with fail
 with_reducible refine wp_region_list ?_
 refine wpList_boxB rfl _ _ rfl N HN.out #[.int .i64 2, .int .i64 who, texts, digs, .int .u64 (n : Int), .int .u64 (s : Int)] rfl ?_
 intro w0 e0 b0 z0
 try simp only [Act.put,nA,nB,nC]
 (with_reducible refine wpList_plain rfl ?_); intro K hK; go_simp; (with_reducible refine hK _ _ ?_); clear hK K; try simp only [Act.put,nA,nB,nC]
 have H0 := Lib.hid (h.out.low (by rw [HN.out]; exact b0))
 have B0 := Lib.hid b0
 have E0 : Hid (SBx w0 N 2 who texts digs n s) := e0
 have g0 := H0.out.cell off _ H0.out.c0
 have g2 := H0.out.cell (off + 2) _ H0.out.c2
 have s0 := heap_cell e0 (o := 0)
 have s4 := heap_cell e0 (o := 4)
 have LD : Hid (LogB w0.drew B p b lv wd L) := H0.out.log.drew
 have wL := IntWalk.u64_in (L.length : Int) (by omega)
 clear f0 f1 f2 h b0 e0
 go_upto_region 24 with fail
 clear s0 g2
 refine wp_region_held_drew (S := fun W => W.cell? ⟨q, off, none⟩ = some (.pointer (some ⟨p, 0, none⟩)) ∧ W.cell? ⟨N, 4, none⟩ = some (.int .u64 (n : Int))) (by kernel_rfl) ⟨g0, s4⟩ (fun hHeld => ?_)
 refine' tQ 0 ⟨some 168, .move (.tmp 1), 72, "law.go:103", #[], none⟩ rfl (by kernel_rfl) (Or.inl ⟨by rfl, _⟩) _; rotate_left; · (intro s h; (try dsimp only at h); go_simp; try with_reducible rfl)
 try simp only [Act.put,nA,nB,nC]
 refine' tQ 1 ⟨some 169, .nilCheck (.tmp 168), 0, "law.go:103", #[⟨0, .data⟩], none⟩ rfl (by kernel_rfl) (Or.inl ⟨by rfl, _⟩) _; rotate_left; · (intro s h; (try dsimp only at h); go_simp; try with_reducible rfl)
 try simp only [Act.put,nA,nB,nC]
 refine' tQ 2 ⟨some 170, .fieldAddr 68 (.tmp 169) 0, 0, "law.go:103", #[⟨1, .data⟩], none⟩ rfl (by kernel_rfl) (Or.inl ⟨by rfl, _⟩) _; rotate_left; · (intro s h; (try dsimp only at h); go_simp; try with_reducible rfl)
 try simp only [Act.put,nA,nB,nC]
 refine' tQ 3 ⟨some 171, .load 40 (.tmp 170), 40, "law.go:103", #[⟨2, .data⟩], none⟩ rfl (by kernel_rfl) (Or.inl ⟨by rfl, _⟩) _; rotate_left; · (intro s h; (try dsimp only at h); go_simp; try with_reducible rfl)
 try simp only [Act.put,nA,nB,nC]
 refine' tQ 4 ⟨some 172, .fieldAddr 74 (.tmp 5) 4, 0, "law.go:103", #[], none⟩ rfl (by kernel_rfl) (Or.inl ⟨by rfl, _⟩) _; rotate_left; · (intro s h; (try dsimp only at h); go_simp; try with_reducible rfl)
 try simp only [Act.put,nA,nB,nC]
 refine' tQ 5 ⟨some 173, .load 29 (.tmp 172), 29, "law.go:103", #[⟨4, .data⟩], none⟩ rfl (by kernel_rfl) (Or.inl ⟨by rfl, _⟩) _; rotate_left; · (intro s h; (try dsimp only at h); go_simp; try with_reducible rfl)
 try simp only [Act.put,nA,nB,nC]
 refine wpAnyH_ready (rs := [6, 10]) (by kernel_rfl) (by simp) ?_
 refine (AllReadyH.cons (o := ⟨some 174, .call ⟨.value (.func 28), #[.tmp 171, .tmp 173], #[40, 29]⟩, 25, "law.go:103", #[⟨3, .data⟩, ⟨5, .data⟩], none⟩) rfl (fun K hK => ?_) (AllReadyH.cons (o := ⟨some 15, .alloc 23, 0, "law.go:103", #[], none⟩) rfl (fun K hK => ?_) AllReadyH.nil))
 ·go_simp
  go_at_call 28
  refine (LLeaf_no _ B p b lv wd L n LD hw hn).mono ?_
  rintro e w2 ⟨rfl, b2'⟩
  have b2 : Below w0.heap.size w0 w2 := Below.trans (Below.refl _ _).drew b2'
  have H2 := Lib.hid (H0.out.low b2)
  have E2 : Hid (SBx w2 N 2 who texts digs n s) := heap_below E0.out b2 (by omega)
  have B2 := Lib.hid (B0.out.trans (b2.mono (by omega)))
  have hz2 := b2.size
  clear b2 b2' H0 E0 B0 LD
  refine hK.out _ _ ?_ (fun hHeld => ?_)
  ·exact ⟨H2.out.cell off _ H2.out.c0, by rw [heap_cell E2.out]; rfl⟩
  clear hK K
  try simp only [Act.put,nA,nB,nC]
  refine' tQ 7 ⟨some 167, .move (.tmp 174), 25, "law.go:103", #[⟨6, .data⟩], none⟩ rfl (by kernel_rfl) (Or.inl ⟨by rfl, _⟩) _; rotate_left; · (intro s h; (try dsimp only at h); go_simp; try with_reducible rfl)
  try simp only [Act.put,nA,nB,nC]
  refine' tQ 8 ⟨some 175, .extract (.tmp 167) 0, 23, "law.go:103", #[⟨7, .data⟩], none⟩ rfl (by kernel_rfl) (Or.inl ⟨by rfl, _⟩) _; rotate_left; · (intro s h; (try dsimp only at h); go_simp; try with_reducible rfl)
  try simp only [Act.put,nA,nB,nC]
  refine' tQ 9 ⟨some 176, .extract (.tmp 167) 1, 24, "law.go:103", #[⟨7, .data⟩, ⟨11, .gcOnly .lateStores⟩], none⟩ rfl (by kernel_rfl) (Or.inl ⟨by rfl, _⟩) _; rotate_left; · (intro s h; (try dsimp only at h); go_simp; try with_reducible rfl)
  try simp only [Act.put,nA,nB,nC]
  refine wpAnyH_ready (rs := [10]) (by kernel_rfl) (by simp) ?_
  refine (AllReadyH.cons (o := ⟨some 15, .alloc 23, 0, "law.go:103", #[], none⟩) rfl (fun K hK => ?_) AllReadyH.nil)
  obtain ⟨x, hx⟩ : ∃ x, w2.heap.size = x := ⟨_, rfl⟩
  refine step_of rfl (wp_allocD rfl x hx ?_)
  intro w3 e3 b3 z3
  have hb3 : Below w2.heap.size w2 w3 := by rw [hx]; exact b3
  have H3 := Lib.hid (H2.out.low hb3)
  have E3 : Hid (SBx w3 N 2 who texts digs n s) := heap_below E2.out hb3 (by omega)
  have B3 := Lib.hid (B2.out.trans (hb3.mono (by omega)))
  have HX : Hid (p < x ∧ b < x ∧ (∀ k, lv.ownBlock = some k → k < x) ∧ (∀ k, (Value.slice rad L.length rcap).ownBlock = some k → k < x)) := ⟨by have := H2.out.log.lt; omega, by have := H2.out.log.ltb; omega, fun k hk => by have := (H2.out.log.leaves.lt k hk).2; omega, fun k hk => by have := (H2.out.row.lt k hk).2; omega⟩
  clear b3 hb3 H2 E2 B2
  refine hK.out _ _ ?_ (fun hHeld => ?_)
  ·exact ⟨H3.out.cell off _ H3.out.c0, by rw [heap_cell E3.out]; rfl⟩
  clear hK K
  try simp only [Act.put,nA,nB,nC]
  refine wpAnyH_ready (rs := [11]) (by kernel_rfl) (by simp) ?_
  refine (AllReadyH.cons (o := ⟨none, .store 23 (.tmp 15) (.tmp 175), 0, "law.go:103", #[⟨10, .data⟩, ⟨8, .data⟩, ⟨6, .chain⟩, ⟨0, .phase⟩, ⟨1, .phase⟩, ⟨2, .phase⟩, ⟨3, .phase⟩, ⟨4, .phase⟩, ⟨5, .phase⟩, ⟨6, .phase⟩, ⟨7, .phase⟩, ⟨8, .phase⟩, ⟨9, .textOnly .lateStores⟩, ⟨10, .phase⟩], none⟩) rfl (fun K hK => ?_) AllReadyH.nil)
  refine step_of rfl (wp_storeD _ _ rfl x rfl zeros32 zeros32 rfl zeros32_len rfl e3 ?_)
  intro w9 e9 b9 k9 z9
  have hb9 : Below x w3 w9 := b9
  have hqx : q < x := by omega
  have H9 := Lib.hid (H3.out.kept (Mod.kept (S := fun k => k = x) k9 rfl) (by omega) (by have := HX.out; omega) (by have := HX.out; omega) (fun k hk e => by have := HX.out; have := this.2.2.1 k hk; omega) (fun k hk e => by have := HX.out; have := this.2.2.2 k hk; omega))
  have E9 : Hid (SBx w9 N 2 who texts digs n s) := k9.heap E3.out (by omega)
  have B9 := Lib.hid (B3.out.trans (hb9.mono (by omega)))
  have X9 := Lib.hid e9
  refine hK.out _ _ ?_ (fun hHeld => ?_)
  ·exact ⟨H9.out.cell off _ H9.out.c0, by rw [heap_cell E9.out]; rfl⟩
  clear hK K e3 e9 b9 k9 hb9 H3 E3 B3
  try simp only [Act.put,nA,nB,nC]
  refine' tQ 12 ⟨some 16, .assign (.tmp 176), 24, "law.go:103", #[⟨9, .data⟩, ⟨11, .chain⟩, ⟨0, .phase⟩, ⟨1, .phase⟩, ⟨2, .phase⟩, ⟨3, .phase⟩, ⟨4, .phase⟩, ⟨5, .phase⟩, ⟨6, .phase⟩, ⟨7, .phase⟩, ⟨8, .phase⟩, ⟨9, .phase⟩, ⟨10, .phase⟩, ⟨11, .phase⟩], none⟩ rfl (by kernel_rfl) (Or.inl ⟨by rfl, _⟩) _; rotate_left; · (intro s h; (try dsimp only at h); go_simp; try with_reducible rfl)
  try simp only [Act.put,nA,nB,nC]
  refine wpAnyH_done (by kernel_rfl) ?_ _
  clear hHeld
  have g2 := H9.out.cell (off + 2) _ H9.out.c2
  have s4 := heap_cell E9.out (o := 4)
  have d1 : decide (L.length ≤ n) = true := decide_eq_true (by omega)
  have d2 : decide ((L.length : Int) ≤ (n : Int)) = true := decide_eq_true (by omega)
  have hqd := eqD zeros32 zeros32 rfl rfl
  rw [beq_self_eq_true] at hqd
  have hqg := eqGuardD zeros32 zeros32
  go_upto_region 26 with fail
  with_reducible refine wp_region_list ?_
  iterate 3
   (with_reducible refine wpList_plain rfl ?_); intro K hK; go_simp; (with_reducible refine hK _ _ ?_); clear hK K; try simp only [Act.put,nA,nB,nC]
  set_option maxRecDepth 20000 in
  refine wpList_loadDg rfl _ rfl x rfl zeros32 rfl X9.out ?_
  try simp only [Act.put,nA,nB,nC]
  set_option maxRecDepth 20000 in
  refine wpList_buildDg rfl rfl ?_
  try simp only [Act.put,nA,nB,nC]
  (with_reducible refine wpList_step ?_); intro K hK; rw [if_pos (by rfl)]; go_simp; (with_reducible refine hK _ _ ?_); clear hK K; try simp only [Act.put,nA,nB,nC]
  iterate 2
   (with_reducible refine wpList_plain rfl ?_); intro K hK; go_simp; (with_reducible refine hK _ _ ?_); clear hK K; try simp only [Act.put,nA,nB,nC]
  clear hqd hqg
  go_wp2_with fail
  go_ret
  exact ⟨rfl, B9.out⟩
 ·obtain ⟨x, hx⟩ : ∃ x, w0.heap.size = x := ⟨_, rfl⟩
  refine step_of rfl (wp_allocD rfl x hx ?_)
  intro w2 e2 b2 z2
  have hb2 : Below w0.heap.size w0 w2 := Below.trans (Below.refl _ _).drew (by rw [hx]; exact b2)
  have H2 := Lib.hid (H0.out.low hb2)
  have E2 : Hid (SBx w2 N 2 who texts digs n s) := heap_below E0.out hb2 (by omega)
  have B2 := Lib.hid (B0.out.trans (hb2.mono (by omega)))
  have HX : Hid (p < x ∧ b < x ∧ (∀ k, lv.ownBlock = some k → k < x) ∧ (∀ k, (Value.slice rad L.length rcap).ownBlock = some k → k < x)) := ⟨by have := H0.out.log.lt; omega, by have := H0.out.log.ltb; omega, fun k hk => by have := (H0.out.log.leaves.lt k hk).2; omega, fun k hk => by have := (H0.out.row.lt k hk).2; omega⟩
  clear b2 hb2 H0 E0 B0 LD
  refine hK.out _ _ ?_ (fun hHeld => ?_)
  ·exact ⟨H2.out.cell off _ H2.out.c0, by rw [heap_cell E2.out]; rfl⟩
  clear hK K
  try simp only [Act.put,nA,nB,nC]
  refine wpAnyH_ready (rs := [6]) (by kernel_rfl) (by simp) ?_
  refine AllReadyH.cons (o := ⟨some 174, .call ⟨.value (.func 28), #[.tmp 171, .tmp 173], #[40, 29]⟩, 25, "law.go:103", #[⟨3, .data⟩, ⟨5, .data⟩], none⟩) rfl (fun K hK => ?_) AllReadyH.nil
  (go_simp; (go_at_call 28; refine (LLeaf_no _ B p b lv wd L n (Lib.hid H2.out.log) hw hn).mono ?_; rintro e w3 ⟨rfl, b3⟩; have H3 := Lib.hid (H2.out.low b3); have E3 : Hid (SBx w3 N 2 who texts digs n s) := heap_below E2.out b3 (by omega)))
  refine hK.out _ _ ?_ (fun hHeld => ?_)
  ·exact ⟨H3.out.cell off _ H3.out.c0, by rw [heap_cell E3.out]; rfl⟩
  clear hK K
  try simp only [Act.put,nA,nB,nC]
  have B3 := Lib.hid (B2.out.trans (b3.mono (by omega)))
  have e3 := heap_below e2 b3 (by omega)
  have hz3 := b3.size
  clear b3 e2 H2 E2 B2
  refine' tQ 7 ⟨some 167, .move (.tmp 174), 25, "law.go:103", #[⟨6, .data⟩], none⟩ rfl (by kernel_rfl) (Or.inl ⟨by rfl, _⟩) _; rotate_left; · (intro s h; (try dsimp only at h); go_simp; try with_reducible rfl)
  try simp only [Act.put,nA,nB,nC]
  refine' tQ 8 ⟨some 175, .extract (.tmp 167) 0, 23, "law.go:103", #[⟨7, .data⟩], none⟩ rfl (by kernel_rfl) (Or.inl ⟨by rfl, _⟩) _; rotate_left; · (intro s h; (try dsimp only at h); go_simp; try with_reducible rfl)
  try simp only [Act.put,nA,nB,nC]
  refine' tQ 9 ⟨some 176, .extract (.tmp 167) 1, 24, "law.go:103", #[⟨7, .data⟩, ⟨11, .gcOnly .lateStores⟩], none⟩ rfl (by kernel_rfl) (Or.inl ⟨by rfl, _⟩) _; rotate_left; · (intro s h; (try dsimp only at h); go_simp; try with_reducible rfl)
  try simp only [Act.put,nA,nB,nC]
  refine wpAnyH_ready (rs := [11]) (by kernel_rfl) (by simp) ?_
  refine (AllReadyH.cons (o := ⟨none, .store 23 (.tmp 15) (.tmp 175), 0, "law.go:103", #[⟨10, .data⟩, ⟨8, .data⟩, ⟨6, .chain⟩, ⟨0, .phase⟩, ⟨1, .phase⟩, ⟨2, .phase⟩, ⟨3, .phase⟩, ⟨4, .phase⟩, ⟨5, .phase⟩, ⟨6, .phase⟩, ⟨7, .phase⟩, ⟨8, .phase⟩, ⟨9, .textOnly .lateStores⟩, ⟨10, .phase⟩], none⟩) rfl (fun K hK => ?_) AllReadyH.nil)
  refine step_of rfl (wp_storeD _ _ rfl x rfl zeros32 zeros32 rfl zeros32_len rfl e3 ?_)
  intro w9 e9 b9 k9 z9
  have hb9 : Below x w3 w9 := b9
  have hqx : q < x := by omega
  have H9 := Lib.hid (H3.out.kept (Mod.kept (S := fun k => k = x) k9 rfl) (by omega) (by have := HX.out; omega) (by have := HX.out; omega) (fun k hk e => by have := HX.out; have := this.2.2.1 k hk; omega) (fun k hk e => by have := HX.out; have := this.2.2.2 k hk; omega))
  have E9 : Hid (SBx w9 N 2 who texts digs n s) := k9.heap E3.out (by omega)
  have B9 := Lib.hid (B3.out.trans (hb9.mono (by omega)))
  have X9 := Lib.hid e9
  refine hK.out _ _ ?_ (fun hHeld => ?_)
  ·exact ⟨H9.out.cell off _ H9.out.c0, by rw [heap_cell E9.out]; rfl⟩
  clear hK K e3 e9 b9 k9 hb9 H3 E3 B3
  try simp only [Act.put,nA,nB,nC]
  refine' tQ 12 ⟨some 16, .assign (.tmp 176), 24, "law.go:103", #[⟨9, .data⟩, ⟨11, .chain⟩, ⟨0, .phase⟩, ⟨1, .phase⟩, ⟨2, .phase⟩, ⟨3, .phase⟩, ⟨4, .phase⟩, ⟨5, .phase⟩, ⟨6, .phase⟩, ⟨7, .phase⟩, ⟨8, .phase⟩, ⟨9, .phase⟩, ⟨10, .phase⟩, ⟨11, .phase⟩], none⟩ rfl (by kernel_rfl) (Or.inl ⟨by rfl, _⟩) _; rotate_left; · (intro s h; (try dsimp only at h); go_simp; try with_reducible rfl)
  try simp only [Act.put,nA,nB,nC]
  refine wpAnyH_done (by kernel_rfl) ?_ _
  clear hHeld
  have g2 := H9.out.cell (off + 2) _ H9.out.c2
  have s4 := heap_cell E9.out (o := 4)
  have d1 : decide (L.length ≤ n) = true := decide_eq_true (by omega)
  have d2 : decide ((L.length : Int) ≤ (n : Int)) = true := decide_eq_true (by omega)
  have hqd := eqD zeros32 zeros32 rfl rfl
  rw [beq_self_eq_true] at hqd
  have hqg := eqGuardD zeros32 zeros32
  go_upto_region 26 with fail
  with_reducible refine wp_region_list ?_
  iterate 3
   (with_reducible refine wpList_plain rfl ?_); intro K hK; go_simp; (with_reducible refine hK _ _ ?_); clear hK K; try simp only [Act.put,nA,nB,nC]
  set_option maxRecDepth 20000 in
  refine wpList_loadDg rfl _ rfl x rfl zeros32 rfl X9.out ?_
  try simp only [Act.put,nA,nB,nC]
  set_option maxRecDepth 20000 in
  refine wpList_buildDg rfl rfl ?_
  try simp only [Act.put,nA,nB,nC]
  (with_reducible refine wpList_step ?_); intro K hK; rw [if_pos (by rfl)]; go_simp; (with_reducible refine hK _ _ ?_); clear hK K; try simp only [Act.put,nA,nB,nC]
  iterate 2
   (with_reducible refine wpList_plain rfl ?_); intro K hK; go_simp; (with_reducible refine hK _ _ ?_); clear hK K; try simp only [Act.put,nA,nB,nC]
  clear hqd hqg
  go_wp2_with fail
  go_ret
  exact ⟨rfl, B9.out⟩
end Go.Proofs.Ytihbhpggpnmifaa
