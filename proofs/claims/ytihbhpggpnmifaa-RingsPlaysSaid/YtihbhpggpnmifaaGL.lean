/-
 The walks of climb and Holds.
-/
import Derived.Test.YtihbhpggpnmifaaGK
import Derived.Laws.EntriesVeiled
set_option linter.unusedSimpArgs false
set_option linter.unusedVariables false
namespace Go.Proofs.Ytihbhpggpnmifaa
open Go.RowKit Go.Lib Hw
theorem zero_sD (w : World) : (zeroValue 32).run Try.prog w = .ok (.slice none 0 0) w := by kernel_rfl
theorem zero_sP (w : World) : (zeroValue 84).run Try.prog w = .ok (.slice none 0 0) w := by kernel_rfl
theorem zero_bool (w : World) : (zeroValue 4).run Try.prog w = .ok (.bool false) w := by kernel_rfl
theorem zero_fC (w : World) : (zeroValue 102).run Try.prog w = .ok .nilFunc w := by kernel_rfl
theorem results_TDT {fn : Func} {tmps : Array Value} {a b c : Nat} {b2 : Nat} {l : List UInt8} {u e : Value} {w : World} (hr : fn.results = #[.tmp a, .cell b 23, .tmp c]) (ha : tmps.getD a undef = u) (hb : tmps.getD b undef = .pointer (some ⟨b2, 0, none⟩)) (hc : tmps.getD c undef = e) (hl : l.length = 32) (hd : DB w b2 l) :
  (results fn tmps).run Try.prog w = .ok (.tuple #[u, dv l, e]) w := by
 have h1 := hd.load hl
 unfold results
 rw [hr]
 have ha' : tmps[a]?.getD undef = u := by rw [← ha]; simp
 have hb' : tmps[b]?.getD undef = .pointer (some ⟨b2, 0, none⟩) := by rw [← hb]; simp
 have hc' : tmps[c]?.getD undef = e := by rw [← hc]; simp
 simp [ha', hb', hc', h1, asAddr, dv]
def ClimbRes (w : World) (r : Dg × List Dg × List Dg × Bool) (e : Ending) (w' : World) : Prop :=
 ∃ sv, e = .returned (.tuple #[sv, dv r.1, .bool (r.2.2.2 && r.2.2.1.isEmpty)]) ∧ OwnS w' w.heap.size sv r.2.1 ∧ All64 r.2.1 ∧ Below w.heap.size w w'
set_option maxHeartbeats 8000000 in
theorem climb_any (wd i n : Nat) (leaf : Dg) (v : Value) (t : List Dg) (w : World) (hl : Hid (leaf.length = 32)) (hd : Hid (DRow w w.heap.size v t)) (h1 : 1 ≤ n) (hi : i < n) (hn : n ≤ 1048576) (hwd : wd ≤ 32) :
  Calls Try.prog 46 #[.int .i64 (wd : Int), .int .i64 (i : Int), .int .i64 (n : Int), dv leaf, v] w (ClimbRes w (climbP wd leaf i n t true)) := by
 obtain ⟨⟨D, P, t2, ok2⟩, hr⟩ : ∃ r, climbP wd leaf i n t true = r := ⟨_, rfl⟩
 have hlen := climbP_len wd leaf hl.out n i t true hd.out.1
 rw [hr] at hlen
 have HD : Hid (List.length D = 32) := hlen.1
 rw [hr]
 have HR := Lib.hid hr
 clear hr hlen
 obtain ⟨ad, c, rfl, hshape⟩ : ∃ ad c, v = .slice ad t.length c ∧ True := by
  obtain ⟨_, ad, c, e, _⟩ := hd.out
  exact ⟨ad, c, e, trivial⟩
 clear hshape
 obtain ⟨N, hN⟩ : ∃ N, w.heap.size = N := ⟨_, rfl⟩
 have HRes : Hid (∀ e w', (∃ sv, e = .returned (.tuple #[sv, dv D, .bool (ok2 && t2.isEmpty)]) ∧ OwnS w' N sv P ∧ All64 P ∧ Below N w w') → ClimbRes w (D, P, t2, ok2) e w') := by
  rw [← hN]; exact fun e w' h => h
 rw [hN] at hd
 have HN := Lib.hid hN
 clear hN
 have hmf : ∀ (fn : Fn) (first cap : Array Value) (w : World), (Instr.makeFunc fn first cap).run Try.prog w = .ok (.func fn first cap) w := fun _ _ _ _ => rfl
 go_enter Try.func46, Try.ntmps46
 go_upto_region 0 with fail
 refine wp_region_list ?_
 refine wpList_boxB rfl _ _ rfl N HN.out #[.int .i64 (wd : Int)] rfl ?_
 intro w0 e0 b0 z0
 try simp only [Act.put,nA,nB,nC]
 refine wpList_boxD rfl _ rfl leaf rfl (N + 1) z0 ?_
 intro w1 e1 b1 z1
 try simp only [Act.put,nA,nB,nC]
 refine wpList_boxB rfl _ _ rfl (N + 2) z1 #[.slice ad t.length c] rfl ?_
 intro w2 e2 b2 z2
 try simp only [Act.put,nA,nB,nC]
 (refine wpList_plain rfl (fun K hK => ?_)); go_simp; refine hK _ _ ?_; clear hK K; try simp only [Act.put,nA,nB,nC]
 refine wpList_allocD rfl rfl (N + 3) z2 ?_
 intro w3 e3 b3 z3
 try simp only [Act.put,nA,nB,nC]
 (refine wpList_plain rfl (fun K hK => ?_)); go_simp; refine hK _ _ ?_; clear hK K; try simp only [Act.put,nA,nB,nC]
 have E0 := Lib.hid (heap_below (heap_below (heap_below e0 b1 (by omega)) b2 (by omega)) b3 (by omega))
 have E1 := Lib.hid (heap_below (heap_below e1 b2 (by omega)) b3 (by omega))
 have E2 := Lib.hid (heap_below e2 b3 (by omega))
 have E3 := Lib.hid e3
 have B3 := Lib.hid (((b0.trans (b1.mono (by omega))).trans (b2.mono (by omega))).trans (b3.mono (by omega)))
 clear e0 b0 z0 e1 b1 z1 e2 b2 z2 e3 b3
 go_upto_region 1 with fail
 refine wp_region_list ?_
 refine wpList_allocB rfl 84 rfl (N + 4) z3 _ zero_sP ?_
 intro w4 e4 b4 z4
 try simp only [Act.put,nA,nB,nC]
 have F4 := Lib.hid e4
 have B4 := Lib.hid b4
 clear e4 b4
 go_upto_region 2 with fail
 refine wp_region_list ?_
 refine wpList_allocB rfl 4 rfl (N + 5) z4 _ zero_bool ?_
 intro w5 e5 b5 z5
 try simp only [Act.put,nA,nB,nC]
 have c5 := heap_one e5
 have f5 := heap_free e5 0
 (refine wpList_plain rfl (fun K hK => ?_)); go_simp; refine hK _ _ ?_; clear hK K; try simp only [Act.put,nA,nB,nC]
 have F5 := Lib.hid e5
 have B5 := Lib.hid b5
 clear e5 b5 c5 f5
 go_upto_region 3 with fail
 obtain ⟨w6, hw6⟩ : ∃ W, w5.setCell ⟨N + 5, 0, none⟩ (.bool true) = W := ⟨_, rfl⟩
 have G0 : Hid (w6.heap[N + 5]? = some (.cells #[.bool true] 4 (0, 0))) := by rw [← hw6]; exact heap_put F5.out _
 have B6 : Below (N + 5) w5 w6 := by rw [← hw6]; exact (Below.refl (N + 5) w5).setCell (p := ⟨N + 5, 0, none⟩) (Nat.le_refl _) _
 have z6 : w6.heap.size = N + 6 := by rw [← hw6]; simpa using z5
 rw [hw6]
 have b46 := (B5.out.trans B6)
 have G4 := Lib.hid (heap_below F4.out b46 (by omega))
 have b36 := B4.out.trans (b46.mono (by omega))
 have E0' := Lib.hid (heap_below E0.out b36 (by omega))
 have E1' := Lib.hid (heap_below E1.out b36 (by omega))
 have E2' := Lib.hid (heap_below E2.out b36 (by omega))
 have E3' := Lib.hid (heap_below E3.out b36 (by omega))
 have B0 := Lib.hid (B3.out.trans (b36.mono (by omega)))
 clear b36 b46 F4 F5 B4 B5 B6 E0 E1 E2 E3 B3 hw6 z5 z4 z3
 refine wp_region_list ?_
 refine wpList_allocB rfl 102 rfl (N + 6) z6 _ zero_fC ?_
 intro w7 e7 b7 z7
 try simp only [Act.put,nA,nB,nC]
 have c7 := heap_one e7
 have f7 := heap_free e7 0
 go_upto_region 5 with fail
 obtain ⟨w8, hw8⟩ : ∃ W, w7.setCell ⟨N + 6, 0, none⟩ (upC N) = W := ⟨_, rfl⟩
 have hw8' := hw8
 unfold upC at hw8'
 have e8 : w8.heap[N + 6]? = some (.cells #[upC N] 102 (0, 0)) := by rw [← hw8]; exact heap_put e7 _
 have b8 : Below (N + 6) w7 w8 := by rw [← hw8]; exact (Below.refl (N + 6) w7).setCell (p := ⟨N + 6, 0, none⟩) (Nat.le_refl _) _
 have z8 : w8.heap.size = N + 7 := by rw [← hw8]; simpa using z7
 rw [hw8']
 have b68 := b7.trans b8
 have hb8 := B0.out.trans (b68.mono (by omega))
 have T8 : Hid (CB w8 N N leaf wd (.slice ad t.length c) (.slice none 0 0) t true []) :=
  ⟨heap_below E0'.out b68 (by omega), heap_below E1'.out b68 (by omega), heap_below E2'.out b68 (by omega), heap_below G4.out b68 (by omega), heap_below G0.out b68 (by omega), e8, hd.out.low hb8 (by rw [HN.out]; exact Nat.le_refl _), OwnS.nil _ _, All64.nil, Nat.le_refl _⟩
 have E3 := Lib.hid (heap_below E3'.out b68 (by omega))
 have B8 := Lib.hid hb8
 clear e7 b7 z7 c7 f7 e8 b8 b68 hb8 hw8 hw8' G0 G4 E0' E1' E2' E3' B0 z6
 have cu := T8.out.cu
 have ih := climbC_any N N leaf wd hl.out hwd n i w8 _ _ _ _ _ T8.out h1 hi hn (by simp; omega)
 rw [HR.out] at ih
 have IH := Lib.hid ih
 clear ih
 refine wp_region_list ?_
 iterate 3
  (refine wpList_plain rfl (fun K hK => ?_)); go_simp; refine hK _ _ ?_; clear hK K; try simp only [Act.put,nA,nB,nC]
 refine wpList_plain rfl (fun K hK => ?_)
 go_simp
 refine IH.out.mono ?_
 rintro e w9 ⟨rfl, tv', sv', T9, M9, hs9⟩
 dsimp only at T9 ⊢
 refine hK _ _ ?_
 clear hK K
 try simp only [Act.put,nA,nB,nC]
 have B9 : Below N w w9 := by
  refine B8.out.trans (M9.below (n := N) (fun k hk h => ?_) (by omega))
  rcases h with h | h | h | h
  ·omega
  ·omega
  ·omega
  ·cases h
 have E9 := M9.heap E3.out (fun h => by
  rcases h with h | h | h | h
  ·omega
  ·omega
  ·omega
  ·cases h)
 have hos : ∀ g, sv'.ownBlock = some g → w8.heap.size ≤ g := fun g hg => (hs9 g hg).elim (fun h => by cases h) (fun h => h)
 have hz9 := M9.size
 rw [List.nil_append] at T9
 obtain ⟨x, hx⟩ : ∃ x, w9.heap.size = x := ⟨_, rfl⟩
 rw [hx] at hz9
 refine wpList_allocD rfl rfl x hx ?_
 intro wa ea ba za
 try simp only [Act.put,nA,nB,nC]
 have Ta := Lib.hid (T9.below (by rw [hx]; exact ba))
 have B_a := Lib.hid (B9.trans (ba.mono (by omega)))
 have Ea := Lib.hid (heap_below E9 ba (by omega))
 refine wpList_storeD rfl _ _ rfl x rfl zeros32 D rfl HD.out rfl ea ?_
 intro wb eb bb kb zb
 try simp only [Act.put,nA,nB,nC]
 have hown := T9.own.lt
 have Tb := Lib.hid (Ta.out.kept kb (by omega) (fun e => by have := (hown _ e).2; omega))
 have Bb := Lib.hid (B_a.out.trans (bb.mono (by omega)))
 have Eb := Lib.hid (heap_below Ea.out bb (by omega))
 have Xb := Lib.hid eb
 have Hos := Lib.hid hos
 clear B9 E9 hos T9 M9 hs9 ba za B_a Ea Ta eb bb kb zb hown ea IH cu
 obtain ⟨adt, ct, rfl, _⟩ : ∃ ad c, tv' = .slice ad t2.length c ∧ True := by
  obtain ⟨_, ad, c, e, _⟩ := Tb.out.row
  exact ⟨ad, c, e, trivial⟩
 have g4 := Tb.out.cs
 have g5 := heap_one Tb.out.bo
 have g2 := heap_one Tb.out.bt
 go_upto_region 6 with fail
 refine wp_region_held_drew (S := fun W => W.cell? ⟨N + 4, 0, none⟩ = some sv' ∧ W.cell? ⟨N + 5, 0, none⟩ = some (.bool ok2) ∧ W.cell? ⟨N + 2, 0, none⟩ = some (.slice adt t2.length ct) ∧ DB W x D) (by kernel_rfl) ⟨g4, g5, g2, Xb.out⟩ (fun hHeld => ?_)
 refine' tQ 0 ⟨some 22, .load 84 (.tmp 13), 84, "rings.go:235", #[], none⟩ rfl (by kernel_rfl) (Or.inl ⟨by rfl, _⟩) _; rotate_left; · (intro s h; (try dsimp only at h); go_simp; try with_reducible rfl)
 try simp only [Act.put,nA,nB,nC]
 refine' tQ 1 ⟨some 23, .load 23 (.tmp 16), 23, "rings.go:235", #[⟨8, .gcOnly .lateStores⟩], none⟩ rfl (by kernel_rfl) (yieldsIf_loadD (by rfl) _ rfl (x) rfl (D) (HD.out) (fun W hW => hW.2.2.2)) _
 try simp only [Act.put,nA,nB,nC]
 refine' tQ 2 ⟨some 24, .load 4 (.tmp 14), 4, "rings.go:235", #[], none⟩ rfl (by kernel_rfl) (Or.inl ⟨by rfl, _⟩) _; rotate_left; · (intro s h; (try dsimp only at h); go_simp; try with_reducible rfl)
 try simp only [Act.put,nA,nB,nC]
 refine' tQ 3 ⟨some 25, .move (.tmp 24), 4, "rings.go:235", #[⟨2, .data⟩], none⟩ rfl (by kernel_rfl) (Or.inl ⟨by rfl, _⟩) _; rotate_left; · (intro s h; (try dsimp only at h); go_simp; try with_reducible rfl)
 try simp only [Act.put,nA,nB,nC]
 cases ok2
 case true =>
  refine' tQ 4 ⟨some 26, .load 32 (.tmp 9), 32, "rings.go:235", #[⟨3, .guard⟩], some (3, true)⟩ rfl (by kernel_rfl) (Or.inl ⟨by rfl, _⟩) _; rotate_left; · (intro s h; (try dsimp only at h); go_simp; try with_reducible rfl)
  try simp only [Act.put,nA,nB,nC]
  refine' tQ 5 ⟨some 27, .call ⟨.builtin .len, #[.tmp 26], #[32]⟩, 3, "rings.go:235", #[⟨4, .data⟩, ⟨3, .guard⟩], some (3, true)⟩ rfl (by kernel_rfl) (Or.inl ⟨by rfl, _⟩) _; rotate_left; · (intro s h; (try dsimp only at h); go_simp; try with_reducible rfl)
  try simp only [Act.put,nA,nB,nC]
  refine' tQ 6 ⟨some 28, .binOp .eql 3 (.tmp 27) (.const (.int .i64 0)) 3, 4, "rings.go:235", #[⟨5, .data⟩, ⟨3, .guard⟩, ⟨9, .gcOnly .lateStores⟩], some (3, true)⟩ rfl (by kernel_rfl) (Or.inl ⟨by rfl, _⟩) _; rotate_left; · (intro s h; (try dsimp only at h); go_simp; try with_reducible rfl)
  try simp only [Act.put,nA,nB,nC]
  refine' tQ 7 ⟨some 29, .pick (.tmp 25) (.tmp 28) (.const (.bool false)), 4, "rings.go:235", #[⟨3, .data⟩, ⟨6, .data⟩, ⟨9, .gcOnly .lateStores⟩], none⟩ rfl (by kernel_rfl) (Or.inl ⟨by rfl, _⟩) _; rotate_left; · (intro s h; (try dsimp only at h); go_simp; try with_reducible rfl)
  try simp only [Act.put,nA,nB,nC]
  refine' tQ 8 ⟨some 10, .assign (.tmp 22), 84, "rings.go:235", #[⟨0, .data⟩, ⟨3, .chain⟩, ⟨0, .phase⟩, ⟨1, .textOnly .lateStores⟩, ⟨2, .textOnly .lateStores⟩, ⟨3, .textOnly .lateStores⟩, ⟨4, .textOnly .lateStores⟩, ⟨5, .textOnly .lateStoresUnsure⟩, ⟨6, .textOnly .lateStores⟩, ⟨7, .textOnly .lateStores⟩], none⟩ rfl (by kernel_rfl) (Or.inl ⟨by rfl, _⟩) _; rotate_left; · (intro s h; (try dsimp only at h); go_simp; try with_reducible rfl)
  try simp only [Act.put,nA,nB,nC]
  refine wpAnyH_ready (rs := [9]) (by kernel_rfl) (by simp) ?_
  refine AllReadyH.cons (o := ⟨none, .store 23 (.tmp 11) (.tmp 23), 0, "rings.go:235", #[⟨1, .data⟩, ⟨8, .chain⟩, ⟨0, .phase⟩, ⟨1, .phase⟩, ⟨2, .textOnly .lateStores⟩, ⟨3, .textOnly .lateStores⟩, ⟨4, .textOnly .lateStores⟩, ⟨5, .textOnly .lateStoresUnsure⟩, ⟨6, .textOnly .lateStores⟩, ⟨7, .textOnly .lateStores⟩, ⟨8, .phase⟩], none⟩) rfl (fun K hK => ?_) AllReadyH.nil
  (set_option maxRecDepth 20000 in refine step_of rfl (wp_storeD _ _ rfl (N + 3) rfl zeros32 D rfl HD.out rfl Eb.out ?_); intro wc ec bc kc zc)
  refine hK.out _ _ ?_ (fun hHeld => ?_)
  ·(exact ⟨by rw [heap_cell (kc.heap Tb.out.bs (by omega))]; rfl, by rw [heap_cell (kc.heap Tb.out.bo (by omega))]; rfl, by rw [heap_cell (kc.heap Tb.out.bt (by omega))]; rfl, kc.heap Xb.out (by omega)⟩)
  clear hK K
  try simp only [Act.put,nA,nB,nC]
  refine' tQ 10 ⟨some 12, .assign (.tmp 29), 4, "rings.go:235", #[⟨7, .data⟩, ⟨9, .chain⟩, ⟨0, .phase⟩, ⟨1, .phase⟩, ⟨2, .phase⟩, ⟨3, .phase⟩, ⟨4, .phase⟩, ⟨5, .phase⟩, ⟨6, .phase⟩, ⟨7, .phase⟩, ⟨8, .phase⟩, ⟨9, .phase⟩], none⟩ rfl (by kernel_rfl) (Or.inl ⟨by rfl, _⟩) _; rotate_left; · (intro s h; (try dsimp only at h); go_simp; try with_reducible rfl)
  try simp only [Act.put,nA,nB,nC]
  refine wpAnyH_done (by kernel_rfl) ?_ _
  have hOw : OwnS wc N sv' P := ⟨Tb.out.own.1, by
   rcases (Tb.out.own.heap (w' := wc) (fun g hg => kc.block g (Tb.out.own.lt g hg).2 (by have := Hos.out g hg; omega))).2 with h | ⟨g, cap, cur, h1, h2, h3⟩
   ·exact .inl h
   ·exact .inr ⟨g, cap, cur, h1, by omega, h3⟩⟩
  have hBc : Below N w wc := Below.trans (Below.trans Bb.out (Below.refl N wb).drew) (bc.mono (by omega))
  have Hfin := HRes.out _ wc ⟨sv', rfl, hOw, Tb.out.all, hBc⟩
  have Hf := Lib.hid Hfin
  have Ec := Lib.hid ec
  clear hHeld g2 g4 g5 ec bc kc zc hOw hBc Hfin
  go_wp2_with fail
  refine bodyPost_ret (v := .tuple #[sv', dv D, .bool (true && t2.isEmpty)]) ?_ rfl Hf.out
  exact results_TDT Try.results46 rfl rfl (by cases t2 <;> rfl) HD.out Ec.out
 case false =>
  refine' tQ 4 ⟨some 26, .load 32 (.tmp 9), 32, "rings.go:235", #[⟨3, .guard⟩], some (3, true)⟩ rfl (by kernel_rfl) (Or.inr ⟨by rfl, rfl⟩) _
  try simp only [Act.put,nA,nB,nC]
  refine' tQ 5 ⟨some 27, .call ⟨.builtin .len, #[.tmp 26], #[32]⟩, 3, "rings.go:235", #[⟨4, .data⟩, ⟨3, .guard⟩], some (3, true)⟩ rfl (by kernel_rfl) (Or.inr ⟨by rfl, rfl⟩) _
  try simp only [Act.put,nA,nB,nC]
  refine' tQ 6 ⟨some 28, .binOp .eql 3 (.tmp 27) (.const (.int .i64 0)) 3, 4, "rings.go:235", #[⟨5, .data⟩, ⟨3, .guard⟩, ⟨9, .gcOnly .lateStores⟩], some (3, true)⟩ rfl (by kernel_rfl) (Or.inr ⟨by rfl, rfl⟩) _
  try simp only [Act.put,nA,nB,nC]
  refine' tQ 7 ⟨some 29, .pick (.tmp 25) (.tmp 28) (.const (.bool false)), 4, "rings.go:235", #[⟨3, .data⟩, ⟨6, .data⟩, ⟨9, .gcOnly .lateStores⟩], none⟩ rfl (by kernel_rfl) (Or.inl ⟨by rfl, _⟩) _; rotate_left; · (intro s h; (try dsimp only at h); go_simp; try with_reducible rfl)
  try simp only [Act.put,nA,nB,nC]
  refine' tQ 8 ⟨some 10, .assign (.tmp 22), 84, "rings.go:235", #[⟨0, .data⟩, ⟨3, .chain⟩, ⟨0, .phase⟩, ⟨1, .textOnly .lateStores⟩, ⟨2, .textOnly .lateStores⟩, ⟨3, .textOnly .lateStores⟩, ⟨4, .textOnly .lateStores⟩, ⟨5, .textOnly .lateStoresUnsure⟩, ⟨6, .textOnly .lateStores⟩, ⟨7, .textOnly .lateStores⟩], none⟩ rfl (by kernel_rfl) (Or.inl ⟨by rfl, _⟩) _; rotate_left; · (intro s h; (try dsimp only at h); go_simp; try with_reducible rfl)
  try simp only [Act.put,nA,nB,nC]
  refine wpAnyH_ready (rs := [9]) (by kernel_rfl) (by simp) ?_
  refine AllReadyH.cons (o := ⟨none, .store 23 (.tmp 11) (.tmp 23), 0, "rings.go:235", #[⟨1, .data⟩, ⟨8, .chain⟩, ⟨0, .phase⟩, ⟨1, .phase⟩, ⟨2, .textOnly .lateStores⟩, ⟨3, .textOnly .lateStores⟩, ⟨4, .textOnly .lateStores⟩, ⟨5, .textOnly .lateStoresUnsure⟩, ⟨6, .textOnly .lateStores⟩, ⟨7, .textOnly .lateStores⟩, ⟨8, .phase⟩], none⟩) rfl (fun K hK => ?_) AllReadyH.nil
  (set_option maxRecDepth 20000 in refine step_of rfl (wp_storeD _ _ rfl (N + 3) rfl zeros32 D rfl HD.out rfl Eb.out ?_); intro wc ec bc kc zc)
  refine hK.out _ _ ?_ (fun hHeld => ?_)
  ·(exact ⟨by rw [heap_cell (kc.heap Tb.out.bs (by omega))]; rfl, by rw [heap_cell (kc.heap Tb.out.bo (by omega))]; rfl, by rw [heap_cell (kc.heap Tb.out.bt (by omega))]; rfl, kc.heap Xb.out (by omega)⟩)
  clear hK K
  try simp only [Act.put,nA,nB,nC]
  refine' tQ 10 ⟨some 12, .assign (.tmp 29), 4, "rings.go:235", #[⟨7, .data⟩, ⟨9, .chain⟩, ⟨0, .phase⟩, ⟨1, .phase⟩, ⟨2, .phase⟩, ⟨3, .phase⟩, ⟨4, .phase⟩, ⟨5, .phase⟩, ⟨6, .phase⟩, ⟨7, .phase⟩, ⟨8, .phase⟩, ⟨9, .phase⟩], none⟩ rfl (by kernel_rfl) (Or.inl ⟨by rfl, _⟩) _; rotate_left; · (intro s h; (try dsimp only at h); go_simp; try with_reducible rfl)
  try simp only [Act.put,nA,nB,nC]
  refine wpAnyH_done (by kernel_rfl) ?_ _
  have hOw : OwnS wc N sv' P := ⟨Tb.out.own.1, by
   rcases (Tb.out.own.heap (w' := wc) (fun g hg => kc.block g (Tb.out.own.lt g hg).2 (by have := Hos.out g hg; omega))).2 with h | ⟨g, cap, cur, h1, h2, h3⟩
   ·exact .inl h
   ·exact .inr ⟨g, cap, cur, h1, by omega, h3⟩⟩
  have hBc : Below N w wc := Below.trans (Below.trans Bb.out (Below.refl N wb).drew) (bc.mono (by omega))
  have Hfin := HRes.out _ wc ⟨sv', rfl, hOw, Tb.out.all, hBc⟩
  have Hf := Lib.hid Hfin
  have Ec := Lib.hid ec
  clear hHeld g2 g4 g5 ec bc kc zc hOw hBc Hfin
  go_wp2_with fail
  refine bodyPost_ret (v := .tuple #[sv', dv D, .bool (false && t2.isEmpty)]) ?_ rfl Hf.out
  exact results_TDT Try.results46 rfl rfl rfl HD.out Ec.out
end Go.Proofs.Ytihbhpggpnmifaa
namespace Go.Proofs.Ytihbhpggpnmifaa
open Go.RowKit Go.Lib Hw
section
variable {ops : Array Oper} {rest : List Oper} {o : Oper} {a : Act} {w : World} {Q : Exit → Act → World → Prop}
theorem wpList_loadAtG (hg : Region.wanted o (yielded ops a.tmps) = true) (x : Operand) (ho : o.op = .load 23 x) (b off : Nat) (hx : a.eval x = .pointer (some ⟨b, off, none⟩)) (m : Dg) (hm : m.length = 32) (cs : List Value) (t : TypeId) (hb : w.heap[b]? = some (.cells cs.toArray t (0, 0))) (hs : (cs.drop off).take 32 = m.map bv)
  (h : wpList Try.prog ops Q rest (a.put o.dst (dv m)) w) : wpList Try.prog ops Q (o :: rest) a w := by
 have hml : (m.map bv).length = 32 := by rw [List.length_map, hm]
 exact wpList_step fun K hK => by
  rw [if_pos hg]
  exact wp_load_mid 23 x ho b off hx (m.map bv) _ (block_range hb off (m.map bv) (by rw [hml]; exact hs)) Try.underlying23 rfl (info_D.trans (congrArg some hml.symm)) (hK _ _ h)
theorem wpList_sliceDG (hg : Region.wanted o (yielded ops a.tmps) = true) (len : Nat) (parts : Array (Nat × Operand)) (ho : o.op = .buildSlice 32 len parts) (xs : List Dg) (hxs : All32 xs) (hlen : xs.length = len) (h1 : 1 ≤ len) (h2 : len ≤ 1000) (hv : (parts.map fun (i, x) => (i, a.eval x)).toList = ((xs.map dv).zipIdx 0).map fun x => (x.2, x.1))
  (N : Nat) (hN : w.heap.size = N) (h : ∀ W, W.heap[N]? = some (.cells (rowV xs).toArray 23 (0, 0)) → Below N w W → W.heap.size = N + 1 → wpList Try.prog ops Q rest (a.put o.dst (.slice (some ⟨N, 0, none⟩) len len)) W) : wpList Try.prog ops Q (o :: rest) a w :=
 wpList_step fun K hK => by
  rw [if_pos hg]
  exact wp_sliceD len parts ho xs hxs hlen h1 h2 hv N hN (fun W e1 e2 e3 => hK _ _ (h W e1 e2 e3))
end
theorem wpList_slice2G {ops : Array Oper} {rest : List Oper} {o : Oper} {a : Act} {w : World} {Q : Exit → Act → World → Prop} (hg : Region.wanted o (yielded ops a.tmps) = true) (x y : Operand) (ho : o.op = .buildSlice 32 2 #[(0, x), (1, y)]) (A B : Dg) (hA : A.length = 32) (hB : B.length = 32) (hx : a.eval x = dv A) (hy : a.eval y = dv B)
  (N : Nat) (hN : w.heap.size = N) (h : ∀ W, W.heap[N]? = some (.cells (rowV [A, B]).toArray 23 (0, 0)) → Below N w W → W.heap.size = N + 1 → wpList Try.prog ops Q rest (a.put o.dst (.slice (some ⟨N, 0, none⟩) 2 2)) W) : wpList Try.prog ops Q (o :: rest) a w :=
 wpList_sliceDG hg 2 _ ho [A, B] (fun d hd => by
  rcases List.mem_cons.1 hd with rfl | hd
  ·exact hA
  ·rw [List.mem_singleton.1 hd]; exact hB) rfl (by decide) (by decide) (by simp [hx, hy]) N hN h
theorem row_lit {w : World} {N : Nat} {xs : List Dg} {n : Nat} (hn : xs.length = n) (hA : All32 xs) (h : w.heap[N]? = some (.cells (rowV xs).toArray 23 (0, 0))) (hm : n ≤ 9223372036854775807) : DRow w w.heap.size (.slice (some ⟨N, 0, none⟩) n n) xs := by
 subst hn
 refine ⟨hA, some ⟨N, 0, none⟩, xs.length, rfl, Nat.le_refl _, hm, fun hp => ⟨N, 0, rfl, heap_lt h, heap_lt h, fun i hi => ?_⟩⟩
 refine block_range h (0 + i * 32) (xs[i].map bv) ?_
 apply List.ext_getElem?
 intro j
 have hl : (xs[i].map bv).length = 32 := by rw [List.length_map, hA _ (List.getElem_mem hi)]
 rw [hl, Nat.zero_add]
 by_cases hj : j < 32
 ·rw [List.getElem?_take_of_lt hj, List.getElem?_drop, rowV_at hA i hi j hj]
 ·rw [List.getElem?_take_eq_none (by omega), List.getElem?_eq_none (by omega)]
def holdsB (n : Int) (s : Nat) (hd : Dg) (i : Nat) (leaf : Dg) (t : List Dg) : Bool :=
 wideB n && fitsL n [hd, leaf] && fitsL n t && decide (i < s) && decide (s ≤ 1048576) && ((climbP n.toNat leaf i s t true).2.2.2 && (climbP n.toNat leaf i s t true).2.2.1.isEmpty && ((climbP n.toNat leaf i s t true).1 == hd))
theorem sub_hv (s : Nat) (hd : Dg) (h : hd.length = 32) : ((Value.int .u64 (s : Int) :: hd.map bv).drop 1).take 32 = hd.map bv := by
 rw [List.drop_succ_cons, List.drop_zero, List.take_of_length_le (by simp [h])]
theorem all2 {a b : Dg} (ha : a.length = 32) (hb : b.length = 32) : All32 [a, b] := fun d hd => by
 rcases List.mem_cons.1 hd with rfl | hd
 ·exact ha
 ·rw [List.mem_singleton.1 hd]; exact hb
set_option maxHeartbeats 16000000 in
theorem Holds_any (n : Int) (s i : Nat) (hd leaf : Dg) (v : Value) (t : List Dg) (w : World) (hdl : Hid (hd.length = 32)) (hll : Hid (leaf.length = 32)) (hr : Hid (DRow w w.heap.size v t)) (hs : s < 18446744073709551616) (hi : i < 18446744073709551616) :
  Calls Try.prog 17 #[.int .i64 n, hv s hd, .int .u64 (i : Int), dv leaf, v] w fun e w' => e = .returned (.bool (holdsB n s hd i leaf t)) ∧ Below w.heap.size w w' := by
 obtain ⟨R, hR⟩ : ∃ R, holdsB n s hd i leaf t = R := ⟨_, rfl⟩
 rw [hR]
 unfold holdsB at hR
 obtain ⟨N, hN⟩ : ∃ N, w.heap.size = N := ⟨_, rfl⟩
 rw [hN] at hr ⊢
 obtain ⟨W1, hW1⟩ : ∃ x, wideB n = x := ⟨_, rfl⟩
 obtain ⟨F1, hF1⟩ : ∃ x, fitsL n [hd, leaf] = x := ⟨_, rfl⟩
 obtain ⟨F2, hF2⟩ : ∃ x, fitsL n t = x := ⟨_, rfl⟩
 rw [hW1, hF1, hF2] at hR
 have HW := Lib.hid hW1
 have HF1 := Lib.hid hF1
 have HF2 := Lib.hid hF2
 have HR := Lib.hid hR
 have HN := Lib.hid hN
 clear hW1 hF1 hF2 hR hN
 go_enter Try.func17, Try.ntmps17
 go_upto_region 0 with fail
 refine wp_region_list ?_
 refine wpList_boxB rfl _ _ rfl N HN.out (.int .u64 (s : Int) :: hd.map bv).toArray rfl ?_
 intro w0 e0 b0 z0
 try simp only [Act.put,nA,nB,nC]
 refine wpList_boxD rfl _ rfl leaf rfl (N + 1) z0 ?_
 intro w1 e1 b1 z1
 try simp only [Act.put,nA,nB,nC]
 (refine wpList_plain rfl (fun K hK => ?_)); go_simp; refine hK _ _ ?_; clear hK K; try simp only [Act.put,nA,nB,nC]
 have HB := Lib.hid (b0.trans (b1.mono (by omega)))
 have E0 := Lib.hid (heap_below e0 b1 (by omega))
 have E1 := Lib.hid e1
 have HSub := Lib.hid (sub_hv s hd hdl.out)
 clear e0 b0 z0 e1 b1
 go_upto_region 1 with fail
 refine wp_region_list ?_
 (refine wpList_plain rfl (fun K hK => ?_)); go_simp; refine hK _ _ ?_; clear hK K; try simp only [Act.put,nA,nB,nC]
 refine wpList_plain rfl (fun K hK => ?_)
 go_simp
 refine (right_any _ _).mono ?_; rintro e w3 ⟨rfl, rfl⟩; rw [HW.out]
 refine hK _ _ ?_
 clear hK K
 try simp only [Act.put,nA,nB,nC]
 iterate 2
  (refine wpList_plain rfl (fun K hK => ?_)); go_simp; refine hK _ _ ?_; clear hK K; try simp only [Act.put,nA,nB,nC]
 cases W1
 case false =>
  have HRes : Hid (R = false) := HR.out.symm
  have HBf := HB
  iterate 7
   refine wpList_step (fun K hK => ?_)
   rw [if_neg (Bool.eq_false_iff.1 (by rfl))]
   refine hK _ _ ?_
   clear hK K
   try simp only [Act.put,nA,nB,nC]
  iterate 2
   (refine wpList_plain rfl (fun K hK => ?_)); go_simp; refine hK _ _ ?_; clear hK K; try simp only [Act.put,nA,nB,nC]
  iterate 4
   refine wpList_step (fun K hK => ?_)
   rw [if_neg (Bool.eq_false_iff.1 (by rfl))]
   refine hK _ _ ?_
   clear hK K
   try simp only [Act.put,nA,nB,nC]
  iterate 2
   (refine wpList_plain rfl (fun K hK => ?_)); go_simp; refine hK _ _ ?_; clear hK K; try simp only [Act.put,nA,nB,nC]
  iterate 4
   refine wpList_step (fun K hK => ?_)
   rw [if_neg (Bool.eq_false_iff.1 (by rfl))]
   refine hK _ _ ?_
   clear hK K
   try simp only [Act.put,nA,nB,nC]
  iterate 2
   (refine wpList_plain rfl (fun K hK => ?_)); go_simp; refine hK _ _ ?_; clear hK K; try simp only [Act.put,nA,nB,nC]
  iterate 3
   refine wpList_step (fun K hK => ?_)
   rw [if_neg (Bool.eq_false_iff.1 (by rfl))]
   refine hK _ _ ?_
   clear hK K
   try simp only [Act.put,nA,nB,nC]
  (refine wpList_plain rfl (fun K hK => ?_)); go_simp; refine hK _ _ ?_; clear hK K; try simp only [Act.put,nA,nB,nC]
  clear E0 E1 HSub
  go_wp2_with fail
  go_ret
  exact ⟨by rw [HRes.out]; rfl, HBf.out⟩
 case true =>
  iterate 2
   refine wpList_step (fun K hK => ?_)
   rw [if_pos (by rfl)]
   go_simp
   refine hK _ _ ?_
   clear hK K
   try simp only [Act.put,nA,nB,nC]
  refine wpList_loadAtG rfl _ rfl N 1 rfl hd hdl.out _ _ E0.out HSub.out ?_
  try simp only [Act.put,nA,nB,nC]
  refine wpList_loadDg rfl _ rfl (N + 1) rfl leaf hll.out E1.out ?_
  try simp only [Act.put,nA,nB,nC]
  refine wpList_slice2G rfl _ _ rfl hd leaf hdl.out hll.out rfl rfl (N + 2) z1 ?_
  intro w2 e2 b2 z2
  try simp only [Act.put,nA,nB,nC]
  have R2 := Lib.hid (row_lit rfl (all2 hdl.out hll.out) e2 (by simp))
  refine wpList_step (fun K hK => ?_)
  rw [if_pos (by rfl)]
  go_simp
  refine (fit_any n _ [hd, leaf] _ _ R2).mono ?_; rintro e w3 ⟨rfl, b3⟩; rw [HF1.out]
  refine hK _ _ ?_
  clear hK K
  try simp only [Act.put,nA,nB,nC]
  have b13 := b2.trans (b3.mono (by omega))
  have z3 := b3.size
  rw [z2] at z3
  have HB3 := Lib.hid (HB.out.trans (b13.mono (by omega)))
  have E03 := Lib.hid (heap_below E0.out b13 (by omega))
  have E13 := Lib.hid (heap_below E1.out b13 (by omega))
  clear e2 b2 b3 b13 R2 E0 E1 HB
  rename Hid (w3.heap[N]? = _) => E0
  rename Hid (w3.heap[N + 1]? = _) => E1
  refine wpList_step (fun K hK => ?_)
  rw [if_pos (by rfl)]
  go_simp
  refine hK _ _ ?_
  clear hK K
  try simp only [Act.put,nA,nB,nC]
  iterate 2
   (refine wpList_plain rfl (fun K hK => ?_)); go_simp; refine hK _ _ ?_; clear hK K; try simp only [Act.put,nA,nB,nC]
  cases F1
  case false =>
   have HRes : Hid (R = false) := HR.out.symm
   have HBf := HB3
   iterate 4
    refine wpList_step (fun K hK => ?_)
    rw [if_neg (Bool.eq_false_iff.1 (by rfl))]
    refine hK _ _ ?_
    clear hK K
    try simp only [Act.put,nA,nB,nC]
   iterate 2
    (refine wpList_plain rfl (fun K hK => ?_)); go_simp; refine hK _ _ ?_; clear hK K; try simp only [Act.put,nA,nB,nC]
   iterate 4
    refine wpList_step (fun K hK => ?_)
    rw [if_neg (Bool.eq_false_iff.1 (by rfl))]
    refine hK _ _ ?_
    clear hK K
    try simp only [Act.put,nA,nB,nC]
   iterate 2
    (refine wpList_plain rfl (fun K hK => ?_)); go_simp; refine hK _ _ ?_; clear hK K; try simp only [Act.put,nA,nB,nC]
   iterate 3
    refine wpList_step (fun K hK => ?_)
    rw [if_neg (Bool.eq_false_iff.1 (by rfl))]
    refine hK _ _ ?_
    clear hK K
    try simp only [Act.put,nA,nB,nC]
   (refine wpList_plain rfl (fun K hK => ?_)); go_simp; refine hK _ _ ?_; clear hK K; try simp only [Act.put,nA,nB,nC]
   clear E0 E1 HSub
   go_wp2_with fail
   go_ret
   exact ⟨by rw [HRes.out]; rfl, HBf.out⟩
  case true =>
   iterate 2
    refine wpList_step (fun K hK => ?_)
    rw [if_pos (by rfl)]
    go_simp
    refine hK _ _ ?_
    clear hK K
    try simp only [Act.put,nA,nB,nC]
   have hrw := hr.out.low HB3.out (by rw [HN.out]; exact Nat.le_refl _)
   refine wpList_step (fun K hK => ?_)
   rw [if_pos (by rfl)]
   go_simp
   refine (fit_any n v t _ N hrw).mono ?_; rintro e w4 ⟨rfl, b4⟩; rw [HF2.out]
   refine hK _ _ ?_
   clear hK K
   try simp only [Act.put,nA,nB,nC]
   have z4 := b4.size
   have HB4 := Lib.hid (HB3.out.trans (b4.mono (by omega)))
   have E04 := Lib.hid (heap_below E0.out b4 (by omega))
   have E14 := Lib.hid (heap_below E1.out b4 (by omega))
   clear b4 hrw E0 E1 HB3
   rename Hid (w4.heap[N]? = _) => E0
   rename Hid (w4.heap[N + 1]? = _) => E1
   refine wpList_step (fun K hK => ?_)
   rw [if_pos (by rfl)]
   go_simp
   refine hK _ _ ?_
   clear hK K
   try simp only [Act.put,nA,nB,nC]
   iterate 2
    (refine wpList_plain rfl (fun K hK => ?_)); go_simp; refine hK _ _ ?_; clear hK K; try simp only [Act.put,nA,nB,nC]
   cases F2
   case false =>
    have HRes : Hid (R = false) := by
     show R = false
     rw [← HR.out]; rfl
    have HBf := HB4
    iterate 4
     refine wpList_step (fun K hK => ?_)
     rw [if_neg (Bool.eq_false_iff.1 (by rfl))]
     refine hK _ _ ?_
     clear hK K
     try simp only [Act.put,nA,nB,nC]
    iterate 2
     (refine wpList_plain rfl (fun K hK => ?_)); go_simp; refine hK _ _ ?_; clear hK K; try simp only [Act.put,nA,nB,nC]
    iterate 3
     refine wpList_step (fun K hK => ?_)
     rw [if_neg (Bool.eq_false_iff.1 (by rfl))]
     refine hK _ _ ?_
     clear hK K
     try simp only [Act.put,nA,nB,nC]
    (refine wpList_plain rfl (fun K hK => ?_)); go_simp; refine hK _ _ ?_; clear hK K; try simp only [Act.put,nA,nB,nC]
    clear E0 E1 HSub
    go_wp2_with fail
    go_ret
    exact ⟨by rw [HRes.out]; rfl, HBf.out⟩
   case true =>
    have HBf := HB4
    have cs : w4.cell? ⟨N, 0, none⟩ = some (.int .u64 (s : Int)) := by rw [heap_cell E0.out]; rfl
    by_cases his : i < s
    case neg =>
     have HRes : Hid (R = false) := by
      show R = false
      rw [← HR.out, decide_eq_false his]; rfl
     have d1 : decide (s ≤ i) = true := decide_eq_true (by omega)
     have d2 : decide ((s : Int) ≤ (i : Int)) = true := decide_eq_true (by omega)
     iterate 4
      refine wpList_step (fun K hK => ?_)
      rw [if_pos (by rfl)]
      go_simp
      refine hK _ _ ?_
      clear hK K
      try simp only [Act.put,nA,nB,nC]
     iterate 2
      (refine wpList_plain rfl (fun K hK => ?_)); go_simp; refine hK _ _ ?_; clear hK K; try simp only [Act.put,nA,nB,nC]
     clear d1 d2 cs
     iterate 3
      refine wpList_step (fun K hK => ?_)
      rw [if_neg (Bool.eq_false_iff.1 (by rfl))]
      refine hK _ _ ?_
      clear hK K
      try simp only [Act.put,nA,nB,nC]
     (refine wpList_plain rfl (fun K hK => ?_)); go_simp; refine hK _ _ ?_; clear hK K; try simp only [Act.put,nA,nB,nC]
     clear E0 E1 HSub
     go_wp2_with fail
     go_ret
     exact ⟨by rw [HRes.out]; rfl, HBf.out⟩
    case pos =>
     have d1 : decide (s ≤ i) = false := decide_eq_false (by omega)
     have d2 : decide ((s : Int) ≤ (i : Int)) = false := decide_eq_false (by omega)
     iterate 4
      refine wpList_step (fun K hK => ?_)
      rw [if_pos (by rfl)]
      go_simp
      refine hK _ _ ?_
      clear hK K
      try simp only [Act.put,nA,nB,nC]
     iterate 2
      (refine wpList_plain rfl (fun K hK => ?_)); go_simp; refine hK _ _ ?_; clear hK K; try simp only [Act.put,nA,nB,nC]
     clear d1 d2
     by_cases hsm : s ≤ 1048576
     case neg =>
      have HRes : Hid (R = false) := by
       show R = false
       rw [← HR.out, decide_eq_false hsm, decide_eq_true his]; rfl
      have d1 : decide (1048576 < s) = true := decide_eq_true (by omega)
      have d2 : decide ((1048576 : Int) < (s : Int)) = true := decide_eq_true (by omega)
      iterate 3
       refine wpList_step (fun K hK => ?_)
       rw [if_pos (by rfl)]
       go_simp
       refine hK _ _ ?_
       clear hK K
       try simp only [Act.put,nA,nB,nC]
      (refine wpList_plain rfl (fun K hK => ?_)); go_simp; refine hK _ _ ?_; clear hK K; try simp only [Act.put,nA,nB,nC]
      clear d1 d2 cs E0 E1 HSub
      go_wp2_with fail
      go_ret
      exact ⟨by rw [HRes.out]; rfl, HBf.out⟩
     case pos =>
      have d1 : decide (1048576 < s) = false := decide_eq_false (by omega)
      have d2 : decide ((1048576 : Int) < (s : Int)) = false := decide_eq_false (by omega)
      iterate 3
       refine wpList_step (fun K hK => ?_)
       rw [if_pos (by rfl)]
       go_simp
       refine hK _ _ ?_
       clear hK K
       try simp only [Act.put,nA,nB,nC]
      (refine wpList_plain rfl (fun K hK => ?_)); go_simp; refine hK _ _ ?_; clear hK K; try simp only [Act.put,nA,nB,nC]
      clear d1 d2
      obtain ⟨m, rfl⟩ : ∃ m : Nat, n = (m : Int) := ⟨n.toNat, by have := HW.out; simp [wideB] at this; omega⟩
      have hm : m ≤ 32 := by have := HW.out; simp [wideB] at this; omega
      obtain ⟨⟨D, P, t2, ok2⟩, hcl⟩ : ∃ r, climbP m leaf i s t true = r := ⟨_, rfl⟩
      have hcl3 := climbP_len m leaf hll.out s i t true hr.out.1
      rw [hcl] at hcl3
      have HD : Hid (List.length D = 32) := hcl3.1
      have HR2 : Hid (R = ((ok2 && t2.isEmpty) && (D == hd))) := by
       show R = _
       rw [← HR.out, decide_eq_true hsm, decide_eq_true his]
       show (true && (_ && _ && _)) = _
       rw [Int.toNat_natCast, hcl]
       rfl
      have hrw := hr.out.low HBf.out (by rw [HN.out]; exact Nat.le_refl _)
      have hcc := climb_any m i s leaf v t w4 hll (hrw.mono (by omega)) (by omega) his hsm hm
      rw [hcl] at hcc
      have HC := Lib.hid hcc
      have HCl := Lib.hid hcl
      clear hcl hcl3 hrw hcc HR
      obtain ⟨B2, hB2⟩ : ∃ x, (ok2 && t2.isEmpty) = x := ⟨_, rfl⟩
      have HB2 := Lib.hid hB2
      clear hB2
      have hwi : IntKind.i64.wrap (i : Int) = (i : Int) := IntWalk.i64_in _ (by omega)
      have hws : IntKind.i64.wrap (s : Int) = (s : Int) := IntWalk.i64_in _ (by omega)
      go_upto_region 3 with fail
      refine wp_region_list ?_
      iterate 6
       (refine wpList_plain rfl (fun K hK => ?_)); go_simp; refine hK _ _ ?_; clear hK K; try simp only [Act.put,nA,nB,nC]
      refine wpList_loadD rfl _ rfl (N + 1) rfl leaf hll.out E1.out ?_
      try simp only [Act.put,nA,nB,nC]
      (refine wpList_plain rfl (fun K hK => ?_)); go_simp; refine hK _ _ ?_; clear hK K; try simp only [Act.put,nA,nB,nC]
      refine wpList_plain rfl (fun K hK => ?_)
      go_simp
      refine HC.out.mono ?_; rintro e y ⟨sv, rfl, ho, hA, hb⟩; rw [show (((D, P, t2, ok2) : Dg × List Dg × List Dg × Bool).2.2.2 && ((D, P, t2, ok2) : Dg × List Dg × List Dg × Bool).2.2.1.isEmpty) = B2 from HB2.out]; dsimp only
      refine hK _ _ ?_
      clear hK K
      try simp only [Act.put,nA,nB,nC]
      have E05 := Lib.hid (heap_below E0.out hb (heap_lt E0.out))
      have HB5 := Lib.hid (HBf.out.trans (hb.mono (by omega)))
      have hz5 := hb.size
      clear hwi hws ho hA hb HC E0 E1 HBf HB4 cs
      iterate 4
       (refine wpList_plain rfl (fun K hK => ?_)); go_simp; refine hK _ _ ?_; clear hK K; try simp only [Act.put,nA,nB,nC]
      refine wpList_allocD rfl rfl y.heap.size rfl ?_
      intro ya ea ba za
      try simp only [Act.put,nA,nB,nC]
      (refine wpList_plain rfl (fun K hK => ?_)); go_simp; refine hK _ _ ?_; clear hK K; try simp only [Act.put,nA,nB,nC]
      refine wpList_storeD rfl _ _ rfl y.heap.size rfl zeros32 D rfl HD.out rfl ea ?_
      intro yb eb bb kb zb
      try simp only [Act.put,nA,nB,nC]
      have Eb := Lib.hid eb
      have E06 := Lib.hid (heap_below (heap_below E05.out ba (by omega)) bb (by omega))
      have HB6 := Lib.hid ((HB5.out.trans (ba.mono (by omega))).trans (bb.mono (by omega)))
      clear ea ba eb bb kb E05 HB5
      (refine wpList_plain rfl (fun K hK => ?_)); go_simp; refine hK _ _ ?_; clear hK K; try simp only [Act.put,nA,nB,nC]
      go_upto_region 4 with fail
      refine wp_region_list ?_
      iterate 2
       (refine wpList_plain rfl (fun K hK => ?_)); go_simp; refine hK _ _ ?_; clear hK K; try simp only [Act.put,nA,nB,nC]
      cases B2
      case false =>
       have HRes : Hid (R = false) := HR2.out.trans (by rw [HB2.out]; rfl)
       iterate 4
        refine wpList_step (fun K hK => ?_)
        rw [if_neg (Bool.eq_false_iff.1 (by rfl))]
        refine hK _ _ ?_
        clear hK K
        try simp only [Act.put,nA,nB,nC]
       iterate 2
        (refine wpList_plain rfl (fun K hK => ?_)); go_simp; refine hK _ _ ?_; clear hK K; try simp only [Act.put,nA,nB,nC]
       clear E06 Eb HSub
       go_wp2_with fail
       go_ret
       exact ⟨by rw [HRes.out]; rfl, HB6.out⟩
      case true =>
       have HRes : Hid (R = (D == hd)) := HR2.out.trans (by rw [HB2.out]; rfl)
       obtain ⟨Q, hQ⟩ : ∃ x, (D == hd) = x := ⟨_, rfl⟩
       have heq := eqD D hd HD.out hdl.out
       rw [hQ] at heq
       have HQ := Lib.hid hQ
       clear hQ
       set_option maxRecDepth 20000 in
       refine wpList_loadDg rfl _ rfl y.heap.size rfl D HD.out Eb.out ?_
       try simp only [Act.put,nA,nB,nC]
       refine wpList_step (fun K hK => ?_)
       rw [if_pos (by rfl)]
       go_simp
       refine hK _ _ ?_
       clear hK K
       try simp only [Act.put,nA,nB,nC]
       set_option maxRecDepth 20000 in
       refine wpList_loadAtG rfl _ rfl N 1 rfl hd hdl.out _ _ E06.out HSub.out ?_
       try simp only [Act.put,nA,nB,nC]
       refine wpList_step (fun K hK => ?_)
       rw [if_pos (by rfl)]
       go_simp
       refine hK _ _ ?_
       clear hK K
       try simp only [Act.put,nA,nB,nC]
       iterate 2
        (refine wpList_plain rfl (fun K hK => ?_)); go_simp; refine hK _ _ ?_; clear hK K; try simp only [Act.put,nA,nB,nC]
       clear E06 Eb HSub heq
       go_wp2_with fail
       go_ret
       exact ⟨by rw [HRes.out, HQ.out]; rfl, HB6.out⟩
end Go.Proofs.Ytihbhpggpnmifaa
