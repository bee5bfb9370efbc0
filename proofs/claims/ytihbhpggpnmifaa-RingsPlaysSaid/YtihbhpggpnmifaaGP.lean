/-
 The walks of Extends' closure.
-/
import Derived.Test.YtihbhpggpnmifaaGO
set_option linter.unusedSimpArgs false
set_option linter.unusedVariables false
namespace Go.Proofs.Ytihbhpggpnmifaa
open Go.RowKit Go.Lib Hw
def upE (N Q : Nat) : Value := .func (.func 50) #[] #[.pointer (some ⟨N + 1, 0, none⟩), .pointer (some ⟨N + 3, 0, none⟩), .pointer (some ⟨Q, 0, none⟩), .pointer (some ⟨Q + 1, 0, none⟩), .pointer (some ⟨N, 0, none⟩)]
structure EB (W : World) (lim N Q : Nat) (s : Nat) (od : Dg) (wd : Nat) (tv : Value) (t : List Dg) (ok : Bool) : Prop where
 bw : W.heap[N]? = some (.cells #[.int .i64 (wd : Int)] 3 (0, 0))
 bo : HB W (N + 1) s od
 bt : W.heap[N + 3]? = some (.cells #[tv] 32 (0, 0))
 bk : W.heap[Q]? = some (.cells #[.bool ok] 4 (0, 0))
 bu : W.heap[Q + 1]? = some (.cells #[upE N Q] 91 (0, 0))
 row : DRow W lim tv t
 lo : lim ≤ N ∧ N + 4 ≤ Q
section
variable {W W' : World} {lim N Q s wd : Nat} {od : Dg} {tv tv' : Value} {t t' : List Dg} {ok ok' : Bool}
theorem EB.big (h : EB W lim N Q s od wd tv t ok) : Q + 2 ≤ W.heap.size := heap_lt h.bu
theorem EB.mod {T : Nat → Prop} (h : EB W lim N Q s od wd tv t ok) (m : Mod T W W') (hT : ∀ k, k < Q + 2 → ¬ T k) : EB W' lim N Q s od wd tv t ok :=
 have hlo := h.lo
 ⟨m.heap h.bw (hT _ (by omega)), m.heap h.bo (hT _ (by omega)), m.heap h.bt (hT _ (by omega)), m.heap h.bk (hT _ (by omega)), m.heap h.bu (hT _ (by omega)), h.row.mod m (fun k hk => hT k (by omega)), h.lo⟩
theorem EB.below (h : EB W lim N Q s od wd tv t ok) (hb : Below W.heap.size W W') : EB W' lim N Q s od wd tv t ok := h.mod (Mod.of (fun _ => False) hb) (fun _ _ h => h)
theorem EB.drew (h : EB W lim N Q s od wd tv t ok) : EB W.drew lim N Q s od wd tv t ok := ⟨h.bw, h.bo, h.bt, h.bk, h.bu, h.row.drew, h.lo⟩
theorem EB.kept (h : EB W lim N Q s od wd tv t ok) {b : Nat} (hk : Kept b W W') (hb : Q + 2 ≤ b) : EB W' lim N Q s od wd tv t ok := h.mod (Mod.kept (S := fun k => k = b) hk rfl) (fun k hk e => by omega)
theorem EB.next (h : EB W lim N Q s od wd tv t ok) (ht : W'.heap[N + 3]? = some (.cells #[tv'] 32 (0, 0))) (ho : W'.heap[Q]? = some (.cells #[.bool ok'] 4 (0, 0))) (hr : DRow W' lim tv' t') (m : Mod (fun k => k = N + 3 ∨ k = Q) W W') : EB W' lim N Q s od wd tv' t' ok' :=
 have hgap := h.lo
 ⟨m.heap h.bw (by omega), m.heap h.bo (by omega), ht, ho, m.heap h.bu (by omega), hr, h.lo⟩
theorem EB.cw (h : EB W lim N Q s od wd tv t ok) : W.cell? ⟨N, 0, none⟩ = some (.int .i64 (wd : Int)) := by rw [heap_cell h.bw]; rfl
theorem EB.cu (h : EB W lim N Q s od wd tv t ok) : W.cell? ⟨Q + 1, 0, none⟩ = some (upE N Q) := by rw [heap_cell h.bu]; rfl
end
def TwoPost (w : World) (lim N Q s : Nat) (od : Dg) (wd : Nat) (r : Dg × Dg × List Dg × Bool) (e : Ending) (w' : World) : Prop :=
 e = .returned (.tuple #[dv r.1, dv r.2.1]) ∧ ∃ tv', EB w' lim N Q s od wd tv' r.2.2.1 r.2.2.2 ∧ Mod (fun k => k = N + 3 ∨ k = Q) w w'
theorem results_DD {fn : Func} {tmps : Array Value} {a b : Nat} {b1 b2 : Nat} {l m : List UInt8} {w : World} (hr : fn.results = #[.cell a 23, .cell b 23]) (ha : tmps.getD a undef = .pointer (some ⟨b1, 0, none⟩)) (hb : tmps.getD b undef = .pointer (some ⟨b2, 0, none⟩)) (hl : l.length = 32) (hm : m.length = 32) (hd : DB w b1 l) (he : DB w b2 m) :
  (results fn tmps).run Try.prog w = .ok (.tuple #[dv l, dv m]) w := by
 have h1 := hd.load hl
 have h2 := he.load hm
 unfold results
 rw [hr]
 have ha' : tmps[a]?.getD undef = .pointer (some ⟨b1, 0, none⟩) := by rw [← ha]; simp
 have hb' : tmps[b]?.getD undef = .pointer (some ⟨b2, 0, none⟩) := by rw [← hb]; simp
 simp [ha', hb', h1, h2, asAddr, dv]
set_option maxHeartbeats 4000000 in
theorem two_whole (lim N Q s : Nat) (od : Dg) (wd n : Nat) (tv : Value) (t : List Dg) (ok : Bool) (w : World) (h : Hid (EB w lim N Q s od wd tv t ok)) (hod : Hid (od.length = 32)) :
  Calls Try.prog 50 #[.int .i64 (n : Int), .int .i64 (n : Int), .bool true, .pointer (some ⟨N + 1, 0, none⟩), .pointer (some ⟨N + 3, 0, none⟩), .pointer (some ⟨Q, 0, none⟩), .pointer (some ⟨Q + 1, 0, none⟩), .pointer (some ⟨N, 0, none⟩)] w (TwoPost w lim N Q s od wd (od, od, t, ok)) := by
 obtain ⟨x, hx⟩ : ∃ x, w.heap.size = x := ⟨_, rfl⟩
 go_enter Try.func50, Try.ntmps50
 go_upto_region 0 with fail
 refine wp_region_list ?_
 refine wpList_allocD rfl rfl x hx ?_
 intro w0 e0 b0 z0
 try simp only [Act.put,nA,nB,nC]
 refine wpList_allocD rfl rfl (x + 1) z0 ?_
 intro w1 e1 b1 z1
 try simp only [Act.put,nA,nB,nC]
 go_upto_region 2 with fail
 have T1 := Lib.hid (h.out.below (by rw [hx]; exact b0.trans (b1.mono (by omega))))
 refine wp_region_list ?_
 (refine wpList_plain rfl (fun K hK => ?_)); go_simp; refine hK _ _ ?_; clear hK K; try simp only [Act.put,nA,nB,nC]
 refine wpList_loadAt rfl _ rfl (N + 1) 1 rfl od hod.out (hcs s od) _ T1.out.bo (sub_hv s od hod.out) ?_
 try simp only [Act.put,nA,nB,nC]
 refine wpList_allocD rfl rfl (x + 2) z1 ?_
 intro w2 e2 b2 z2
 try simp only [Act.put,nA,nB,nC]
 refine wpList_storeD rfl _ _ rfl (x + 2) rfl zeros32 od rfl hod.out rfl e2 ?_
 intro w3 e3 b3 k3 z3
 try simp only [Act.put,nA,nB,nC]
 have hbig := h.out.big
 have hgap := h.out.lo
 rw [hx] at hbig
 have b03 : Below x w w3 := ((b0.trans (b1.mono (by omega))).trans (b2.mono (by omega))).trans (b3.mono (by omega))
 have D0 := Lib.hid (heap_below (heap_below (heap_below e0 b1 (by omega)) b2 (by omega)) b3 (by omega))
 have D1 := Lib.hid (heap_below (heap_below e1 b2 (by omega)) b3 (by omega))
 have D2 := Lib.hid e3
 have B3 := Lib.hid b03
 clear e0 b0 z0 e1 b1 e2 b2 e3 b3 k3 T1 b03 z1 z2 z3
 go_upto_region 5 with fail
 refine wp_region_held_drew (S := fun W => DB W (x + 2) od) (by kernel_rfl) D2.out (fun hHeld => ?_)
 refine' tQ 0 ⟨some 28, .load 23 (.tmp 13), 23, "rings.go:276", #[], none⟩ rfl (by kernel_rfl) (yieldsIf_loadD (by rfl) _ rfl ((x + 2)) rfl (od) (hod.out) (fun W hW => hW)) _
 try simp only [Act.put,nA,nB,nC]
 refine' tQ 1 ⟨some 29, .load 23 (.tmp 13), 23, "rings.go:276", #[⟨2, .gcOnly .lateStores⟩], none⟩ rfl (by kernel_rfl) (yieldsIf_loadD (by rfl) _ rfl ((x + 2)) rfl (od) (hod.out) (fun W hW => hW)) _
 try simp only [Act.put,nA,nB,nC]
 refine wpAnyH_ready (rs := [2]) (by kernel_rfl) (by simp) ?_
 refine AllReadyH.cons (o := ⟨none, .store 23 (.tmp 11) (.tmp 28), 0, "rings.go:276", #[⟨0, .data⟩, ⟨0, .phase⟩, ⟨1, .textOnly .lateStores⟩], none⟩) rfl (fun K hK => ?_) AllReadyH.nil
 (set_option maxRecDepth 20000 in refine step_of rfl (wp_storeD _ _ rfl x rfl zeros32 od rfl hod.out rfl D0.out ?_); intro w4 e4 b4 k4 z4)
 refine hK.out _ _ ?_ (fun hHeld => ?_)
 ·exact k4.heap D2.out (by omega)
 clear hK K
 try simp only [Act.put,nA,nB,nC]
 refine wpAnyH_ready (rs := [3]) (by kernel_rfl) (by simp) ?_
 refine AllReadyH.cons (o := ⟨none, .store 23 (.tmp 12) (.tmp 29), 0, "rings.go:276", #[⟨1, .data⟩, ⟨2, .chain⟩, ⟨0, .phase⟩, ⟨1, .phase⟩, ⟨2, .phase⟩], none⟩) rfl (fun K hK => ?_) AllReadyH.nil
 (set_option maxRecDepth 20000 in refine step_of rfl (wp_storeD _ _ rfl (x + 1) rfl zeros32 od rfl hod.out rfl (k4.heap D1.out (by omega)) ?_); intro w5 e5 b5 k5 z5)
 refine hK.out _ _ ?_ (fun hHeld => ?_)
 ·exact k5.heap (k4.heap D2.out (by omega)) (by omega)
 clear hK K
 try simp only [Act.put,nA,nB,nC]
 refine wpAnyH_done (by kernel_rfl) ?_ _
 have F0 := Lib.hid (k5.heap e4 (by omega))
 have F1 := Lib.hid e5
 have hB : Below x w w5 := (B3.out.trans (Below.trans (Below.refl x w3).drew (b4.mono (by omega)))).trans (b5.mono (by omega))
 have Hf : Hid (TwoPost w lim N Q s od wd (od, od, t, ok) (.returned (.tuple #[dv od, dv od])) w5) := ⟨rfl, tv, h.out.below (by rw [hx]; exact hB), Mod.of _ (by rw [hx]; exact hB)⟩
 clear e4 b4 k4 e5 b5 k5 hHeld D0 D1 D2 B3 hB
 go_wp2_with fail
 refine bodyPost_ret (v := .tuple #[dv od, dv od]) ?_ rfl Hf.out
 exact results_DD Try.results50 rfl rfl hod.out hod.out F0.out F1.out
set_option maxHeartbeats 4000000 in
theorem two_part (lim N Q s : Nat) (od : Dg) (wd n : Nat) (tv : Value) (t : List Dg) (ok : Bool) (w : World) (h : Hid (EB w lim N Q s od wd tv t ok)) (hod : Hid (od.length = 32)) :
  Calls Try.prog 50 #[.int .i64 (n : Int), .int .i64 (n : Int), .bool false, .pointer (some ⟨N + 1, 0, none⟩), .pointer (some ⟨N + 3, 0, none⟩), .pointer (some ⟨Q, 0, none⟩), .pointer (some ⟨Q + 1, 0, none⟩), .pointer (some ⟨N, 0, none⟩)] w (TwoPost w lim N Q s od wd (t.headD zeros32, t.headD zeros32, t.tail, ok && !t.isEmpty)) := by
 obtain ⟨X, hX⟩ : ∃ X, t.headD zeros32 = X := ⟨_, rfl⟩
 have hXl : X.length = 32 := by rw [← hX]; exact head_length h.out.row.1
 rw [hX]
 have HX := Lib.hid hX
 have HXl := Lib.hid hXl
 clear hX hXl
 obtain ⟨ok', hok⟩ : ∃ o, (ok && !t.isEmpty) = o := ⟨_, rfl⟩
 rw [hok]
 have HOk := Lib.hid hok
 clear hok
 obtain ⟨x, hx⟩ : ∃ x, w.heap.size = x := ⟨_, rfl⟩
 go_enter Try.func50, Try.ntmps50
 go_upto_region 0 with fail
 refine wp_region_list ?_
 refine wpList_allocD rfl rfl x hx ?_
 intro w0 e0 b0 z0
 try simp only [Act.put,nA,nB,nC]
 refine wpList_allocD rfl rfl (x + 1) z0 ?_
 intro w1 e1 b1 z1
 try simp only [Act.put,nA,nB,nC]
 go_upto_region 2 with fail
 have T1 := Lib.hid (h.out.below (by rw [hx]; exact b0.trans (b1.mono (by omega))))
 refine wp_region_list ?_
 (refine wpList_plain rfl (fun K hK => ?_)); go_simp; refine hK _ _ ?_; clear hK K; try simp only [Act.put,nA,nB,nC]
 refine wpList_loadAt rfl _ rfl (N + 1) 1 rfl od hod.out (hcs s od) _ T1.out.bo (sub_hv s od hod.out) ?_
 try simp only [Act.put,nA,nB,nC]
 refine wpList_allocD rfl rfl (x + 2) z1 ?_
 intro w2 e2 b2 z2
 try simp only [Act.put,nA,nB,nC]
 refine wpList_storeD rfl _ _ rfl (x + 2) rfl zeros32 od rfl hod.out rfl e2 ?_
 intro w3 e3 b3 k3 z3
 try simp only [Act.put,nA,nB,nC]
 have hbig := h.out.big
 have hgap := h.out.lo
 rw [hx] at hbig
 have b03 : Below x w w3 := ((b0.trans (b1.mono (by omega))).trans (b2.mono (by omega))).trans (b3.mono (by omega))
 have D0 := Lib.hid (heap_below (heap_below (heap_below e0 b1 (by omega)) b2 (by omega)) b3 (by omega))
 have D1 := Lib.hid (heap_below (heap_below e1 b2 (by omega)) b3 (by omega))
 have D2 := Lib.hid e3
 have B3 := Lib.hid b03
 clear e0 b0 z0 e1 b1 e2 b2 e3 b3 k3 T1 b03 z1 z2 z3
 go_upto_region 4 with fail
 refine wp_region_list ?_
 have T3 := Lib.hid (h.out.below (by rw [hx]; exact B3.out))
 refine wpList_plain rfl (fun K hK => ?_)
 go_simp
 refine (next_any w3 lim (N + 3) (Q) tv 32 4 ok t T3.out.bt T3.out.bk (by omega) (by have := T3.out.lo; omega) (by have := T3.out.lo; omega) T3.out.row).mono ?_; rintro e wn ⟨rfl, tv5, ht5, ho5, hr5, m5⟩; rw [HX.out]
 refine hK _ _ ?_
 clear hK K
 try simp only [Act.put,nA,nB,nC]
 rw [HOk.out] at ho5
 have T5 := Lib.hid (T3.out.next ht5 ho5 hr5 m5)
 have C0 := Lib.hid (m5.heap D0.out (by omega))
 have C1 := Lib.hid (m5.heap D1.out (by omega))
 have C2 := m5.heap D2.out (by omega)
 have M5 : Hid (Mod (fun k => k = N + 3 ∨ k = Q) w wn) := (Mod.of _ (by rw [hx]; exact B3.out)).then m5
 clear ht5 ho5 hr5 m5 D0 D1 D2 B3 T3
 refine wpList_storeD rfl _ _ rfl (x + 2) rfl od X hod.out HXl.out rfl C2 ?_
 intro w3 e3 b3 k3 z3
 try simp only [Act.put,nA,nB,nC]
 have D0 := Lib.hid (k3.heap C0.out (by omega))
 have D1 := Lib.hid (k3.heap C1.out (by omega))
 have D2 := Lib.hid e3
 have T6 := Lib.hid (T5.out.kept k3 (by omega))
 have M6 : Hid (Mod (fun k => k = N + 3 ∨ k = Q) w w3) := M5.out.trans (Mod.kept (S := fun k => k = x + 2) k3 rfl) (fun i hi e => by omega)
 clear C0 C1 C2 e3 b3 k3 z3 T5 M5
 go_upto_region 5 with fail
 refine wp_region_held_drew (S := fun W => DB W (x + 2) X) (by kernel_rfl) D2.out (fun hHeld => ?_)
 refine' tQ 0 ⟨some 28, .load 23 (.tmp 13), 23, "rings.go:276", #[], none⟩ rfl (by kernel_rfl) (yieldsIf_loadD (by rfl) _ rfl ((x + 2)) rfl (X) (HXl.out) (fun W hW => hW)) _
 try simp only [Act.put,nA,nB,nC]
 refine' tQ 1 ⟨some 29, .load 23 (.tmp 13), 23, "rings.go:276", #[⟨2, .gcOnly .lateStores⟩], none⟩ rfl (by kernel_rfl) (yieldsIf_loadD (by rfl) _ rfl ((x + 2)) rfl (X) (HXl.out) (fun W hW => hW)) _
 try simp only [Act.put,nA,nB,nC]
 refine wpAnyH_ready (rs := [2]) (by kernel_rfl) (by simp) ?_
 refine AllReadyH.cons (o := ⟨none, .store 23 (.tmp 11) (.tmp 28), 0, "rings.go:276", #[⟨0, .data⟩, ⟨0, .phase⟩, ⟨1, .textOnly .lateStores⟩], none⟩) rfl (fun K hK => ?_) AllReadyH.nil
 (set_option maxRecDepth 20000 in refine step_of rfl (wp_storeD _ _ rfl x rfl zeros32 X rfl HXl.out rfl D0.out ?_); intro w4 e4 b4 k4 z4)
 refine hK.out _ _ ?_ (fun hHeld => ?_)
 ·exact k4.heap D2.out (by omega)
 clear hK K
 try simp only [Act.put,nA,nB,nC]
 refine wpAnyH_ready (rs := [3]) (by kernel_rfl) (by simp) ?_
 refine AllReadyH.cons (o := ⟨none, .store 23 (.tmp 12) (.tmp 29), 0, "rings.go:276", #[⟨1, .data⟩, ⟨2, .chain⟩, ⟨0, .phase⟩, ⟨1, .phase⟩, ⟨2, .phase⟩], none⟩) rfl (fun K hK => ?_) AllReadyH.nil
 (set_option maxRecDepth 20000 in refine step_of rfl (wp_storeD _ _ rfl (x + 1) rfl zeros32 X rfl HXl.out rfl (k4.heap D1.out (by omega)) ?_); intro w5 e5 b5 k5 z5)
 refine hK.out _ _ ?_ (fun hHeld => ?_)
 ·exact k5.heap (k4.heap D2.out (by omega)) (by omega)
 clear hK K
 try simp only [Act.put,nA,nB,nC]
 refine wpAnyH_done (by kernel_rfl) ?_ _
 have F0 := Lib.hid (k5.heap e4 (by omega))
 have F1 := Lib.hid e5
 have T8 := (T6.out.drew.kept k4 (by omega)).kept k5 (by omega)
 have M8 := (M6.out.drew.trans (Mod.kept (S := fun k => k = x) k4 rfl) (fun i hi e => by omega)).trans (Mod.kept (S := fun k => k = x + 1) k5 rfl) (fun i hi e => by omega)
 have Hf : Hid (TwoPost w lim N Q s od wd (X, X, t.tail, ok') (.returned (.tuple #[dv X, dv X])) w5) := ⟨rfl, tv5, T8, M8⟩
 clear e4 b4 k4 e5 b5 k5 hHeld D0 D1 D2 T6 M6 T8 M8
 go_wp2_with fail
 refine bodyPost_ret (v := .tuple #[dv X, dv X]) ?_ rfl Hf.out
 exact results_DD Try.results50 rfl rfl HXl.out HXl.out F0.out F1.out
set_option maxHeartbeats 8000000 in
theorem two_left (lim N Q s : Nat) (od : Dg) (wd m n : Nat) (wh : Bool) (tv : Value) (t : List Dg) (ok : Bool) (w : World) (h : Hid (EB w lim N Q s od wd tv t ok)) (hod : Hid (od.length = 32)) (hn : 2 ≤ n) (hn2 : n ≤ 1048576) (h0 : 1 ≤ m) (hmn : m < n) (hm : m ≤ halfN n) (hwd : wd ≤ 32)
  (ih : ∀ W, EB W lim N Q s od wd tv t ok → Calls Try.prog 50 #[.int .i64 (m : Int), .int .i64 (halfN n : Int), .bool wh, .pointer (some ⟨N + 1, 0, none⟩), .pointer (some ⟨N + 3, 0, none⟩), .pointer (some ⟨Q, 0, none⟩), .pointer (some ⟨Q + 1, 0, none⟩), .pointer (some ⟨N, 0, none⟩)] W (TwoPost W lim N Q s od wd (twoP wd od m (halfN n) t ok wh)))
  (hlen : (twoP wd od m (halfN n) t ok wh).1.length = 32 ∧ (twoP wd od m (halfN n) t ok wh).2.1.length = 32 ∧ All32 (twoP wd od m (halfN n) t ok wh).2.2.1) :
  Calls Try.prog 50 #[.int .i64 (m : Int), .int .i64 (n : Int), .bool wh, .pointer (some ⟨N + 1, 0, none⟩), .pointer (some ⟨N + 3, 0, none⟩), .pointer (some ⟨Q, 0, none⟩), .pointer (some ⟨Q + 1, 0, none⟩), .pointer (some ⟨N, 0, none⟩)] w (TwoPost w lim N Q s od wd (twoP wd od m n t ok wh)) := by
 have hs := half_spec hn
 have hcl := twoP_left wd od m n t ok wh h0 hmn hm
 obtain ⟨k, hk⟩ : ∃ k, halfN n = k := ⟨_, rfl⟩
 rw [hk] at hs hm ih hlen hcl
 obtain ⟨⟨A, B, t2, ok2⟩, hr⟩ : ∃ r, twoP wd od m k t ok wh = r := ⟨_, rfl⟩
 simp only [hr] at ih
 rw [hr] at hcl hlen
 dsimp only at hcl
 obtain ⟨X, hX⟩ : ∃ X, t2.headD zeros32 = X := ⟨_, rfl⟩
 have hXl : X.length = 32 := by rw [← hX]; exact head_length hlen.2.2
 rw [hX] at hcl
 obtain ⟨KD, hKD⟩ : ∃ KD, knotD wd B X = KD := ⟨_, rfl⟩
 have hKl : KD.length = 32 := by rw [← hKD]; exact knotD_length _ _ _
 rw [hKD] at hcl
 obtain ⟨ok', hok⟩ : ∃ o, (ok2 && !t2.isEmpty) = o := ⟨_, rfl⟩
 rw [hok] at hcl
 rw [hcl]
 have IH := Lib.hid ih
 have HX := Lib.hid hX
 have HXl := Lib.hid hXl
 have HKD := Lib.hid hKD
 have HKl := Lib.hid hKl
 have HOk := Lib.hid hok
 have HK := Lib.hid hk
 have HA : Hid (List.length A = 32) := hlen.1
 have HB : Hid (List.length B = 32) := hlen.2.1
 clear ih hk hX hXl hKD hKl hok hcl hr hlen
 have hbig := h.out.big
 have hgap := h.out.lo
 have hlt : (m : Int) ≤ (k : Int) := by omega
 have dlt : decide (m ≤ k) = true := decide_eq_true hm
 have n1 : ((m : Int) == (n : Int)) = false := by simp; omega
 have n2 : (m == n) = false := by simp; omega
 obtain ⟨x, hx⟩ : ∃ x, w.heap.size = x := ⟨_, rfl⟩
 rw [hx] at hbig
 go_enter Try.func50, Try.ntmps50
 go_upto_region 0 with fail
 refine wp_region_list ?_
 refine wpList_allocD rfl rfl x hx ?_
 intro w0 e0 b0 z0
 try simp only [Act.put,nA,nB,nC]
 refine wpList_allocD rfl rfl (x + 1) z0 ?_
 intro w1 e1 b1 z1
 try simp only [Act.put,nA,nB,nC]
 have b01 : Below x w w1 := b0.trans (b1.mono (by omega))
 have T1 := Lib.hid (h.out.below (by rw [hx]; exact b01))
 have C0 := Lib.hid (heap_below e0 b1 (by omega))
 have C1 := Lib.hid e1
 have M1 : Hid (Mod (fun k => k = N + 3 ∨ k = Q) w w1) := Mod.of _ (by rw [hx]; exact b01)
 clear e0 b0 z0 e1 b1 b01
 go_upto_region 8 with (go_at_call 52; refine (half_any n _ hn hn2).mono ?_; rintro e w2 ⟨rfl, rfl⟩; rw [HK.out])
 have cu := T1.out.cu
 unfold upE at cu
 refine wp_region_list ?_
 iterate 4
  (refine wpList_plain rfl (fun K hK => ?_)); go_simp; refine hK _ _ ?_; clear hK K; try simp only [Act.put,nA,nB,nC]
 refine wpList_plain rfl (fun K hK => ?_)
 go_simp
 refine (IH.out _ T1.out).mono ?_; rintro e w2 ⟨rfl, tv2, T2, M2⟩; dsimp only
 refine hK _ _ ?_
 clear hK K
 try simp only [Act.put,nA,nB,nC]
 have D0 := Lib.hid (M2.heap C0.out (by omega))
 have D1 := Lib.hid (M2.heap C1.out (by omega))
 have MM2 : Hid (Mod (fun k => k = N + 3 ∨ k = Q) w w2) := M1.out.then M2
 have z2 := M2.size
 rw [z1] at z2
 have TT2 := Lib.hid T2
 clear T2 M2 C0 C1 M1 T1 cu IH
 obtain ⟨y, hy⟩ : ∃ y, w2.heap.size = y := ⟨_, rfl⟩
 rw [hy] at z2
 iterate 3
  (refine wpList_plain rfl (fun K hK => ?_)); go_simp; refine hK _ _ ?_; clear hK K; try simp only [Act.put,nA,nB,nC]
 refine wpList_allocD rfl rfl y hy ?_
 intro w3 e3 b3 z3
 try simp only [Act.put,nA,nB,nC]
 refine wpList_allocD rfl rfl (y + 1) z3 ?_
 intro w4 e4 b4 z4
 try simp only [Act.put,nA,nB,nC]
 refine wpList_storeD rfl _ _ rfl y rfl zeros32 A rfl HA.out rfl (heap_below e3 b4 (by omega)) ?_
 intro w5 e5 b5 k5 z5
 try simp only [Act.put,nA,nB,nC]
 refine wpList_storeD rfl _ _ rfl (y + 1) rfl zeros32 B rfl HB.out rfl (k5.heap e4 (by omega)) ?_
 intro w6 e6 b6 k6 z6
 try simp only [Act.put,nA,nB,nC]
 have b26 : Below y w2 w6 := ((b3.trans (b4.mono (by omega))).trans b5).trans (b6.mono (by omega))
 have G0 := Lib.hid (heap_below D0.out b26 (by omega))
 have G1 := Lib.hid (heap_below D1.out b26 (by omega))
 have GA := Lib.hid (k6.heap e5 (by omega))
 have GB := Lib.hid e6
 have T6 := Lib.hid (TT2.out.below (by rw [hy]; exact b26))
 have M6 : Hid (Mod (fun k => k = N + 3 ∨ k = Q) w w6) := MM2.out.then (Mod.of _ (by rw [hy]; exact b26))
 clear e3 b3 e4 b4 z4 e5 b5 k5 z5 e6 b6 k6 z6 b26 D0 D1 TT2 MM2 z3
 go_upto_region 9 with fail
 refine wp_region_held_drew (S := fun W => DB W y A ∧ DB W (y + 1) B ∧ W.cell? ⟨N, 0, none⟩ = some (.int .i64 (wd : Int))) (by kernel_rfl) ⟨GA.out, GB.out, T6.out.cw⟩ (fun hHeld => ?_)
 refine' tQ 0 ⟨some 43, .load 23 (.tmp 15), 23, "rings.go:281", #[], none⟩ rfl (by kernel_rfl) (yieldsIf_loadD (by rfl) _ rfl (y) rfl (A) (HA.out) (fun W hW => hW.1)) _
 try simp only [Act.put,nA,nB,nC]
 refine' tQ 1 ⟨some 44, .load 3 (.tmp 7), 3, "rings.go:281", #[], none⟩ rfl (by kernel_rfl) (Or.inl ⟨by rfl, _⟩) _; rotate_left; · (intro s h; (try dsimp only at h); go_simp; try with_reducible rfl)
 try simp only [Act.put,nA,nB,nC]
 refine' tQ 2 ⟨some 45, .load 23 (.tmp 16), 23, "rings.go:281", #[], none⟩ rfl (by kernel_rfl) (yieldsIf_loadD (by rfl) _ rfl ((y + 1)) rfl (B) (HB.out) (fun W hW => hW.2.1)) _
 try simp only [Act.put,nA,nB,nC]
 have T7 := T6.out.drew
 refine wpAnyH_ready (rs := [3]) (by kernel_rfl) (by simp) ?_
 refine AllReadyH.cons (o := ⟨some 46, .call ⟨.value (.func 51), #[.tmp 4, .tmp 5], #[93, 94]⟩, 23, "rings.go:281", #[], none⟩) rfl (fun K hK => ?_) AllReadyH.nil
 (go_simp; (go_at_call 51; refine (next_any _ lim (N + 3) (Q) tv2 32 4 ok2 t2 T7.bt T7.bk (by omega) (by have := T7.lo; omega) (by have := T7.lo; omega) T7.row).mono ?_; rintro e w8 ⟨rfl, tv5, ht5, ho5, hr5, m5⟩; rw [HX.out]))
 refine hK.out _ _ ?_ (fun hHeld => ?_)
 ·exact ⟨m5.heap GA.out (by omega), m5.heap GB.out (by omega), (T7.next ht5 ho5 hr5 m5).cw⟩
 clear hK K
 try simp only [Act.put,nA,nB,nC]
 rw [HOk.out] at ho5
 have T8 := Lib.hid (T7.next ht5 ho5 hr5 m5)
 have M8 : Hid (Mod (fun k => k = N + 3 ∨ k = Q) w w8) := M6.out.drew.then m5
 have P0 := Lib.hid (m5.heap G0.out (by omega))
 have P1 := Lib.hid (m5.heap G1.out (by omega))
 have PA := Lib.hid (m5.heap GA.out (by omega))
 have PB := Lib.hid (m5.heap GB.out (by omega))
 have z8 := m5.size
 clear ht5 ho5 hr5 m5 G0 G1 GA GB T6 M6 T7
 refine wpAnyH_ready (rs := [4]) (by kernel_rfl) (by simp) ?_
 refine AllReadyH.cons (o := ⟨some 47, .call ⟨.value (.func 53), #[.tmp 44, .tmp 45, .tmp 46], #[3, 23, 23]⟩, 23, "rings.go:281", #[⟨1, .data⟩, ⟨2, .data⟩, ⟨3, .data⟩, ⟨3, .chain⟩], none⟩) rfl (fun K hK => ?_) AllReadyH.nil
 (go_simp; (go_at_call 53; refine (knot_any wd B X _ hwd HB.out HXl.out).mono ?_; rintro e w9 ⟨rfl, hb9⟩; rw [HKD.out]))
 refine hK.out _ _ ?_ (fun hHeld => ?_)
 ·exact ⟨heap_below PA.out hb9 (heap_lt PA.out), heap_below PB.out hb9 (heap_lt PB.out), (T8.out.below hb9).cw⟩
 clear hK K
 try simp only [Act.put,nA,nB,nC]
 have T9 := Lib.hid (T8.out.below hb9)
 have M9 : Hid (Mod (fun k => k = N + 3 ∨ k = Q) w w9) := M8.out.then (Mod.of _ hb9)
 have Q0 := Lib.hid (heap_below P0.out hb9 (heap_lt P0.out))
 have Q1 := Lib.hid (heap_below P1.out hb9 (heap_lt P1.out))
 have QA := Lib.hid (heap_below PA.out hb9 (heap_lt PA.out))
 have QB := Lib.hid (heap_below PB.out hb9 (heap_lt PB.out))
 clear hb9 P0 P1 PA PB T8 M8
 refine wpAnyH_ready (rs := [5]) (by kernel_rfl) (by simp) ?_
 refine AllReadyH.cons (o := ⟨none, .store 23 (.tmp 11) (.tmp 43), 0, "rings.go:281", #[⟨0, .data⟩, ⟨4, .chain⟩, ⟨0, .phase⟩, ⟨1, .textOnly .lateStores⟩, ⟨2, .textOnly .lateStores⟩, ⟨3, .textOnly .lateStoresUnsure⟩, ⟨4, .textOnly .lateStoresUnsure⟩], none⟩) rfl (fun K hK => ?_) AllReadyH.nil
 (set_option maxRecDepth 20000 in refine step_of rfl (wp_storeD _ _ rfl x rfl zeros32 A rfl HA.out rfl Q0.out ?_); intro wa ea ba ka za)
 refine hK.out _ _ ?_ (fun hHeld => ?_)
 ·exact ⟨ka.heap QA.out (by omega), ka.heap QB.out (by omega), (T9.out.kept ka (by omega)).cw⟩
 clear hK K
 try simp only [Act.put,nA,nB,nC]
 refine wpAnyH_ready (rs := [6]) (by kernel_rfl) (by simp) ?_
 refine AllReadyH.cons (o := ⟨none, .store 23 (.tmp 12) (.tmp 47), 0, "rings.go:281", #[⟨4, .data⟩, ⟨5, .chain⟩, ⟨0, .phase⟩, ⟨1, .phase⟩, ⟨2, .phase⟩, ⟨3, .phase⟩, ⟨4, .phase⟩, ⟨5, .phase⟩], none⟩) rfl (fun K hK => ?_) AllReadyH.nil
 (set_option maxRecDepth 20000 in refine step_of rfl (wp_storeD _ _ rfl (x + 1) rfl zeros32 KD rfl HKl.out rfl (ka.heap Q1.out (by omega)) ?_); intro wb eb bb kb zb)
 refine hK.out _ _ ?_ (fun hHeld => ?_)
 ·exact ⟨kb.heap (ka.heap QA.out (by omega)) (by omega), kb.heap (ka.heap QB.out (by omega)) (by omega), ((T9.out.kept ka (by omega)).kept kb (by omega)).cw⟩
 clear hK K
 try simp only [Act.put,nA,nB,nC]
 refine wpAnyH_done (by kernel_rfl) ?_ _
 have F0 := Lib.hid (kb.heap ea (by omega))
 have F1 := Lib.hid eb
 have Tb := (T9.out.kept ka (by omega)).kept kb (by omega)
 have Mb := (M9.out.trans (Mod.kept (S := fun k => k = x) ka rfl) (fun i hi e => by omega)).trans (Mod.kept (S := fun k => k = x + 1) kb rfl) (fun i hi e => by omega)
 have Hf : Hid (TwoPost w lim N Q s od wd (A, KD, t2.tail, ok') (.returned (.tuple #[dv A, dv KD])) wb) := ⟨rfl, tv5, Tb, Mb⟩
 clear ea ba ka eb bb kb hHeld Q0 Q1 QA QB T9 M9 Tb Mb
 go_wp2_with fail
 refine bodyPost_ret (v := .tuple #[dv A, dv KD]) ?_ rfl Hf.out
 exact results_DD Try.results50 rfl rfl HA.out HKl.out F0.out F1.out
set_option maxHeartbeats 8000000 in
theorem two_right (lim N Q s : Nat) (od : Dg) (wd m n : Nat) (wh : Bool) (tv : Value) (t : List Dg) (ok : Bool) (w : World) (h : Hid (EB w lim N Q s od wd tv t ok)) (hod : Hid (od.length = 32)) (hn : 2 ≤ n) (hn2 : n ≤ 1048576) (h0 : 1 ≤ m) (hmn : m < n) (hm : ¬ m ≤ halfN n) (hwd : wd ≤ 32)
  (ih : ∀ W, EB W lim N Q s od wd tv t ok → Calls Try.prog 50 #[.int .i64 ((m - halfN n : Nat) : Int), .int .i64 ((n - halfN n : Nat) : Int), .bool false, .pointer (some ⟨N + 1, 0, none⟩), .pointer (some ⟨N + 3, 0, none⟩), .pointer (some ⟨Q, 0, none⟩), .pointer (some ⟨Q + 1, 0, none⟩), .pointer (some ⟨N, 0, none⟩)] W (TwoPost W lim N Q s od wd (twoP wd od (m - halfN n) (n - halfN n) t ok false)))
  (hlen : (twoP wd od (m - halfN n) (n - halfN n) t ok false).1.length = 32 ∧ (twoP wd od (m - halfN n) (n - halfN n) t ok false).2.1.length = 32 ∧ All32 (twoP wd od (m - halfN n) (n - halfN n) t ok false).2.2.1) :
  Calls Try.prog 50 #[.int .i64 (m : Int), .int .i64 (n : Int), .bool wh, .pointer (some ⟨N + 1, 0, none⟩), .pointer (some ⟨N + 3, 0, none⟩), .pointer (some ⟨Q, 0, none⟩), .pointer (some ⟨Q + 1, 0, none⟩), .pointer (some ⟨N, 0, none⟩)] w (TwoPost w lim N Q s od wd (twoP wd od m n t ok wh)) := by
 have hs := half_spec hn
 have hcl := twoP_right wd od m n t ok wh h0 hmn hm
 obtain ⟨k, hk⟩ : ∃ k, halfN n = k := ⟨_, rfl⟩
 rw [hk] at hs hm ih hlen hcl
 obtain ⟨⟨A, B, t2, ok2⟩, hr⟩ : ∃ r, twoP wd od (m - k) (n - k) t ok false = r := ⟨_, rfl⟩
 simp only [hr] at ih
 rw [hr] at hcl hlen
 dsimp only at hcl
 obtain ⟨X, hX⟩ : ∃ X, t2.headD zeros32 = X := ⟨_, rfl⟩
 have hXl : X.length = 32 := by rw [← hX]; exact head_length hlen.2.2
 rw [hX] at hcl
 obtain ⟨KA, hKA⟩ : ∃ KA, knotD wd X A = KA := ⟨_, rfl⟩
 have hKAl : KA.length = 32 := by rw [← hKA]; exact knotD_length _ _ _
 rw [hKA] at hcl
 have HKA := Lib.hid hKA
 have HKAl := Lib.hid hKAl
 obtain ⟨KD, hKD⟩ : ∃ KD, knotD wd X B = KD := ⟨_, rfl⟩
 have hKl : KD.length = 32 := by rw [← hKD]; exact knotD_length _ _ _
 rw [hKD] at hcl
 clear hKA hKAl
 obtain ⟨ok', hok⟩ : ∃ o, (ok2 && !t2.isEmpty) = o := ⟨_, rfl⟩
 rw [hok] at hcl
 rw [hcl]
 have IH := Lib.hid ih
 have HX := Lib.hid hX
 have HXl := Lib.hid hXl
 have HKD := Lib.hid hKD
 have HKl := Lib.hid hKl
 have HOk := Lib.hid hok
 have HK := Lib.hid hk
 have HA : Hid (List.length A = 32) := hlen.1
 have HB : Hid (List.length B = 32) := hlen.2.1
 clear ih hk hX hXl hKD hKl hok hcl hr hlen
 have hbig := h.out.big
 have hgap := h.out.lo
 have hlt : ¬ (m : Int) ≤ (k : Int) := by omega
 have dlt : decide (m ≤ k) = false := decide_eq_false hm
 have dlt2 : decide ((m : Int) ≤ (k : Int)) = false := decide_eq_false hlt
 obtain ⟨mk, hmk⟩ : ∃ mk, m - k = mk := ⟨_, rfl⟩
 obtain ⟨nk, hnk⟩ : ∃ nk, n - k = nk := ⟨_, rfl⟩
 have EI : Hid ((m : Int) - (k : Int) = (mk : Int)) := by show _ = _; omega
 have EN : Hid ((n : Int) - (k : Int) = (nk : Int)) := by show _ = _; omega
 simp only [hmk, hnk] at IH
 have hnk2 : nk + k = n := by omega
 have hmk2 : mk ≤ 1048576 := by omega
 clear hmk hnk
 have n1 : ((m : Int) == (n : Int)) = false := by simp; omega
 have n2 : (m == n) = false := by simp; omega
 obtain ⟨x, hx⟩ : ∃ x, w.heap.size = x := ⟨_, rfl⟩
 rw [hx] at hbig
 go_enter Try.func50, Try.ntmps50
 go_upto_region 0 with fail
 refine wp_region_list ?_
 refine wpList_allocD rfl rfl x hx ?_
 intro w0 e0 b0 z0
 try simp only [Act.put,nA,nB,nC]
 refine wpList_allocD rfl rfl (x + 1) z0 ?_
 intro w1 e1 b1 z1
 try simp only [Act.put,nA,nB,nC]
 have b01 : Below x w w1 := b0.trans (b1.mono (by omega))
 have T1 := Lib.hid (h.out.below (by rw [hx]; exact b01))
 have C0 := Lib.hid (heap_below e0 b1 (by omega))
 have C1 := Lib.hid e1
 have M1 : Hid (Mod (fun k => k = N + 3 ∨ k = Q) w w1) := Mod.of _ (by rw [hx]; exact b01)
 clear e0 b0 z0 e1 b1 b01
 go_upto_region 10 with (go_at_call 52; refine (half_any n _ hn hn2).mono ?_; rintro e w2 ⟨rfl, rfl⟩; rw [HK.out])
 have cu := T1.out.cu
 unfold upE at cu
 have ei := EI.out
 have en := EN.out
 have wi : IntKind.i64.wrap (mk : Int) = (mk : Int) := IntWalk.i64_in _ (by omega)
 have wn : IntKind.i64.wrap (nk : Int) = (nk : Int) := IntWalk.i64_in _ (by omega)
 refine wp_region_list ?_
 iterate 7
  (refine wpList_plain rfl (fun K hK => ?_)); go_simp; refine hK _ _ ?_; clear hK K; try simp only [Act.put,nA,nB,nC]
 refine wpList_plain rfl (fun K hK => ?_)
 go_simp
 refine (IH.out _ T1.out).mono ?_; rintro e w2 ⟨rfl, tv2, T2, M2⟩; dsimp only
 refine hK _ _ ?_
 clear hK K
 try simp only [Act.put,nA,nB,nC]
 have D0 := Lib.hid (M2.heap C0.out (by omega))
 have D1 := Lib.hid (M2.heap C1.out (by omega))
 have MM2 : Hid (Mod (fun k => k = N + 3 ∨ k = Q) w w2) := M1.out.then M2
 have z2 := M2.size
 rw [z1] at z2
 have TT2 := Lib.hid T2
 clear T2 M2 C0 C1 M1 T1 cu IH ei en wi wn
 obtain ⟨y, hy⟩ : ∃ y, w2.heap.size = y := ⟨_, rfl⟩
 rw [hy] at z2
 iterate 3
  (refine wpList_plain rfl (fun K hK => ?_)); go_simp; refine hK _ _ ?_; clear hK K; try simp only [Act.put,nA,nB,nC]
 refine wpList_allocD rfl rfl y hy ?_
 intro w3 e3 b3 z3
 try simp only [Act.put,nA,nB,nC]
 refine wpList_allocD rfl rfl (y + 1) z3 ?_
 intro w4 e4 b4 z4
 try simp only [Act.put,nA,nB,nC]
 refine wpList_storeD rfl _ _ rfl y rfl zeros32 A rfl HA.out rfl (heap_below e3 b4 (by omega)) ?_
 intro w5 e5 b5 k5 z5
 try simp only [Act.put,nA,nB,nC]
 refine wpList_storeD rfl _ _ rfl (y + 1) rfl zeros32 B rfl HB.out rfl (k5.heap e4 (by omega)) ?_
 intro w6 e6 b6 k6 z6
 try simp only [Act.put,nA,nB,nC]
 have b26 : Below y w2 w6 := ((b3.trans (b4.mono (by omega))).trans b5).trans (b6.mono (by omega))
 have G0 := Lib.hid (heap_below D0.out b26 (by omega))
 have G1 := Lib.hid (heap_below D1.out b26 (by omega))
 have GA := Lib.hid (k6.heap e5 (by omega))
 have GB := Lib.hid e6
 have T6 := Lib.hid (TT2.out.below (by rw [hy]; exact b26))
 have M6 : Hid (Mod (fun k => k = N + 3 ∨ k = Q) w w6) := MM2.out.then (Mod.of _ (by rw [hy]; exact b26))
 clear e3 b3 e4 b4 z4 e5 b5 k5 z5 e6 b6 k6 z6 b26 D0 D1 TT2 MM2 z3
 go_upto_region 11 with fail
 refine wp_region_list ?_
 refine wpList_plain rfl (fun K hK => ?_)
 go_simp
 refine (next_any w6 lim (N + 3) (Q) tv2 32 4 ok2 t2 T6.out.bt T6.out.bk (by omega) (by have := T6.out.lo; omega) (by have := T6.out.lo; omega) T6.out.row).mono ?_; rintro e w8 ⟨rfl, tv5, ht5, ho5, hr5, m5⟩; rw [HX.out]
 refine hK _ _ ?_
 clear hK K
 try simp only [Act.put,nA,nB,nC]
 rw [HOk.out] at ho5
 have T8 := Lib.hid (T6.out.next ht5 ho5 hr5 m5)
 have M8 : Hid (Mod (fun k => k = N + 3 ∨ k = Q) w w8) := M6.out.then m5
 have P0 := Lib.hid (m5.heap G0.out (by omega))
 have P1 := Lib.hid (m5.heap G1.out (by omega))
 have PA := Lib.hid (m5.heap GA.out (by omega))
 have PB := Lib.hid (m5.heap GB.out (by omega))
 have z8 := m5.size
 have hz6 : y + 2 ≤ w6.heap.size := heap_lt GB.out
 clear ht5 ho5 hr5 m5 G0 G1 GA GB T6 M6
 obtain ⟨u, hu⟩ : ∃ u, w8.heap.size = u := ⟨_, rfl⟩
 rw [hu] at z8
 refine wpList_allocD rfl rfl u hu ?_
 intro wc ec bc zc
 try simp only [Act.put,nA,nB,nC]
 refine wpList_storeD rfl _ _ rfl u rfl zeros32 X rfl HXl.out rfl ec ?_
 intro w7 e7 b7 k7 z7
 try simp only [Act.put,nA,nB,nC]
 have b87 : Below u w8 w7 := bc.trans b7
 have R0 := Lib.hid (heap_below P0.out b87 (by omega))
 have R1 := Lib.hid (heap_below P1.out b87 (by omega))
 have RA := Lib.hid (heap_below PA.out b87 (by omega))
 have RB := Lib.hid (heap_below PB.out b87 (by omega))
 have RX := Lib.hid e7
 have T7 := Lib.hid (T8.out.below (by rw [hu]; exact b87))
 have M7 : Hid (Mod (fun k => k = N + 3 ∨ k = Q) w w7) := M8.out.then (Mod.of _ (by rw [hu]; exact b87))
 clear ec bc zc e7 b7 k7 z7 b87 P0 P1 PA PB T8 M8
 go_upto_region 12 with fail
 refine wp_region_held_drew (S := fun W => DB W y A ∧ DB W (y + 1) B ∧ DB W u X ∧ W.cell? ⟨N, 0, none⟩ = some (.int .i64 (wd : Int))) (by kernel_rfl) ⟨RA.out, RB.out, RX.out, T7.out.cw⟩ (fun hHeld => ?_)
 refine' tQ 0 ⟨some 60, .load 3 (.tmp 7), 3, "rings.go:285", #[], none⟩ rfl (by kernel_rfl) (Or.inl ⟨by rfl, _⟩) _; rotate_left; · (intro s h; (try dsimp only at h); go_simp; try with_reducible rfl)
 try simp only [Act.put,nA,nB,nC]
 refine' tQ 1 ⟨some 61, .load 23 (.tmp 19), 23, "rings.go:285", #[], none⟩ rfl (by kernel_rfl) (yieldsIf_loadD (by rfl) _ rfl (u) rfl (X) (HXl.out) (fun W hW => hW.2.2.1)) _
 try simp only [Act.put,nA,nB,nC]
 refine' tQ 2 ⟨some 62, .load 23 (.tmp 17), 23, "rings.go:285", #[], none⟩ rfl (by kernel_rfl) (yieldsIf_loadD (by rfl) _ rfl (y) rfl (A) (HA.out) (fun W hW => hW.1)) _
 try simp only [Act.put,nA,nB,nC]
 refine' tQ 4 ⟨some 64, .load 3 (.tmp 7), 3, "rings.go:285", #[], none⟩ rfl (by kernel_rfl) (Or.inl ⟨by rfl, _⟩) _; rotate_left; · (intro s h; (try dsimp only at h); go_simp; try with_reducible rfl)
 try simp only [Act.put,nA,nB,nC]
 refine' tQ 5 ⟨some 65, .load 23 (.tmp 19), 23, "rings.go:285", #[], none⟩ rfl (by kernel_rfl) (yieldsIf_loadD (by rfl) _ rfl (u) rfl (X) (HXl.out) (fun W hW => hW.2.2.1)) _
 try simp only [Act.put,nA,nB,nC]
 refine' tQ 6 ⟨some 66, .load 23 (.tmp 18), 23, "rings.go:285", #[], none⟩ rfl (by kernel_rfl) (yieldsIf_loadD (by rfl) _ rfl ((y + 1)) rfl (B) (HB.out) (fun W hW => hW.2.1)) _
 try simp only [Act.put,nA,nB,nC]
 refine wpAnyH_ready (rs := [3]) (by kernel_rfl) (by simp) ?_
 refine AllReadyH.cons (o := ⟨some 63, .call ⟨.value (.func 53), #[.tmp 60, .tmp 61, .tmp 62], #[3, 23, 23]⟩, 23, "rings.go:285", #[⟨0, .data⟩, ⟨1, .data⟩, ⟨2, .data⟩], none⟩) rfl (fun K hK => ?_) AllReadyH.nil
 (go_simp; (go_at_call 53; refine (knot_any wd X A _ hwd HXl.out HA.out).mono ?_; rintro e w9 ⟨rfl, hb9'⟩; rw [HKA.out]; have hb9 : Below w7.heap.size w7 w9 := Below.trans (Below.refl _ _).drew hb9'))
 refine hK.out _ _ ?_ (fun hHeld => ?_)
 ·exact ⟨heap_below RA.out hb9 (heap_lt RA.out), heap_below RB.out hb9 (heap_lt RB.out), heap_below RX.out hb9 (heap_lt RX.out), (T7.out.below hb9).cw⟩
 clear hK K
 try simp only [Act.put,nA,nB,nC]
 have T9 := Lib.hid (T7.out.below hb9)
 have M9 : Hid (Mod (fun k => k = N + 3 ∨ k = Q) w w9) := M7.out.then (Mod.of _ hb9)
 have Q0 := Lib.hid (heap_below R0.out hb9 (heap_lt R0.out))
 have Q1 := Lib.hid (heap_below R1.out hb9 (heap_lt R1.out))
 have QA := Lib.hid (heap_below RA.out hb9 (heap_lt RA.out))
 have QB := Lib.hid (heap_below RB.out hb9 (heap_lt RB.out))
 have QX := Lib.hid (heap_below RX.out hb9 (heap_lt RX.out))
 clear hb9 hb9' R0 R1 RA RB RX T7 M7
 refine wpAnyH_ready (rs := [7]) (by kernel_rfl) (by simp) ?_
 refine AllReadyH.cons (o := ⟨some 67, .call ⟨.value (.func 53), #[.tmp 64, .tmp 65, .tmp 66], #[3, 23, 23]⟩, 23, "rings.go:285", #[⟨4, .data⟩, ⟨5, .data⟩, ⟨6, .data⟩, ⟨3, .chain⟩], none⟩) rfl (fun K hK => ?_) AllReadyH.nil
 (go_simp; (go_at_call 53; refine (knot_any wd X B _ hwd HXl.out HB.out).mono ?_; rintro e wj ⟨rfl, hbj⟩; rw [HKD.out]))
 refine hK.out _ _ ?_ (fun hHeld => ?_)
 ·exact ⟨heap_below QA.out hbj (heap_lt QA.out), heap_below QB.out hbj (heap_lt QB.out), heap_below QX.out hbj (heap_lt QX.out), (T9.out.below hbj).cw⟩
 clear hK K
 try simp only [Act.put,nA,nB,nC]
 have Tj := Lib.hid (T9.out.below hbj)
 have Mj : Hid (Mod (fun k => k = N + 3 ∨ k = Q) w wj) := M9.out.then (Mod.of _ hbj)
 have J0 := Lib.hid (heap_below Q0.out hbj (heap_lt Q0.out))
 have J1 := Lib.hid (heap_below Q1.out hbj (heap_lt Q1.out))
 have JA := Lib.hid (heap_below QA.out hbj (heap_lt QA.out))
 have JB := Lib.hid (heap_below QB.out hbj (heap_lt QB.out))
 have JX := Lib.hid (heap_below QX.out hbj (heap_lt QX.out))
 clear hbj Q0 Q1 QA QB QX T9 M9
 refine wpAnyH_ready (rs := [8]) (by kernel_rfl) (by simp) ?_
 refine AllReadyH.cons (o := ⟨none, .store 23 (.tmp 11) (.tmp 63), 0, "rings.go:285", #[⟨3, .data⟩, ⟨7, .chain⟩, ⟨0, .phase⟩, ⟨1, .phase⟩, ⟨2, .phase⟩, ⟨3, .phase⟩, ⟨4, .textOnly .lateStores⟩, ⟨5, .textOnly .lateStores⟩, ⟨6, .textOnly .lateStores⟩, ⟨7, .textOnly .lateStoresUnsure⟩], none⟩) rfl (fun K hK => ?_) AllReadyH.nil
 (set_option maxRecDepth 20000 in refine step_of rfl (wp_storeD _ _ rfl x rfl zeros32 KA rfl HKAl.out rfl J0.out ?_); intro wa ea ba ka za)
 refine hK.out _ _ ?_ (fun hHeld => ?_)
 ·exact ⟨ka.heap JA.out (by omega), ka.heap JB.out (by omega), ka.heap JX.out (by omega), (Tj.out.kept ka (by omega)).cw⟩
 clear hK K
 try simp only [Act.put,nA,nB,nC]
 refine wpAnyH_ready (rs := [9]) (by kernel_rfl) (by simp) ?_
 refine AllReadyH.cons (o := ⟨none, .store 23 (.tmp 12) (.tmp 67), 0, "rings.go:285", #[⟨7, .data⟩, ⟨8, .chain⟩, ⟨0, .phase⟩, ⟨1, .phase⟩, ⟨2, .phase⟩, ⟨3, .phase⟩, ⟨4, .phase⟩, ⟨5, .phase⟩, ⟨6, .phase⟩, ⟨7, .phase⟩, ⟨8, .phase⟩], none⟩) rfl (fun K hK => ?_) AllReadyH.nil
 (set_option maxRecDepth 20000 in refine step_of rfl (wp_storeD _ _ rfl (x + 1) rfl zeros32 KD rfl HKl.out rfl (ka.heap J1.out (by omega)) ?_); intro wb eb bb kb zb)
 refine hK.out _ _ ?_ (fun hHeld => ?_)
 ·exact ⟨kb.heap (ka.heap JA.out (by omega)) (by omega), kb.heap (ka.heap JB.out (by omega)) (by omega), kb.heap (ka.heap JX.out (by omega)) (by omega), ((Tj.out.kept ka (by omega)).kept kb (by omega)).cw⟩
 clear hK K
 try simp only [Act.put,nA,nB,nC]
 refine wpAnyH_done (by kernel_rfl) ?_ _
 have F0 := Lib.hid (kb.heap ea (by omega))
 have F1 := Lib.hid eb
 have Tb := (Tj.out.kept ka (by omega)).kept kb (by omega)
 have Mb := (Mj.out.trans (Mod.kept (S := fun k => k = x) ka rfl) (fun i hi e => by omega)).trans (Mod.kept (S := fun k => k = x + 1) kb rfl) (fun i hi e => by omega)
 have Hf : Hid (TwoPost w lim N Q s od wd (KA, KD, t2.tail, ok') (.returned (.tuple #[dv KA, dv KD])) wb) := ⟨rfl, tv5, Tb, Mb⟩
 clear ea ba ka eb bb kb hHeld J0 J1 JA JB JX Tj Mj Tb Mb
 go_wp2_with fail
 refine bodyPost_ret (v := .tuple #[dv KA, dv KD]) ?_ rfl Hf.out
 exact results_DD Try.results50 rfl rfl HKAl.out HKl.out F0.out F1.out
theorem twoP_len (wd : Nat) (od : Dg) (hod : od.length = 32) : ∀ (n m : Nat) (t : List Dg) (ok wh : Bool), 1 ≤ m → m ≤ n → All32 t → (twoP wd od m n t ok wh).1.length = 32 ∧ (twoP wd od m n t ok wh).2.1.length = 32 ∧ All32 (twoP wd od m n t ok wh).2.2.1 := by
 intro n
 induction n using Nat.strongRecOn with
 | _ n ih =>
  intro m t ok wh h0 hm ht
  have tl : ∀ l : List Dg, All32 l → All32 l.tail := fun l h x hx => h x (List.mem_of_mem_tail hx)
  by_cases h1 : m = n
  ·subst h1
   cases wh
   ·rw [twoP_part wd od m t ok h0]
    exact ⟨head_length ht, head_length ht, tl _ ht⟩
   ·rw [twoP_whole wd od m t ok h0]
    exact ⟨hod, hod, ht⟩
  ·have hs := half_spec (n := n) (by omega)
   by_cases hi : m ≤ halfN n
   ·rw [twoP_left wd od m n t ok wh h0 (by omega) hi]
    obtain ⟨e1, e2, e3⟩ := ih (halfN n) (by omega) m t ok wh h0 hi ht
    exact ⟨e1, knotD_length _ _ _, tl _ e3⟩
   ·rw [twoP_right wd od m n t ok wh h0 (by omega) hi]
    obtain ⟨e1, e2, e3⟩ := ih (n - halfN n) (by omega) (m - halfN n) t ok false (by omega) (by omega) ht
    exact ⟨knotD_length _ _ _, knotD_length _ _ _, tl _ e3⟩
theorem twoC_any (lim N Q s : Nat) (od : Dg) (wd : Nat) (hod : Hid (od.length = 32)) (hwd : wd ≤ 32) : ∀ (n m : Nat) (wh : Bool) (tv : Value) (t : List Dg) (ok : Bool) (w : World), EB w lim N Q s od wd tv t ok → 1 ≤ m → m ≤ n → n ≤ 1048576 →
  Calls Try.prog 50 #[.int .i64 (m : Int), .int .i64 (n : Int), .bool wh, .pointer (some ⟨N + 1, 0, none⟩), .pointer (some ⟨N + 3, 0, none⟩), .pointer (some ⟨Q, 0, none⟩), .pointer (some ⟨Q + 1, 0, none⟩), .pointer (some ⟨N, 0, none⟩)] w (TwoPost w lim N Q s od wd (twoP wd od m n t ok wh)) := by
 intro n
 induction n using Nat.strongRecOn with
 | _ n ih =>
  intro m wh tv t ok w h h0 hm hn
  by_cases h1 : m = n
  ·subst h1
   cases wh
   ·rw [twoP_part wd od m t ok h0]
    exact two_part lim N Q s od wd m tv t ok w h hod
   ·rw [twoP_whole wd od m t ok h0]
    exact two_whole lim N Q s od wd m tv t ok w h hod
  ·have hs := half_spec (n := n) (by omega)
   by_cases hik : m ≤ halfN n
   ·exact two_left lim N Q s od wd m n wh tv t ok w h hod (by omega) hn h0 (by omega) hik hwd (fun W hW => ih (halfN n) (by omega) m wh tv t ok W hW h0 hik (by omega)) (twoP_len wd od hod.out _ _ t ok wh h0 hik h.row.1)
   ·exact two_right lim N Q s od wd m n wh tv t ok w h hod (by omega) hn h0 (by omega) hik hwd (fun W hW => ih (n - halfN n) (by omega) (m - halfN n) false tv t ok W hW (by omega) (by omega) (by omega)) (twoP_len wd od hod.out _ _ t ok false (by omega) (by omega) h.row.1)
end Go.Proofs.Ytihbhpggpnmifaa
