/-
 keptDigests writes over one block alone.
-/
import Derived.Test.YtihbhpggpnmifaaGS
import Derived.Test.YtihbhpggpnmifaaGX
import Derived.Test.YtihbhpggpnmifaaHL
set_option linter.unusedSimpArgs false
set_option linter.unusedVariables false
namespace Go.Proofs.Ytihbhpggpnmifaa
open Go.RowKit Go.Lib Hw
set_option maxHeartbeats 2000000 in
theorem keptDigests_m (g cap : Nat) (v : Value) (l : List Dg) (w : World) (B lim : Nat) (ho : Hid (OwnR w B (.slice (some ⟨g, 0, none⟩) (l.length + 1) cap) (l ++ [mark7]))) (hd : Hid (DRow w lim v l)) (hlim : lim ≤ B) (hB : B ≤ w.heap.size) (n0 : Nat) (hl : l.length * 32 ≤ 140737488351232) :
  Calls Try.prog 19 #[.slice (some ⟨g, 0, none⟩) n0 cap, v] w fun e w' => e = .returned (.bool true) ∧ Mod (fun k => k = g) w w' := by
 have hcap := ho.out.cap.2
 have hgB := ho.out.lt g rfl
 rw [List.length_append, List.length_singleton] at hcap
 have hA : Hid (All32 l) := hd.out.1
 obtain ⟨_, ad, c, rfl, hc1, hc2, _⟩ := hd.out
 have HO : Hid (OwnR w B (.slice (some ⟨g, 0, none⟩) (l.length + 1) cap) (keptL l 0)) := ho
 clear ho
 go_enter Try.func19, Try.ntmps19
 go_upto_region 2 with fail
 refine wp_region_list ?_
 have ik : (l.length : Int) < ((l.length + 1 : Nat) : Int) := by omega
 have ik2 : (l.length : Int) < (l.length : Int) + 1 := by omega
 iterate 4
  (with_reducible refine wpList_plain rfl ?_); intro K hK; go_simp; (with_reducible refine hK _ _ ?_); clear hK K; try simp only [Act.put,nA,nB,nC]
 have e7 : (mark7 == mark7) = true := by decide
 have hq := eqD mark7 mark7 rfl rfl
 rw [e7] at hq
 have hq2 : ∀ w : World, (binOp .eql 23 (dv mark7) (.agg (mark7.map bv).toArray)).run Try.prog w = .ok (.bool true) w := hq
 have hqg : ∀ (x y : Operand) (w : World), (eqGuard .eql 23 x y (dv mark7) (.agg (mark7.map bv).toArray)).run Try.prog w = .ok () w := eqGuardD mark7 mark7
 set_option maxRecDepth 20000 in
 refine wpList_loadR rfl _ rfl HO.out (keptL_all hA.out 0) l.length (by rw [keptL_len _ _ (by omega)]; omega) mark7 (keptL_end l _) rfl ?_
 try simp only [Act.put,nA,nB,nC]
 refine wpList_built rfl 23 _ rfl _ (by simp; rfl) _ built_7 ?_
 try simp only [Act.put,nA,nB,nC]
 iterate 2
  (with_reducible refine wpList_plain rfl ?_); intro K hK; go_simp; (with_reducible refine hK _ _ ?_); clear hK K; try simp only [Act.put,nA,nB,nC]
 clear hq hq2 hqg
 go_wp2_with fail
 go_loopw [6, 7] (fun okv i wr => ∃ (k : Nat), k ≤ l.length ∧ okv = .bool true ∧ Hid (OwnR wr B (.slice (some ⟨g, 0, none⟩) (l.length + 1) cap) (keptL l k)) ∧ Hid (Mod (fun k => k = g) w wr) ∧ i = .int .i64 (k : Int)) (fun _ i _ => l.length - (intOf i).toNat)
 case atStart => exact ⟨0, Nat.zero_le _, rfl, HO, Mod.refl _ _, rfl⟩
 case round =>
  obtain ⟨k, hk, rfl, HO, HB, rfl⟩ := hrel
  by_cases hlt : k < l.length
  ·have dk : decide (k < l.length) = true := decide_eq_true hlt
   have dk2 : decide ((k : Int) < (l.length : Int)) = true := decide_eq_true (by omega)
   have ik : (k : Int) < (l.length : Int) := by omega
   have ik2 : (k : Int) < ((l.length + 1 : Nat) : Int) := by omega
   have ik3 : (k : Int) < (l.length : Int) + 1 := by omega
   have hd2 : Hid (DRow wr lim (.slice ad l.length c) l) := hd.out.mod HB.out (fun k hk e => by have := hgB.1; omega)
   obtain ⟨_, ad', c', e9, _, _, hr⟩ := hd2.out
   obtain ⟨b, o, e8, _, _, hr2⟩ := hr (by omega)
   simp only [Value.slice.injEq] at e9
   have e91 := e9.1
   clear e9
   rw [e8] at e91
   subst e91
   obtain ⟨m, hm⟩ : ∃ m, l[k] = m := ⟨_, rfl⟩
   have hml : m.length = 32 := by rw [← hm]; exact hA.out _ (List.getElem_mem hlt)
   have hr3 := hr2 k hlt
   rw [hm] at hr3
   have hkl : k < (keptL l k).length := by rw [keptL_len _ _ hk]; omega
   have hg3 := HO.out.range (keptL_all hA.out k) k hkl
   rw [keptL_at l k hlt, hm] at hg3
   have HML := Lib.hid hml
   have HKL := Lib.hid hkl
   have H3 := Lib.hid (And.intro hr3 hg3)
   clear hr3 hg3 hr2 hr e8 hm hml hkl
   have hq := eqD m m HML.out HML.out
   rw [beq_self_eq_true] at hq
   have hqg := eqGuardD m m
   go_upto_region 6 with fail
   refine wp_region_held_drew (S := fun W => W.rangeAt b (o + k * 32) (m.map bv) ∧ W.rangeAt g (k * 32) (m.map bv)) (by kernel_rfl) H3.out (fun hHeld => ?_)
   refine' tQ 0 ⟨some 26, .move (.tmp 6), 4, "law.go:63", #[], none⟩ rfl (by kernel_rfl) (Or.inl ⟨by rfl, _⟩) _; rotate_left; · (intro s h; (try dsimp only at h); go_simp; try with_reducible rfl)
   try simp only [Act.put,nA,nB,nC]
   refine' tQ 1 ⟨some 27, .move (.tmp 26), 4, "law.go:63", #[⟨0, .data⟩], none⟩ rfl (by kernel_rfl) (Or.inl ⟨by rfl, _⟩) _; rotate_left; · (intro s h; (try dsimp only at h); go_simp; try with_reducible rfl)
   try simp only [Act.put,nA,nB,nC]
   refine' tQ 2 ⟨some 28, .move (.tmp 5), 32, "law.go:63", #[⟨1, .guard⟩], some (1, true)⟩ rfl (by kernel_rfl) (Or.inl ⟨by rfl, _⟩) _; rotate_left; · (intro s h; (try dsimp only at h); go_simp; try with_reducible rfl)
   try simp only [Act.put,nA,nB,nC]
   refine' tQ 3 ⟨some 29, .move (.tmp 7), 3, "law.go:63", #[⟨1, .guard⟩], some (1, true)⟩ rfl (by kernel_rfl) (Or.inl ⟨by rfl, _⟩) _; rotate_left; · (intro s h; (try dsimp only at h); go_simp; try with_reducible rfl)
   try simp only [Act.put,nA,nB,nC]
   refine' tQ 4 ⟨some 30, .indexAddr 32 (.tmp 28) (.tmp 29), 0, "law.go:63", #[⟨2, .data⟩, ⟨3, .data⟩, ⟨1, .guard⟩], some (1, true)⟩ rfl (by kernel_rfl) (Or.inl ⟨by rfl, _⟩) _; rotate_left; · (intro s h; (try dsimp only at h); go_simp; try with_reducible rfl)
   try simp only [Act.put,nA,nB,nC]
   refine' tQ 5 ⟨some 31, .load 23 (.tmp 30), 23, "law.go:63", #[⟨4, .data⟩, ⟨1, .guard⟩], some (1, true)⟩ rfl (by kernel_rfl) (yieldsIf_loadRng (by rfl) _ rfl g (k * 32) rfl m HML.out (fun W hW => hW.2)) _
   try simp only [Act.put,nA,nB,nC]
   refine' tQ 6 ⟨some 32, .move (.tmp 1), 32, "law.go:63", #[⟨1, .guard⟩], some (1, true)⟩ rfl (by kernel_rfl) (Or.inl ⟨by rfl, _⟩) _; rotate_left; · (intro s h; (try dsimp only at h); go_simp; try with_reducible rfl)
   try simp only [Act.put,nA,nB,nC]
   refine' tQ 7 ⟨some 33, .move (.tmp 7), 3, "law.go:63", #[⟨1, .guard⟩], some (1, true)⟩ rfl (by kernel_rfl) (Or.inl ⟨by rfl, _⟩) _; rotate_left; · (intro s h; (try dsimp only at h); go_simp; try with_reducible rfl)
   try simp only [Act.put,nA,nB,nC]
   refine' tQ 8 ⟨some 34, .indexAddr 32 (.tmp 32) (.tmp 33), 0, "law.go:63", #[⟨6, .data⟩, ⟨7, .data⟩, ⟨1, .guard⟩], some (1, true)⟩ rfl (by kernel_rfl) (Or.inl ⟨by rfl, _⟩) _; rotate_left; · (intro s h; (try dsimp only at h); go_simp; try with_reducible rfl)
   try simp only [Act.put,nA,nB,nC]
   refine' tQ 9 ⟨some 35, .load 23 (.tmp 34), 23, "law.go:63", #[⟨8, .data⟩, ⟨1, .guard⟩], some (1, true)⟩ rfl (by kernel_rfl) (yieldsIf_loadRng (by rfl) _ rfl b (o + k * 32) rfl m HML.out (fun W hW => hW.1)) _
   try simp only [Act.put,nA,nB,nC]
   refine' tQ 10 ⟨some 36, .binOp .eql 23 (.tmp 31) (.tmp 35) 23, 4, "law.go:63", #[⟨5, .data⟩, ⟨9, .data⟩, ⟨1, .guard⟩], some (1, true)⟩ rfl (by kernel_rfl) (Or.inl ⟨by rfl, _⟩) _; rotate_left; · (intro s h; (try dsimp only at h); go_simp; try with_reducible rfl)
   try simp only [Act.put,nA,nB,nC]
   refine' tQ 11 ⟨some 37, .pick (.tmp 27) (.tmp 36) (.const (.bool false)), 4, "law.go:63", #[⟨1, .data⟩, ⟨10, .data⟩], none⟩ rfl (by kernel_rfl) (Or.inl ⟨by rfl, _⟩) _; rotate_left; · (intro s h; (try dsimp only at h); go_simp; try with_reducible rfl)
   try simp only [Act.put,nA,nB,nC]
   refine' tQ 12 ⟨some 6, .assign (.tmp 37), 4, "law.go:63", #[⟨11, .data⟩, ⟨1, .chain⟩, ⟨0, .phase⟩, ⟨1, .phase⟩, ⟨2, .phase⟩, ⟨3, .phase⟩, ⟨4, .phase⟩, ⟨5, .phase⟩, ⟨6, .phase⟩, ⟨7, .phase⟩, ⟨8, .phase⟩, ⟨9, .phase⟩, ⟨10, .phase⟩, ⟨11, .phase⟩], none⟩ rfl (by kernel_rfl) (Or.inl ⟨by rfl, _⟩) _; rotate_left; · (intro s h; (try dsimp only at h); go_simp; try with_reducible rfl)
   try simp only [Act.put,nA,nB,nC]
   refine wpAnyH_done (by kernel_rfl) ?_ _
   clear hq hqg hHeld
   go_upto_region 7 with fail
   refine wp_region_list ?_
   iterate 2
    (with_reducible refine wpList_plain rfl ?_); intro K hK; go_simp; (with_reducible refine hK _ _ ?_); clear hK K; try simp only [Act.put,nA,nB,nC]
   refine wpList_built rfl 23 _ rfl _ (by simp; rfl) _ built_9 ?_
   try simp only [Act.put,nA,nB,nC]
   (with_reducible refine wpList_plain rfl ?_); intro K hK; go_simp; (with_reducible refine hK _ _ ?_); clear hK K; try simp only [Act.put,nA,nB,nC]
   set_option maxRecDepth 20000 in
   refine wpList_storeR rfl _ _ rfl (HO.out.drew : OwnR wr.drew B _ _) (keptL_all hA.out k) k HKL.out rfl mark9 mark9_len rfl ?_
   intro w2 ho2 hk2 hz2
   try simp only [Act.put,nA,nB,nC]
   rw [keptL_set l k hlt] at ho2
   have HO2 := Lib.hid ho2
   have HB2 : Hid (Mod (fun k => k = g) w w2) := HB.out.drew.then (Mod.kept hk2 rfl)
   clear ho2 hk2 hz2
   go_wp2_with fail
   exact ⟨⟨k + 1, by omega, rfl, HO2, HB2, by go_num⟩, by simp [intOf]; omega⟩
  ·have dk : decide (k < l.length) = false := decide_eq_false hlt
   have dk2 : decide ((k : Int) < (l.length : Int)) = false := decide_eq_false (by omega)
   go_wp2_with fail
   go_ret
   exact ⟨rfl, HB.out⟩
end Go.Proofs.Ytihbhpggpnmifaa
namespace Go.Proofs.Ytihbhpggpnmifaa
open Go.RowKit Go.Lib Hw
def LaidPost (w : World) (q off : Nat) (cs : List Value) (B p b : Nat) (lv rv : Value) (wd : Nat) (e : Ending) (w' : World) : Prop :=
 e = .returned (.bool true) ∧ ∃ lv' rv' L', PR w' q off (cs.set (off + 2) rv') B p b lv' rv' wd L' ∧ Mod (fun k => k = q ∨ k = p ∨ lv.ownBlock = some k ∨ rv.ownBlock = some k) w w' ∧
  (∀ k, lv'.ownBlock = some k → lv.ownBlock = some k ∨ w.heap.size ≤ k) ∧ (∀ k, rv'.ownBlock = some k → rv.ownBlock = some k ∨ w.heap.size ≤ k)
theorem set_same (cs : List Value) (i : Nat) (v : Value) (h : cs[i]? = some v) : cs.set i v = cs := by
 apply List.ext_getElem?
 intro k
 by_cases e : i = k
 ·subst e
  rw [List.getElem?_set_self (List.getElem?_eq_some_iff.1 h).1, h]
 ·rw [List.getElem?_set_ne e]
theorem lent_rowD {w : World} {B g c : Nat} {l : List Dg} (h : OwnR w B (.slice (some ⟨g, 0, none⟩) (l.length + 1) c) (l ++ [mark7])) (hA : All32 l) (hl : l.length * 32 ≤ 140737488351232) : DRow w w.heap.size (.slice (some ⟨g, 0, none⟩) l.length c) l := by
 have h1 : (l ++ [mark7]).length = l.length + 1 := by simp
 have h2 : OwnR w B (.slice (some ⟨g, 0, none⟩) (l ++ [mark7]).length c) (l ++ [mark7]) := by rw [h1]; exact h
 have h3 := (h2.drow (hA.app (fun d hd => by rw [List.mem_singleton.1 hd]; exact mark7_len)) (by omega)).take l.length (by omega)
 rwa [List.take_left' rfl] at h3
section
variable {o : Oper} {a : Act} {w : World} {K : Act → World → Prop} {Q : Exit → Act → World → Prop}
theorem wp_appDR (s x : Operand) (ho : o.op = .call { callee := .builtin .append, args := #[s, x], argTypes := #[32, 32] })
  (B : Nat) (v u : Value) (ys xs : List Dg) (lim : Nat) (hs : a.eval s = v) (hown : OwnR w B v ys) (hx : a.eval x = u) (hnil : NilOk u) (hd : DRow w lim u xs) (hlen : (ys.length + xs.length) * 32 ≤ 140737488355328) (hB : B ≤ w.heap.size)
  (h : ∀ v' w', OwnR w' B v' (ys ++ xs) → w.grownBy w' v.ownBlock → (v'.ownBlock = v.ownBlock ∨ v'.ownBlock = some w.heap.size) → K (a.put o.dst v') w') : o.wp Try.prog a w K Q := by
 obtain ⟨i, hi, hz0, hz1, hz2⟩ := info_parts infoR
 obtain ⟨hA, ad, c, rfl, hc1, hc2, hc3⟩ := hd
 cases ad with
 | none =>
  have h0 : xs.length = 0 := by
   rcases Nat.eq_zero_or_pos xs.length with h0 | h0
   ·exact h0
   ·obtain ⟨b, o, e, _⟩ := hc3 h0
    cases e
  obtain rfl : xs = [] := List.eq_nil_of_length_eq_zero h0
  rw [List.append_nil] at h
  obtain rfl : c = 0 := by
   have := hnil rfl
   simpa using this
  have hrun := run_append_owned_none (P := Try.prog) (w := w) B 32 o.type 23 i 32 Try.underlying32 hi v ys.length (rowV ys) hown
  unfold Oper.wp
  simp [execOp, ho, resolve, invoke, builtin, hs, hx, hrun, Result.andThen]
  exact h _ _ hown ⟨rfl, rfl, rfl, Nat.le_refl _, fun _ _ _ => rfl⟩ (.inl rfl)
 | some ad =>
  obtain ⟨v', w', hr, h1, h2, h3, h4⟩ := run_append_own_at (P := Try.prog) w B 32 o.type 23 i (dv zeros32) 32 32 Try.underlying32 hi hz0 hz1 hz2 rfl (by decide) v ys.length (rowV ys) hown ad xs.length c (rowV xs) (rowV_len hA) (by
   intro j u hu
   have hjl : j < xs.length * 32 := by
    rcases Nat.lt_or_ge j (rowV xs).length with h1 | h1
    ·rw [rowV_len hA] at h1; exact h1
    ·rw [List.getElem?_eq_none h1] at hu; cases hu
   obtain ⟨b, o, e, _, _, hr⟩ := hc3 (by omega)
   cases e
   have hq := hr (j / 32) (by omega) (j % 32) u (by
    rw [← rowV_at hA (j / 32) (by omega) (j % 32) (Nat.mod_lt _ (by decide)), Nat.div_add_mod' j 32]
    exact hu)
   have e2 : o + j / 32 * 32 + j % 32 = o + j := by omega
   rw [e2] at hq
   have e3 : (⟨b, o, none⟩ : Addr).add j = ⟨b, o + j, none⟩ := Addr.add_mid b o j
   exact (congrArg w.cell? e3).trans hq) (rowV_one xs) (by rw [maxLen_eq]; omega) hlen hB
  unfold Oper.wp execOp
  simp only [ho, resolve, invoke, builtin, Sem.run_bind, Sem.run_pure, Result.andThen_ok, List.map_toArray, List.map_cons, List.map_nil, hs, hx, hr]
  refine h v' w' ?_ h2 h4
  unfold OwnR
  rw [List.length_append, rowV_app]
  exact h1
end
set_option maxRecDepth 20000 in
set_option maxHeartbeats 8000000 in
theorem step_1 (w : World) (q off : Nat) (cs : List Value) (B p b : Nat) (lv rv : Value) (wd : Nat) (L : List Dg) (who : Int) (texts digs : Value) (n s : Nat) (ds : List Dg) (h : Hid (PR w q off cs B p b lv rv wd L)) (hw : 1 ≤ wd) (hwd : wd ≤ 32) (hoff : off = 0 ∨ off = 3) (hd : Hid (DRow w B digs ds)) (hnil : Hid (NilOk digs)) (hdl : ds.length * 32 ≤ 140737488351232) (hB : B ≤ w.heap.size) (hqB : B ≤ q) :
  Calls Try.prog 37 #[.pointer (some ⟨q, 0, none⟩), .pointer (some ⟨q, off, none⟩), stepV 1 who texts digs n s] w (LaidPost w q off cs B p b lv rv wd) := by
 obtain ⟨rad, rcap, hrv, hrf⟩ := h.out.row.shape
 subst hrv
 obtain ⟨_, dad, dcap, hdv, _⟩ := hd.out
 subst hdv
 have hLl := h.out.log.len
 have HA : Hid (All32 ds) := hd.out.1
 obtain ⟨N, hN⟩ : ∃ N, w.heap.size = N := ⟨_, rfl⟩
 have HN := Lib.hid hN
 obtain ⟨PQ, hPQ⟩ : ∃ PQ, LaidPost w q off cs B p b lv (.slice rad L.length rcap) wd = PQ := ⟨_, rfl⟩
 rw [hPQ]
 have HPQ := Lib.hid hPQ
 have hqN : q < N := by have := heap_lt h.out.blk; omega
 have hBN : B ≤ N := by rw [← HN.out]; exact hB
 have HZ : Hid (p < w.heap.size ∧ b < w.heap.size ∧ (∀ k, lv.ownBlock = some k → k < w.heap.size) ∧ (∀ k, (Value.slice rad L.length rcap).ownBlock = some k → k < w.heap.size)) := ⟨h.out.log.lt, h.out.log.ltb, fun k hk => (h.out.log.leaves.lt k hk).2, fun k hk => (h.out.row.lt k hk).2⟩
 clear hN hrf hPQ
 unfold stepV
 go_enter Try.func37, Try.ntmps37
 go_upto_region 0 with fail
 with_reducible refine wp_region_list ?_
 refine wpList_boxB rfl _ _ rfl N HN.out #[.int .i64 1, .int .i64 who, texts, .slice dad ds.length dcap, .int .u64 (n : Int), .int .u64 (s : Int)] rfl ?_
 intro w0 e0 b0 z0
 try simp only [Act.put,nA,nB,nC]
 (with_reducible refine wpList_plain rfl ?_); intro K hK; go_simp; (with_reducible refine hK _ _ ?_); clear hK K; try simp only [Act.put,nA,nB,nC]
 have H0 := Lib.hid (h.out.low (by rw [HN.out]; exact b0))
 have M0 : Hid (Below N w w0) := b0
 have E0 : Hid (SBx w0 N 1 who texts (.slice dad ds.length dcap) n s) := e0
 have D0 := Lib.hid (hd.out.below (by rw [HN.out]; exact b0))
 have g2 := H0.out.cell (off + 2) _ H0.out.c2
 have s0 := heap_cell e0 (o := 0)
 have s3 := heap_cell e0 (o := 3)
 have wL := IntWalk.u64_in (L.length : Int) (by omega)
 clear h b0 e0 hd
 go_upto_region 15 with fail
 clear s0 g2
 with_reducible refine wp_region_list ?_
 iterate 2
  (with_reducible refine wpList_plain rfl ?_); intro K hK; go_simp; (with_reducible refine hK _ _ ?_); clear hK K; try simp only [Act.put,nA,nB,nC]
 with_reducible refine wpList_plain rfl ?_
 intro K hK
 go_simp
 refine (lentDigests_any _ ds w0 B D0 hnil.out hdl).mono ?_; rintro e w1 ⟨g, cap, rfl, o1, b1⟩
 first | with_reducible refine hK _ _ ?_ | refine hK _ _ ?_
 clear hK K
 try simp only [Act.put,nA,nB,nC]
 have hgN : w0.heap.size ≤ g ∧ g < w1.heap.size := o1.lt g rfl
 have H1 := Lib.hid (H0.out.low b1)
 have hN0 : N < w0.heap.size := heap_lt E0.out
 have E1 : Hid (SBx w1 N 1 who texts (.slice dad ds.length dcap) n s) := heap_below E0.out b1 hN0
 have D1 := Lib.hid (D0.out.below b1)
 have O1 := Lib.hid o1
 have M1 : Hid (Mod (fun k => k = q ∨ k = p ∨ lv.ownBlock = some k ∨ (Value.slice rad L.length rcap).ownBlock = some k) w w1) := Mod.of _ (by rw [HN.out]; exact M0.out.trans (b1.mono (by omega)))
 clear s3 o1 b1 H0 E0 D0 M0
 (with_reducible refine wpList_plain rfl ?_); intro K hK; go_simp; (with_reducible refine hK _ _ ?_); clear hK K; try simp only [Act.put,nA,nB,nC]
 have g0 := H1.out.cell off _ H1.out.c0
 have LR := lent_rowD O1.out HA.out hdl
 have LRow := Lib.hid LR
 clear LR
 go_upto_region 16 with fail
 with_reducible refine wp_region_list ?_
 have hz1 : w1.heap.size = w1.heap.size := rfl
 have hpz : p < w.heap.size ∧ b < w.heap.size ∧ (∀ k, lv.ownBlock = some k → k < w.heap.size) ∧ (∀ k, (Value.slice rad L.length rcap).ownBlock = some k → k < w.heap.size) := HZ.out
 iterate 5
  (with_reducible refine wpList_plain rfl ?_); intro K hK; go_simp; (with_reducible refine hK _ _ ?_); clear hK K; try simp only [Act.put,nA,nB,nC]
 with_reducible refine wpList_plain rfl ?_
 intro K hK
 go_simp
 refine (Lay_any w1 B p b lv wd L _ ds w1.heap.size H1.out.log hw hwd LRow (Lib.hid (fun h => by cases h)) hdl (by omega)).mono ?_; rintro e w2 ⟨rfl, lv2, l2, m2, n2⟩
 first | with_reducible refine hK _ _ ?_ | refine hK _ _ ?_
 clear hK K
 try simp only [Act.put,nA,nB,nC]
 have hzz : N < w1.heap.size := by omega
 have blk2 : w2.heap[q]? = some (.cells cs.toArray 71 (0, 0)) := m2.heap H1.out.blk (fun e => e.elim H1.out.qp H1.out.ql)
 have row2 : OwnR w2 B (.slice rad L.length rcap) L := H1.out.row.mod m2 (fun k hk e => e.elim (fun e => H1.out.rp (by rw [hk, e])) (fun e => H1.out.rl k hk e))
 have E2 : Hid (SBx w2 N 1 who texts (.slice dad ds.length dcap) n s) := m2.heap E1.out (fun e => e.elim (fun e => by have := HZ.out.1; have := HN.out; omega) (fun e => by have := HZ.out.2.2.1 N e; have := HN.out; omega))
 have O2 : Hid (OwnR w2 w0.heap.size (.slice (some ⟨g, 0, none⟩) (ds.length + 1) cap) (ds ++ [mark7])) := O1.out.mod m2 (fun k hk e => by
  have h1 := (O1.out.lt k hk).1
  rcases e with e | e
  ·have := HZ.out.1; have := HN.out; omega
  ·have := HZ.out.2.2.1 k e; have := HN.out; omega)
 have D2 : Hid (DRow w2 B (.slice dad ds.length dcap) ds) := D1.out.mod m2 (fun k hk e => e.elim (fun e => by have := H1.out.log.hp; omega) (fun e => by have := (H1.out.log.leaves.lt k e).1; omega))
 have M2 : Hid (Mod (fun k => k = q ∨ k = p ∨ lv.ownBlock = some k ∨ (Value.slice rad L.length rcap).ownBlock = some k) w w2) := M1.out.then (m2.mono (fun k hk e => e.elim (fun e => .inr (.inl e)) (fun e => .inr (.inr (.inl e)))))
 have n3 : ∀ k, lv2.ownBlock = some k → lv.ownBlock = some k ∨ w.heap.size ≤ k := fun k hk => (n2 k hk).elim .inl (fun h => .inr (by have := HN.out; omega))
 have hcs : cs.set (off + 2) (.slice rad L.length rcap) = cs := set_same _ _ _ H1.out.c2
 have hPR : ∀ (LL : List Dg) (w' : World) (rv' : Value), LogB w' B p b lv2 wd LL → w'.heap[q]? = some (.cells (cs.set (off + 2) rv').toArray 71 (0, 0)) → OwnR w' B rv' LL → (∀ k, rv'.ownBlock = some k → (Value.slice rad L.length rcap).ownBlock = some k ∨ w2.heap.size ≤ k) → PR w' q off (cs.set (off + 2) rv') B p b lv2 rv' wd LL := fun LL w' rv' h1 h2 h3 h4 => by
  have hsz := HZ.out
  have hNN := HN.out
  have hsz2 : w.heap.size ≤ w2.heap.size := M2.out.size
  have hlv : ∀ k, lv2.ownBlock = some k → k < w2.heap.size := fun k hk => (l2.leaves.lt k hk).2
  have hln := H1.out.len
  refine ⟨h2, by rw [List.length_set]; exact H1.out.len, ?_, ?_, ?_, h1, h3, H1.out.qp, H1.out.qb, ?_, ?_, ?_, ?_, ?_⟩
  ·rw [List.getElem?_set_ne (by omega)]; exact H1.out.c0
  ·rw [List.getElem?_set_ne (by omega)]; exact H1.out.c1
  ·rw [List.getElem?_set_self (by omega)]
  ·exact fun e => (n3 q e).elim H1.out.ql (fun h => by omega)
  ·exact fun e => (h4 q e).elim H1.out.qr (fun h => by omega)
  ·exact fun e => (h4 p e).elim H1.out.rp (fun h => by omega)
  ·exact fun e => (h4 b e).elim H1.out.rb (fun h => by omega)
  ·exact fun k hk e => (h4 k hk).elim (fun h => (n3 k e).elim (H1.out.rl k h) (fun h2 => by have := hsz.2.2.2 k h; omega)) (fun h => by have := hlv k e; omega)
 have HPR := Lib.hid hPR
 have N3 := Lib.hid n3
 have N2g : Hid (lv2.ownBlock ≠ some g) := fun e => (n2 g e).elim (fun h => by have := HZ.out.2.2.1 g h; have := HN.out; omega) (fun h => by omega)
 have Blk2 := Lib.hid blk2
 have Row2 := Lib.hid row2
 have L2 := Lib.hid l2
 have Hcs := Lib.hid hcs
 have HRQ : Hid ((Value.slice rad L.length rcap).ownBlock ≠ some q) := H1.out.qr
 have HZ2 : Hid (w.heap.size ≤ w2.heap.size ∧ w1.heap.size ≤ w2.heap.size) := ⟨by have := HN.out; have := m2.size; omega, m2.size⟩
 have HQP : Hid (q ≠ p ∧ q ≠ b ∧ (Value.slice rad L.length rcap).ownBlock ≠ some p ∧ (Value.slice rad L.length rcap).ownBlock ≠ some b ∧ lv2.ownBlock ≠ some q ∧ ∀ k, (Value.slice rad L.length rcap).ownBlock = some k → lv2.ownBlock ≠ some k) := ⟨H1.out.qp, H1.out.qb, H1.out.rp, H1.out.rb, fun e => (n3 q e).elim H1.out.ql (fun h => by have := HN.out; omega), fun k hk e => (n3 k e).elim (fun h => H1.out.rl k hk h) (fun h => by have := HZ.out.2.2.2 k hk; omega)⟩
 have c1 : Hid (cs[off + 1]? = some (.int .i64 (wd : Int))) := H1.out.c1
 have c2 : Hid (cs[off + 2]? = some (.slice rad L.length rcap)) := H1.out.c2
 have hz2 : w1.heap.size ≤ w2.heap.size := m2.size
 have HD32 : Hid (∀ k, (Value.slice rad L.length rcap).ownBlock = some k → k < w2.heap.size) := fun k hk => by have := HZ.out.2.2.2 k hk; have := HN.out; omega
 clear n2 n3 hPR blk2 row2 l2 m2 hcs H1 E1 O1 D1 M1 LRow g0 hz1 hpz
 obtain ⟨E, hE⟩ : ∃ E, layE wd L ds = E := ⟨_, rfl⟩
 rw [hE]
 have HE := Lib.hid hE
 clear hE
 (with_reducible refine wpList_plain rfl ?_); intro K hK; go_simp; (with_reducible refine hK _ _ ?_); clear hK K; try simp only [Act.put,nA,nB,nC]
 have g1 : w2.cell? ⟨q, off + 1, none⟩ = some (.int .i64 (wd : Int)) := by rw [heap_cell Blk2.out, List.getElem?_toArray]; exact c1.out
 have s3 := heap_cell E2.out (o := 3)
 have hwb : wideB (wd : Int) = true := by simp [wideB]; omega
 obtain ⟨F, hF⟩ : ∃ F, fitsL wd ds = F := ⟨_, rfl⟩
 have HF : Hid ((wideB (wd : Int) && fitsL wd ds) = F) := by show _ = _; rw [hwb, hF]; rfl
 have HF2 := Lib.hid hF
 clear hwb hF
 go_upto_region 17 with fail
 refine wp_region_held_drew (S := fun W => W.cell? ⟨q, off + 1, none⟩ = some (.int .i64 (wd : Int)) ∧ W.cell? ⟨N, 3, none⟩ = some (.slice dad ds.length dcap)) (by kernel_rfl) ⟨g1, s3⟩ (fun hHeld => ?_)
 refine' tQ 0 ⟨some 113, .move (.tmp 1), 72, "law.go:94", #[], none⟩ rfl (by kernel_rfl) (Or.inl ⟨by rfl, _⟩) _; rotate_left; · (intro s h; (try dsimp only at h); go_simp; try with_reducible rfl)
 try simp only [Act.put,nA,nB,nC]
 refine' tQ 1 ⟨some 114, .nilCheck (.tmp 113), 0, "law.go:94", #[⟨0, .data⟩], none⟩ rfl (by kernel_rfl) (Or.inl ⟨by rfl, _⟩) _; rotate_left; · (intro s h; (try dsimp only at h); go_simp; try with_reducible rfl)
 try simp only [Act.put,nA,nB,nC]
 refine' tQ 2 ⟨some 115, .fieldAddr 68 (.tmp 114) 1, 0, "law.go:94", #[⟨1, .data⟩], none⟩ rfl (by kernel_rfl) (Or.inl ⟨by rfl, _⟩) _; rotate_left; · (intro s h; (try dsimp only at h); go_simp; try with_reducible rfl)
 try simp only [Act.put,nA,nB,nC]
 refine' tQ 3 ⟨some 116, .load 3 (.tmp 115), 3, "law.go:94", #[⟨2, .data⟩], none⟩ rfl (by kernel_rfl) (Or.inl ⟨by rfl, _⟩) _; rotate_left; · (intro s h; (try dsimp only at h); go_simp; try with_reducible rfl)
 try simp only [Act.put,nA,nB,nC]
 refine' tQ 4 ⟨some 117, .fieldAddr 74 (.tmp 5) 3, 0, "law.go:94", #[], none⟩ rfl (by kernel_rfl) (Or.inl ⟨by rfl, _⟩) _; rotate_left; · (intro s h; (try dsimp only at h); go_simp; try with_reducible rfl)
 try simp only [Act.put,nA,nB,nC]
 refine' tQ 5 ⟨some 118, .load 32 (.tmp 117), 32, "law.go:94", #[⟨4, .data⟩], none⟩ rfl (by kernel_rfl) (Or.inl ⟨by rfl, _⟩) _; rotate_left; · (intro s h; (try dsimp only at h); go_simp; try with_reducible rfl)
 try simp only [Act.put,nA,nB,nC]
 refine wpAnyH_ready (rs := [6]) (by kernel_rfl) (by simp) ?_
 refine AllReadyH.cons (o := ⟨some 119, .call ⟨.value (.func 47), #[.tmp 116, .tmp 118], #[3, 32]⟩, 4, "law.go:94", #[⟨3, .data⟩, ⟨5, .data⟩], none⟩) rfl (fun K hK => ?_) AllReadyH.nil
 (go_simp; (go_at_call 47; refine (rFits_any wd _ ds _ B (Lib.hid D2.out.drew)).mono ?_; rintro e w3 ⟨rfl, rfl⟩; rw [HF.out]))
 refine hK.out _ _ ?_ (fun hHeld => ?_)
 ·exact hHeld
 clear hK K
 try simp only [Act.put,nA,nB,nC]
 refine' tQ 7 ⟨some 120, .unOp .not 4 (.tmp 119), 4, "law.go:94", #[⟨6, .data⟩], none⟩ rfl (by kernel_rfl) (Or.inl ⟨by rfl, _⟩) _; rotate_left; · (intro s h; (try dsimp only at h); go_simp; try with_reducible rfl)
 try simp only [Act.put,nA,nB,nC]
 refine wpAnyH_done (by kernel_rfl) ?_ _
 clear hHeld g1 s3
 have O3 : Hid (OwnR w2.drew w0.heap.size (.slice (some ⟨g, 0, none⟩) (ds.length + 1) cap) (ds ++ [mark7])) := O2.out.drew
 have D3 : Hid (DRow w2.drew B (.slice dad ds.length dcap) ds) := D2.out.drew
 have s3 : w2.drew.cell? ⟨N, 3, none⟩ = some (.slice dad ds.length dcap) := heap_cell E2.out (o := 3)
 have hgz : q < w0.heap.size := by omega
 have hkeep : ∀ (w4 : World), LogB w2 B p b lv2 wd L → Mod (fun k => k = g) w2.drew w4 → LaidPost w q off cs B p b lv (.slice rad L.length rcap) wd (.returned (.bool true)) w4 := fun w4 l m => by
  have hsz := HZ.out
  have hNN := HN.out
  have mm : Mod (fun k => k = g) w2 w4 := (Mod.refl _ w2).drew.then m
  refine ⟨rfl, lv2, .slice rad L.length rcap, L, HPR.out L w4 _ (l.mod mm (by omega) (by omega) (fun k hk => ?_)) ?_ (Row2.out.mod mm (fun k hk e => by have := hsz.2.2.2 k hk; omega)) (fun k hk => .inl hk), ?_, N3.out, fun k hk => .inl hk⟩
  ·exact fun e => N2g.out (by rw [hk, e])
  ·rw [Hcs.out]; exact mm.heap Blk2.out (by omega)
  ·exact M2.out.trans mm (fun i hi e => by omega)
 have HK := Lib.hid hkeep
 clear hkeep
 have hw02 : w0.heap.size ≤ w2.heap.size := by omega
 have L3 := L2.out
 rw [HE.out] at L3
 have HL3 := Lib.hid L3
 clear L3 L2
 cases F
 case false =>
  obtain rfl : E = 2 := by rw [← HE.out]; unfold layE; rw [HF2.out]; rfl
  go_upto_region 18 with fail
  with_reducible refine wp_region_list ?_
  iterate 3
   (with_reducible refine wpList_plain rfl ?_); intro K hK; go_simp; (with_reducible refine hK _ _ ?_); clear hK K; try simp only [Act.put,nA,nB,nC]
  iterate 3
   (with_reducible refine wpList_step ?_); intro K hK; rw [if_pos (by rfl)]; go_simp; (with_reducible refine hK _ _ ?_); clear hK K; try simp only [Act.put,nA,nB,nC]
  with_reducible refine wpList_step ?_
  intro K hK
  rw [if_pos (by rfl)]
  go_simp
  refine (keptDigests_m g cap _ ds w2.drew w0.heap.size B O3 D3 (by omega) (by show _ ≤ _; exact hw02) ds.length hdl).mono ?_; rintro e w4 ⟨rfl, m4⟩
  first | with_reducible refine hK _ _ ?_ | refine hK _ _ ?_
  clear hK K
  try simp only [Act.put,nA,nB,nC]
  have hf := HK.out w4 HL3.out m4
  rw [HPQ.out] at hf
  have Hf := Lib.hid hf
  clear hf m4
  iterate 2
   (with_reducible refine wpList_plain rfl ?_); intro K hK; go_simp; (with_reducible refine hK _ _ ?_); clear hK K; try simp only [Act.put,nA,nB,nC]
  go_wp2_with fail
  exact Hf.out
 case true =>
  have g2 : w2.drew.cell? ⟨q, off + 2, none⟩ = some (.slice rad L.length rcap) := by show w2.cell? _ = _; rw [heap_cell Blk2.out, List.getElem?_toArray]; exact c2.out
  by_cases hbig : 1048576 < L.length + ds.length
  case pos =>
   obtain rfl : E = 5 := by rw [← HE.out]; unfold layE; rw [HF2.out]; simp [hbig]
   have d1 : decide ((1048576 : Int) - (L.length : Int) < (ds.length : Int)) = true := decide_eq_true (by omega)
   have wS := IntWalk.i64_in ((1048576 : Int) - (L.length : Int)) (by omega)
   go_upto_region 19 with fail
   refine wp_region_held_drew (S := fun W => W.cell? ⟨q, off + 2, none⟩ = some (.slice rad L.length rcap) ∧ W.cell? ⟨N, 3, none⟩ = some (.slice dad ds.length dcap)) (by kernel_rfl) ⟨g2, s3⟩ (fun hHeld => ?_)
   refine' tQ 0 ⟨some 129, .fieldAddr 74 (.tmp 5) 3, 0, "law.go:97", #[], none⟩ rfl (by kernel_rfl) (Or.inl ⟨by rfl, _⟩) _; rotate_left; · (intro s h; (try dsimp only at h); go_simp; try with_reducible rfl)
   try simp only [Act.put,nA,nB,nC]
   refine' tQ 1 ⟨some 130, .load 32 (.tmp 129), 32, "law.go:97", #[⟨0, .data⟩], none⟩ rfl (by kernel_rfl) (Or.inl ⟨by rfl, _⟩) _; rotate_left; · (intro s h; (try dsimp only at h); go_simp; try with_reducible rfl)
   try simp only [Act.put,nA,nB,nC]
   refine' tQ 2 ⟨some 131, .call ⟨.builtin .len, #[.tmp 130], #[32]⟩, 3, "law.go:97", #[⟨1, .data⟩], none⟩ rfl (by kernel_rfl) (Or.inl ⟨by rfl, _⟩) _; rotate_left; · (intro s h; (try dsimp only at h); go_simp; try with_reducible rfl)
   try simp only [Act.put,nA,nB,nC]
   refine' tQ 3 ⟨some 132, .move (.tmp 1), 72, "law.go:97", #[], none⟩ rfl (by kernel_rfl) (Or.inl ⟨by rfl, _⟩) _; rotate_left; · (intro s h; (try dsimp only at h); go_simp; try with_reducible rfl)
   try simp only [Act.put,nA,nB,nC]
   refine' tQ 4 ⟨some 133, .nilCheck (.tmp 132), 0, "law.go:97", #[⟨3, .data⟩], none⟩ rfl (by kernel_rfl) (Or.inl ⟨by rfl, _⟩) _; rotate_left; · (intro s h; (try dsimp only at h); go_simp; try with_reducible rfl)
   try simp only [Act.put,nA,nB,nC]
   refine' tQ 5 ⟨some 134, .fieldAddr 68 (.tmp 133) 2, 0, "law.go:97", #[⟨4, .data⟩], none⟩ rfl (by kernel_rfl) (Or.inl ⟨by rfl, _⟩) _; rotate_left; · (intro s h; (try dsimp only at h); go_simp; try with_reducible rfl)
   try simp only [Act.put,nA,nB,nC]
   refine' tQ 6 ⟨some 135, .load 32 (.tmp 134), 32, "law.go:97", #[⟨5, .data⟩], none⟩ rfl (by kernel_rfl) (Or.inl ⟨by rfl, _⟩) _; rotate_left; · (intro s h; (try dsimp only at h); go_simp; try with_reducible rfl)
   try simp only [Act.put,nA,nB,nC]
   refine' tQ 7 ⟨some 136, .call ⟨.builtin .len, #[.tmp 135], #[32]⟩, 3, "law.go:97", #[⟨6, .data⟩], none⟩ rfl (by kernel_rfl) (Or.inl ⟨by rfl, _⟩) _; rotate_left; · (intro s h; (try dsimp only at h); go_simp; try with_reducible rfl)
   try simp only [Act.put,nA,nB,nC]
   refine' tQ 8 ⟨some 137, .binOp .sub 3 (.const (.int .i64 1048576)) (.tmp 136) 3, 3, "law.go:97", #[⟨7, .data⟩], none⟩ rfl (by kernel_rfl) (Or.inl ⟨by rfl, _⟩) _; rotate_left; · (intro s h; (try dsimp only at h); go_simp; try with_reducible rfl)
   try simp only [Act.put,nA,nB,nC]
   refine' tQ 9 ⟨some 138, .binOp .gtr 3 (.tmp 131) (.tmp 137) 3, 4, "law.go:97", #[⟨2, .data⟩, ⟨8, .data⟩], none⟩ rfl (by kernel_rfl) (Or.inl ⟨by rfl, _⟩) _; rotate_left; · (intro s h; (try dsimp only at h); go_simp; try with_reducible rfl)
   try simp only [Act.put,nA,nB,nC]
   refine wpAnyH_done (by kernel_rfl) ?_ _
   clear hHeld g2 s3 d1 wS
   have O4 : Hid (OwnR w2.drew.drew w0.heap.size (.slice (some ⟨g, 0, none⟩) (ds.length + 1) cap) (ds ++ [mark7])) := O3.out.drew
   have D4 : Hid (DRow w2.drew.drew B (.slice dad ds.length dcap) ds) := D3.out.drew
   have s3 : w2.drew.drew.cell? ⟨N, 3, none⟩ = some (.slice dad ds.length dcap) := heap_cell E2.out (o := 3)
   go_upto_region 20 with fail
   with_reducible refine wp_region_list ?_
   iterate 3
    (with_reducible refine wpList_plain rfl ?_); intro K hK; go_simp; (with_reducible refine hK _ _ ?_); clear hK K; try simp only [Act.put,nA,nB,nC]
   iterate 3
    (with_reducible refine wpList_step ?_); intro K hK; rw [if_pos (by rfl)]; go_simp; (with_reducible refine hK _ _ ?_); clear hK K; try simp only [Act.put,nA,nB,nC]
   with_reducible refine wpList_step ?_
   intro K hK
   rw [if_pos (by rfl)]
   go_simp
   refine (keptDigests_m g cap _ ds w2.drew.drew w0.heap.size B O4 D4 (by omega) (by show _ ≤ _; exact hw02) ds.length hdl).mono ?_; rintro e w4 ⟨rfl, m4⟩
   first | with_reducible refine hK _ _ ?_ | refine hK _ _ ?_
   clear hK K
   try simp only [Act.put,nA,nB,nC]
   have hf := HK.out w4 HL3.out ((Mod.refl _ w2.drew).drew.then m4)
   rw [HPQ.out] at hf
   have Hf := Lib.hid hf
   clear hf m4
   iterate 2
    (with_reducible refine wpList_plain rfl ?_); intro K hK; go_simp; (with_reducible refine hK _ _ ?_); clear hK K; try simp only [Act.put,nA,nB,nC]
   go_wp2_with fail
   exact Hf.out
  case neg =>
   obtain rfl : E = 0 := by rw [← HE.out]; unfold layE; rw [HF2.out]; simp [hbig]
   have d1 : decide ((1048576 : Int) - (L.length : Int) < (ds.length : Int)) = false := decide_eq_false (by omega)
   have wS := IntWalk.i64_in ((1048576 : Int) - (L.length : Int)) (by omega)
   go_upto_region 19 with fail
   refine wp_region_held_drew (S := fun W => W.cell? ⟨q, off + 2, none⟩ = some (.slice rad L.length rcap) ∧ W.cell? ⟨N, 3, none⟩ = some (.slice dad ds.length dcap)) (by kernel_rfl) ⟨g2, s3⟩ (fun hHeld => ?_)
   refine' tQ 0 ⟨some 129, .fieldAddr 74 (.tmp 5) 3, 0, "law.go:97", #[], none⟩ rfl (by kernel_rfl) (Or.inl ⟨by rfl, _⟩) _; rotate_left; · (intro s h; (try dsimp only at h); go_simp; try with_reducible rfl)
   try simp only [Act.put,nA,nB,nC]
   refine' tQ 1 ⟨some 130, .load 32 (.tmp 129), 32, "law.go:97", #[⟨0, .data⟩], none⟩ rfl (by kernel_rfl) (Or.inl ⟨by rfl, _⟩) _; rotate_left; · (intro s h; (try dsimp only at h); go_simp; try with_reducible rfl)
   try simp only [Act.put,nA,nB,nC]
   refine' tQ 2 ⟨some 131, .call ⟨.builtin .len, #[.tmp 130], #[32]⟩, 3, "law.go:97", #[⟨1, .data⟩], none⟩ rfl (by kernel_rfl) (Or.inl ⟨by rfl, _⟩) _; rotate_left; · (intro s h; (try dsimp only at h); go_simp; try with_reducible rfl)
   try simp only [Act.put,nA,nB,nC]
   refine' tQ 3 ⟨some 132, .move (.tmp 1), 72, "law.go:97", #[], none⟩ rfl (by kernel_rfl) (Or.inl ⟨by rfl, _⟩) _; rotate_left; · (intro s h; (try dsimp only at h); go_simp; try with_reducible rfl)
   try simp only [Act.put,nA,nB,nC]
   refine' tQ 4 ⟨some 133, .nilCheck (.tmp 132), 0, "law.go:97", #[⟨3, .data⟩], none⟩ rfl (by kernel_rfl) (Or.inl ⟨by rfl, _⟩) _; rotate_left; · (intro s h; (try dsimp only at h); go_simp; try with_reducible rfl)
   try simp only [Act.put,nA,nB,nC]
   refine' tQ 5 ⟨some 134, .fieldAddr 68 (.tmp 133) 2, 0, "law.go:97", #[⟨4, .data⟩], none⟩ rfl (by kernel_rfl) (Or.inl ⟨by rfl, _⟩) _; rotate_left; · (intro s h; (try dsimp only at h); go_simp; try with_reducible rfl)
   try simp only [Act.put,nA,nB,nC]
   refine' tQ 6 ⟨some 135, .load 32 (.tmp 134), 32, "law.go:97", #[⟨5, .data⟩], none⟩ rfl (by kernel_rfl) (Or.inl ⟨by rfl, _⟩) _; rotate_left; · (intro s h; (try dsimp only at h); go_simp; try with_reducible rfl)
   try simp only [Act.put,nA,nB,nC]
   refine' tQ 7 ⟨some 136, .call ⟨.builtin .len, #[.tmp 135], #[32]⟩, 3, "law.go:97", #[⟨6, .data⟩], none⟩ rfl (by kernel_rfl) (Or.inl ⟨by rfl, _⟩) _; rotate_left; · (intro s h; (try dsimp only at h); go_simp; try with_reducible rfl)
   try simp only [Act.put,nA,nB,nC]
   refine' tQ 8 ⟨some 137, .binOp .sub 3 (.const (.int .i64 1048576)) (.tmp 136) 3, 3, "law.go:97", #[⟨7, .data⟩], none⟩ rfl (by kernel_rfl) (Or.inl ⟨by rfl, _⟩) _; rotate_left; · (intro s h; (try dsimp only at h); go_simp; try with_reducible rfl)
   try simp only [Act.put,nA,nB,nC]
   refine' tQ 9 ⟨some 138, .binOp .gtr 3 (.tmp 131) (.tmp 137) 3, 4, "law.go:97", #[⟨2, .data⟩, ⟨8, .data⟩], none⟩ rfl (by kernel_rfl) (Or.inl ⟨by rfl, _⟩) _; rotate_left; · (intro s h; (try dsimp only at h); go_simp; try with_reducible rfl)
   try simp only [Act.put,nA,nB,nC]
   refine wpAnyH_done (by kernel_rfl) ?_ _
   clear hHeld g2 s3 d1 wS
   obtain ⟨wx, hwx⟩ : ∃ W, w2.drew.drew = W := ⟨_, rfl⟩
   have bx : Below w2.heap.size w2 wx := by rw [← hwx]; exact ((Below.refl _ w2).drew).drew
   have zx : wx.heap.size = w2.heap.size := by rw [← hwx]; rfl
   have Blkx : Hid (wx.heap[q]? = some (.cells cs.toArray 71 (0, 0))) := by rw [← hwx]; exact Blk2.out
   have Rowx : Hid (OwnR wx B (.slice rad L.length rcap) L) := by rw [← hwx]; exact Row2.out
   have Ex : Hid (SBx wx N 1 who texts (.slice dad ds.length dcap) n s) := by rw [← hwx]; exact E2.out
   have Ox : Hid (OwnR wx w0.heap.size (.slice (some ⟨g, 0, none⟩) (ds.length + 1) cap) (ds ++ [mark7])) := by rw [← hwx]; exact O2.out
   have Dx : Hid (DRow wx B (.slice dad ds.length dcap) ds) := by rw [← hwx]; exact D2.out
   have Lx : Hid (LogB wx B p b lv2 wd (L ++ ds)) := by rw [← hwx]; have h := HL3.out; rw [if_pos rfl] at h; exact Lib.hid h.drew.drew
   have Mx := Lib.hid (M2.out.then (Mod.of _ bx))
   rw [hwx]
   clear hwx bx O3 D3 O2 D2 E2 HL3 Row2 M2 HK
   have gx : wx.cell? ⟨q, off + 2, none⟩ = some (.slice rad L.length rcap) := by rw [heap_cell Blkx.out, List.getElem?_toArray]; exact c2.out
   have sx : wx.cell? ⟨N, 3, none⟩ = some (.slice dad ds.length dcap) := heap_cell Ex.out (o := 3)
   go_upto_region 21 with fail
   refine wp_region_held_drew (S := fun W => W.cell? ⟨N, 3, none⟩ = some (.slice dad ds.length dcap)) (by kernel_rfl) sx (fun hHeld => ?_)
   refine' tQ 0 ⟨some 147, .move (.tmp 1), 72, "law.go:100", #[], none⟩ rfl (by kernel_rfl) (Or.inl ⟨by rfl, _⟩) _; rotate_left; · (intro s h; (try dsimp only at h); go_simp; try with_reducible rfl)
   try simp only [Act.put,nA,nB,nC]
   refine' tQ 1 ⟨some 148, .move (.tmp 1), 72, "law.go:100", #[], none⟩ rfl (by kernel_rfl) (Or.inl ⟨by rfl, _⟩) _; rotate_left; · (intro s h; (try dsimp only at h); go_simp; try with_reducible rfl)
   try simp only [Act.put,nA,nB,nC]
   refine' tQ 2 ⟨some 149, .nilCheck (.tmp 148), 0, "law.go:100", #[⟨1, .data⟩], none⟩ rfl (by kernel_rfl) (Or.inl ⟨by rfl, _⟩) _; rotate_left; · (intro s h; (try dsimp only at h); go_simp; try with_reducible rfl)
   try simp only [Act.put,nA,nB,nC]
   refine' tQ 3 ⟨some 150, .fieldAddr 68 (.tmp 149) 2, 0, "law.go:100", #[⟨2, .data⟩], none⟩ rfl (by kernel_rfl) (Or.inl ⟨by rfl, _⟩) _; rotate_left; · (intro s h; (try dsimp only at h); go_simp; try with_reducible rfl)
   try simp only [Act.put,nA,nB,nC]
   refine' tQ 5 ⟨some 152, .fieldAddr 74 (.tmp 5) 3, 0, "law.go:100", #[], none⟩ rfl (by kernel_rfl) (Or.inl ⟨by rfl, _⟩) _; rotate_left; · (intro s h; (try dsimp only at h); go_simp; try with_reducible rfl)
   try simp only [Act.put,nA,nB,nC]
   refine' tQ 6 ⟨some 153, .load 32 (.tmp 152), 32, "law.go:100", #[⟨5, .data⟩], none⟩ rfl (by kernel_rfl) (Or.inl ⟨by rfl, _⟩) _; rotate_left; · (intro s h; (try dsimp only at h); go_simp; try with_reducible rfl)
   try simp only [Act.put,nA,nB,nC]
   refine wpAnyH_ready (rs := [4]) (by kernel_rfl) (by simp) ?_
   refine (AllReadyH.cons (o := ⟨some 151, .load 32 (.tmp 150), 32, "law.go:100", #[⟨3, .data⟩], none⟩) rfl (fun K hK => ?_) AllReadyH.nil)
   go_simp
   refine hK.out _ _ ?_ (fun hHeld => ?_)
   ·exact hHeld
   clear hK K
   try simp only [Act.put,nA,nB,nC]
   refine wpAnyH_ready (rs := [7]) (by kernel_rfl) (by simp) ?_
   refine AllReadyH.cons (o := ⟨some 154, .call ⟨.builtin .append, #[.tmp 151, .tmp 153], #[32, 32]⟩, 32, "law.go:100", #[⟨4, .data⟩, ⟨6, .data⟩], none⟩) rfl (fun K hK => ?_) AllReadyH.nil
   (refine step_of rfl (wp_appDR _ _ rfl B (.slice rad L.length rcap) (.slice dad ds.length dcap) L ds B rfl Rowx.out rfl hnil.out Dx.out (by omega) (by show B ≤ wx.heap.size; omega) ?_); intro v3 w3 o3 g3 n3; obtain ⟨a3, cap3, hv3, _⟩ := o3.shape; obtain ⟨q3, hq3⟩ : ∃ q, (L ++ ds).length = q := ⟨_, rfl⟩; rw [hq3] at hv3; subst hv3; clear hq3; have m3 : Mod (fun k => (Value.slice rad L.length rcap).ownBlock = some k) wx w3 := (Mod.refl _ wx).drew.then (Mod.grown g3 (fun k e => e)); have c7 : w3.cell? ⟨q, off + 2, none⟩ = some (.slice rad L.length rcap) := (by rw [heap_cell (m3.heap Blkx.out (fun e => HRQ.out e)), List.getElem?_toArray]; exact c2.out); have f7 := heap_free (m3.heap Blkx.out (fun e => HRQ.out e)) (off + 2))
   refine hK.out _ _ ?_ (fun hHeld => ?_)
   ·exact heap_cell (m3.heap Ex.out (fun e => by have := HZ.out.2.2.2 N e; have := HN.out; omega)) (o := 3)
   clear hK K
   try simp only [Act.put,nA,nB,nC]
   refine' tQ 8 ⟨some 155, .nilCheck (.tmp 147), 0, "law.go:100", #[⟨0, .data⟩, ⟨0, .phase⟩, ⟨1, .phase⟩, ⟨2, .phase⟩, ⟨3, .phase⟩, ⟨4, .phase⟩, ⟨5, .phase⟩, ⟨6, .phase⟩, ⟨7, .phase⟩], none⟩ rfl (by kernel_rfl) (Or.inl ⟨by rfl, _⟩) _; rotate_left; · (intro s h; (try dsimp only at h); go_simp; try with_reducible rfl)
   try simp only [Act.put,nA,nB,nC]
   refine' tQ 9 ⟨some 156, .fieldAddr 68 (.tmp 155) 2, 0, "law.go:100", #[⟨8, .data⟩, ⟨0, .phase⟩, ⟨1, .phase⟩, ⟨2, .phase⟩, ⟨3, .phase⟩, ⟨4, .phase⟩, ⟨5, .phase⟩, ⟨6, .phase⟩, ⟨7, .phase⟩], none⟩ rfl (by kernel_rfl) (Or.inl ⟨by rfl, _⟩) _; rotate_left; · (intro s h; (try dsimp only at h); go_simp; try with_reducible rfl)
   try simp only [Act.put,nA,nB,nC]
   have hn3 : ∀ k, (Value.slice a3 q3 cap3).ownBlock = some k → (Value.slice rad L.length rcap).ownBlock = some k ∨ w2.heap.size ≤ k := fun k hk => by
    rcases n3 with h | h
    ·left; rw [← h]; exact hk
    ·right
     rw [h] at hk
     have h1 : wx.heap.size = k := Option.some.inj hk
     omega
   have blk3 : w3.heap[q]? = some (.cells cs.toArray 71 (0, 0)) := m3.heap Blkx.out (fun e => HRQ.out e)
   have blk4 := heap_set (o := off + 2) blk3 (Value.slice a3 q3 cap3)
   rw [List.setIfInBounds_toArray] at blk4
   have ex3 : SBx w3 N 1 who texts (.slice dad ds.length dcap) n s := m3.heap Ex.out (fun e => by have := HZ.out.2.2.2 N e; have := HN.out; omega)
   have ex4 : SBx (w3.setCell ⟨q, off + 2, none⟩ (Value.slice a3 q3 cap3)) N 1 who texts (.slice dad ds.length dcap) n s := heap_setOther (a := ⟨q, off + 2, none⟩) ex3 (by show N ≠ q; omega) _
   have s4 := heap_cell ex4 (o := 3)
   have m4 : Mod (fun k => k = q ∨ (Value.slice rad L.length rcap).ownBlock = some k) wx (w3.setCell ⟨q, off + 2, none⟩ (Value.slice a3 q3 cap3)) := (m3.mono (fun k hk e => .inr e)).then (Mod.set (o := off + 2) w3 (.inl rfl) _)
   have hq4 : (Value.slice a3 q3 cap3).ownBlock ≠ some q := fun e => (hn3 q e).elim HRQ.out (fun h => by omega)
   have row4 : OwnR (w3.setCell ⟨q, off + 2, none⟩ (Value.slice a3 q3 cap3)) B (Value.slice a3 q3 cap3) (L ++ ds) := o3.mod (Mod.set (S := fun k => k = q) w3 rfl _) (fun k hk e => hq4 (by rw [hk, e]))
   have Ox4 : Hid (OwnR (w3.setCell ⟨q, off + 2, none⟩ (Value.slice a3 q3 cap3)) w0.heap.size (.slice (some ⟨g, 0, none⟩) (ds.length + 1) cap) (ds ++ [mark7])) := Ox.out.mod m4 (fun k hk e => by
    have h1 := (Ox.out.lt k hk).1
    rcases e with e | e
    ·omega
    ·have := HZ.out.2.2.2 k e; have := HN.out; omega)
   have Dx4 : Hid (DRow (w3.setCell ⟨q, off + 2, none⟩ (Value.slice a3 q3 cap3)) B (.slice dad ds.length dcap) ds) := Dx.out.mod m4 (fun k hk e => e.elim (fun e => by omega) (fun e => by have := (Rowx.out.lt k e).1; omega))
   have lx4 : LogB (w3.setCell ⟨q, off + 2, none⟩ (Value.slice a3 q3 cap3)) B p b lv2 wd (L ++ ds) := Lx.out.mod m4 (fun e => e.elim (fun e => HQP.out.1 e.symm) (fun e => HQP.out.2.2.1 e)) (fun e => e.elim (fun e => HQP.out.2.1 e.symm) (fun e => HQP.out.2.2.2.1 e)) (fun k hk e => e.elim (fun e => HQP.out.2.2.2.2.1 (by rw [hk, e])) (fun e => HQP.out.2.2.2.2.2 k e hk))
   have Mx4 := Lib.hid (Mx.out.then (m4.mono (fun k hk e => e.elim .inl (fun e => .inr (.inr (.inr e))))))
   have Lx4 := Lib.hid lx4
   have Row4 := Lib.hid row4
   have Blk4 := Lib.hid blk4
   have HN3 := Lib.hid hn3
   have hz4 : w0.heap.size ≤ (w3.setCell ⟨q, off + 2, none⟩ (Value.slice a3 q3 cap3)).heap.size := by have := m4.size; omega
   refine wpAnyH_ready (rs := [10]) (by kernel_rfl) (by simp) ?_
   refine AllReadyH.cons (o := ⟨none, .store 32 (.tmp 156) (.tmp 154), 0, "law.go:100", #[⟨9, .data⟩, ⟨7, .data⟩, ⟨7, .chain⟩, ⟨0, .phase⟩, ⟨1, .phase⟩, ⟨2, .phase⟩, ⟨3, .phase⟩, ⟨4, .phase⟩, ⟨5, .phase⟩, ⟨6, .phase⟩, ⟨7, .phase⟩], none⟩) rfl (fun K hK => ?_) AllReadyH.nil
   go_simp
   refine hK.out _ _ ?_ (fun hHeld => ?_)
   ·exact s4
   clear hK K
   try simp only [Act.put,nA,nB,nC]
   refine wpAnyH_done (by kernel_rfl) ?_ _
   clear hHeld o3 g3 n3 m3 c7 f7 hn3 blk3 blk4 ex3 ex4 m4 hq4 row4 lx4 gx Blkx Rowx Ex Ox Dx Lx Mx sx
   obtain ⟨w4, hw4⟩ : ∃ W, w3.setCell ⟨q, off + 2, none⟩ (Value.slice a3 q3 cap3) = W := ⟨_, rfl⟩
   rw [hw4] at Ox4 Dx4 Mx4 Lx4 Row4 Blk4 hz4 s4 ⊢
   clear hw4
   go_upto_region 22 with fail
   with_reducible refine wp_region_list ?_
   iterate 3
    (with_reducible refine wpList_plain rfl ?_); intro K hK; go_simp; (with_reducible refine hK _ _ ?_); clear hK K; try simp only [Act.put,nA,nB,nC]
   iterate 3
    (with_reducible refine wpList_step ?_); intro K hK; rw [if_pos (by rfl)]; go_simp; (with_reducible refine hK _ _ ?_); clear hK K; try simp only [Act.put,nA,nB,nC]
   with_reducible refine wpList_step ?_
   intro K hK
   rw [if_pos (by rfl)]
   go_simp
   refine (keptDigests_m g cap _ ds w4 w0.heap.size B Ox4 Dx4 (by omega) hz4 ds.length hdl).mono ?_; rintro e w5 ⟨rfl, m5⟩
   first | with_reducible refine hK _ _ ?_ | refine hK _ _ ?_
   clear hK K
   try simp only [Act.put,nA,nB,nC]
   have hf : LaidPost w q off cs B p b lv (.slice rad L.length rcap) wd (.returned (.bool true)) w5 := by
    have hsz := HZ.out
    have hNN := HN.out
    refine ⟨rfl, lv2, _, L ++ ds, HPR.out (L ++ ds) w5 _ (Lx4.out.mod m5 (by omega) (by omega) (fun k hk e => N2g.out (by rw [hk, e]))) (m5.heap Blk4.out (by omega)) (Row4.out.mod m5 (fun k hk e => (HN3.out k hk).elim (fun h => by have := hsz.2.2.2 k h; omega) (fun h => by omega))) HN3.out, Mx4.out.trans m5 (fun i hi e => by omega), N3.out, fun k hk => (HN3.out k hk).elim .inl (fun h => .inr (by have := HZ2.out; omega))⟩
   rw [HPQ.out] at hf
   have Hf := Lib.hid hf
   clear hf m5
   iterate 2
    (with_reducible refine wpList_plain rfl ?_); intro K hK; go_simp; (with_reducible refine hK _ _ ?_); clear hK K; try simp only [Act.put,nA,nB,nC]
   go_wp2_with fail
   exact Hf.out
end Go.Proofs.Ytihbhpggpnmifaa
namespace Go.Proofs.Ytihbhpggpnmifaa
open Go.RowKit Go.Lib Hw
theorem StrRow.modp {w w' : World} {S : Nat → Prop} {v : Value} {ss : List ByteArray} (h : StrRow w v ss) (hm : Mod S w w') (hd : 0 < ss.length → ∀ k, v.ownBlock = some k → ¬ S k) : StrRow w' v ss := by
 rcases Nat.eq_zero_or_pos ss.length with h0 | h0
 ·obtain ⟨ad, c, e, h1, h2⟩ := h
  exact ⟨ad, c, e, h1, fun h => by omega⟩
 ·exact h.mod hm (hd h0)
theorem OwnT.modi {w w' : World} {S : Nat → Prop} {B : Nat} {v : Value} {xs : List ByteArray} (h : OwnT w B v xs) (m : Mod S w w') (hd : ∀ k, v.ownBlock = some k → ¬ S k) : OwnT w' B v xs := by
 refine ⟨h.1, ?_⟩
 rcases h.2 with hn | ⟨g, cap, cur, rfl, hB, hg, r⟩
 ·exact .inl hn
 ·exact .inr ⟨g, cap, cur, rfl, hB, m.heap hg (hd g rfl), r⟩
set_option maxRecDepth 20000 in
set_option maxHeartbeats 8000000 in
theorem step_0_full (w : World) (q off : Nat) (cs : List Value) (B p b : Nat) (lv rv : Value) (wd : Nat) (L : List Dg) (who : Int) (texts digs : Value) (n s : Nat) (ss : List ByteArray) (h : Hid (PR w q off cs B p b lv rv wd L)) (hw : 1 ≤ wd) (hwd : wd ≤ 32) (hoff : off = 0 ∨ off = 3) (hv : Hid (StrRow w texts ss)) (hvB : Hid (0 < ss.length → ∀ k, texts.ownBlock = some k → k < B)) (hss : Hid (∀ s ∈ ss, s.size ≤ 140737488351232)) (hsl : ss.length * 16 ≤ 140737488355240) (hB : B ≤ w.heap.size) (hqB : B ≤ q) (hbig : 1048576 < L.length + ss.length) :
  Calls Try.prog 37 #[.pointer (some ⟨q, 0, none⟩), .pointer (some ⟨q, off, none⟩), stepV 0 who texts digs n s] w (LaidPost w q off cs B p b lv rv wd) := by
 obtain ⟨rad, rcap, hrv, hrf⟩ := h.out.row.shape
 subst hrv
 obtain ⟨tad, tcap, htv, _⟩ := strRow_form hv.out
 subst htv
 have hLl := h.out.log.len
 obtain ⟨N, hN⟩ : ∃ N, w.heap.size = N := ⟨_, rfl⟩
 have HN := Lib.hid hN
 obtain ⟨PQ, hPQ⟩ : ∃ PQ, LaidPost w q off cs B p b lv (.slice rad L.length rcap) wd = PQ := ⟨_, rfl⟩
 rw [hPQ]
 have HPQ := Lib.hid hPQ
 have hqN : q < N := by have := heap_lt h.out.blk; omega
 have hBN : B ≤ N := by rw [← HN.out]; exact hB
 have HZ : Hid (p < w.heap.size ∧ b < w.heap.size ∧ (∀ k, lv.ownBlock = some k → k < w.heap.size) ∧ (∀ k, (Value.slice rad L.length rcap).ownBlock = some k → k < w.heap.size)) := ⟨h.out.log.lt, h.out.log.ltb, fun k hk => (h.out.log.leaves.lt k hk).2, fun k hk => (h.out.row.lt k hk).2⟩
 clear hN hrf hPQ
 unfold stepV
 go_enter Try.func37, Try.ntmps37
 go_upto_region 0 with fail
 with_reducible refine wp_region_list ?_
 refine wpList_boxB rfl _ _ rfl N HN.out #[.int .i64 0, .int .i64 who, .slice tad ss.length tcap, digs, .int .u64 (n : Int), .int .u64 (s : Int)] rfl ?_
 intro w0 e0 b0 z0
 try simp only [Act.put,nA,nB,nC]
 (with_reducible refine wpList_plain rfl ?_); intro K hK; go_simp; (with_reducible refine hK _ _ ?_); clear hK K; try simp only [Act.put,nA,nB,nC]
 have H0 := Lib.hid (h.out.low (by rw [HN.out]; exact b0))
 have M0 : Hid (Below N w w0) := b0
 have E0 : Hid (SBx w0 N 0 who (.slice tad ss.length tcap) digs n s) := e0
 have V0 := Lib.hid (hv.out.below' (by rw [HN.out]; exact b0))
 have g2 := H0.out.cell (off + 2) _ H0.out.c2
 have s0 := heap_cell e0 (o := 0)
 have s2 := heap_cell e0 (o := 2)
 have wL := IntWalk.u64_in (L.length : Int) (by omega)
 clear h b0 e0 hv
 go_upto_region 4 with fail
 clear s0 g2
 with_reducible refine wp_region_list ?_
 iterate 2
  (with_reducible refine wpList_plain rfl ?_); intro K hK; go_simp; (with_reducible refine hK _ _ ?_); clear hK K; try simp only [Act.put,nA,nB,nC]
 with_reducible refine wpList_plain rfl ?_
 intro K hK
 go_simp
 refine (lentTexts_any _ ss w0 V0.out hsl).mono ?_; rintro e w1 ⟨g, cap, rfl, o1, b1⟩
 first | with_reducible refine hK _ _ ?_ | refine hK _ _ ?_
 clear hK K
 try simp only [Act.put,nA,nB,nC]
 have hgN : w0.heap.size ≤ g ∧ g < w1.heap.size := o1.lt g rfl
 have H1 := Lib.hid (H0.out.low b1)
 have hN0 : N < w0.heap.size := heap_lt E0.out
 have E1 : Hid (SBx w1 N 0 who (.slice tad ss.length tcap) digs n s) := heap_below E0.out b1 hN0
 have V1 := Lib.hid (V0.out.below' b1)
 have O1 := Lib.hid o1
 have LR := Lib.hid (lent_row1 o1)
 have M1 : Hid (Mod (fun k => k = q ∨ k = p ∨ lv.ownBlock = some k ∨ (Value.slice rad L.length rcap).ownBlock = some k) w w1) := Mod.of _ (by rw [HN.out]; exact M0.out.trans (b1.mono (by omega)))
 clear s2 o1 b1 H0 E0 V0 M0
 (with_reducible refine wpList_plain rfl ?_); intro K hK; go_simp; (with_reducible refine hK _ _ ?_); clear hK K; try simp only [Act.put,nA,nB,nC]
 have g0 := H1.out.cell off _ H1.out.c0
 go_upto_region 5 with fail
 with_reducible refine wp_region_list ?_
 iterate 5
  (with_reducible refine wpList_plain rfl ?_); intro K hK; go_simp; (with_reducible refine hK _ _ ?_); clear hK K; try simp only [Act.put,nA,nB,nC]
 with_reducible refine wpList_plain rfl ?_
 intro K hK
 go_simp
 refine (Add_no w1 B p b lv wd L _ ss H1.out.log hw LR hbig (by omega)).mono ?_; rintro e w2 ⟨rfl, rfl⟩
 first | with_reducible refine hK _ _ ?_ | refine hK _ _ ?_
 clear hK K
 try simp only [Act.put,nA,nB,nC]
 (with_reducible refine wpList_plain rfl ?_); intro K hK; go_simp; (with_reducible refine hK _ _ ?_); clear hK K; try simp only [Act.put,nA,nB,nC]
 have c2 : Hid (cs[off + 2]? = some (.slice rad L.length rcap)) := H1.out.c2
 have g2 := H1.out.cell (off + 2) _ H1.out.c2
 have s2 := heap_cell E1.out (o := 2)
 have d1 : decide ((1048576 : Int) - (L.length : Int) < (ss.length : Int)) = true := decide_eq_true (by omega)
 clear g0
 have wS := IntWalk.i64_in ((1048576 : Int) - (L.length : Int)) (by omega)
 go_upto_region 6 with fail
 refine wp_region_held_drew (S := fun W => W.cell? ⟨q, off + 2, none⟩ = some (.slice rad L.length rcap) ∧ W.cell? ⟨N, 2, none⟩ = some (.slice tad ss.length tcap)) (by kernel_rfl) ⟨g2, s2⟩ (fun hHeld => ?_)
 refine' tQ 0 ⟨some 46, .fieldAddr 74 (.tmp 5) 2, 0, "law.go:83", #[], none⟩ rfl (by kernel_rfl) (Or.inl ⟨by rfl, _⟩) _; rotate_left; · (intro s h; (try dsimp only at h); go_simp; try with_reducible rfl)
 try simp only [Act.put,nA,nB,nC]
 refine' tQ 1 ⟨some 47, .load 37 (.tmp 46), 37, "law.go:83", #[⟨0, .data⟩], none⟩ rfl (by kernel_rfl) (Or.inl ⟨by rfl, _⟩) _; rotate_left; · (intro s h; (try dsimp only at h); go_simp; try with_reducible rfl)
 try simp only [Act.put,nA,nB,nC]
 refine' tQ 2 ⟨some 48, .call ⟨.builtin .len, #[.tmp 47], #[37]⟩, 3, "law.go:83", #[⟨1, .data⟩], none⟩ rfl (by kernel_rfl) (Or.inl ⟨by rfl, _⟩) _; rotate_left; · (intro s h; (try dsimp only at h); go_simp; try with_reducible rfl)
 try simp only [Act.put,nA,nB,nC]
 refine' tQ 3 ⟨some 49, .move (.tmp 1), 72, "law.go:83", #[], none⟩ rfl (by kernel_rfl) (Or.inl ⟨by rfl, _⟩) _; rotate_left; · (intro s h; (try dsimp only at h); go_simp; try with_reducible rfl)
 try simp only [Act.put,nA,nB,nC]
 refine' tQ 4 ⟨some 50, .nilCheck (.tmp 49), 0, "law.go:83", #[⟨3, .data⟩], none⟩ rfl (by kernel_rfl) (Or.inl ⟨by rfl, _⟩) _; rotate_left; · (intro s h; (try dsimp only at h); go_simp; try with_reducible rfl)
 try simp only [Act.put,nA,nB,nC]
 refine' tQ 5 ⟨some 51, .fieldAddr 68 (.tmp 50) 2, 0, "law.go:83", #[⟨4, .data⟩], none⟩ rfl (by kernel_rfl) (Or.inl ⟨by rfl, _⟩) _; rotate_left; · (intro s h; (try dsimp only at h); go_simp; try with_reducible rfl)
 try simp only [Act.put,nA,nB,nC]
 refine' tQ 6 ⟨some 52, .load 32 (.tmp 51), 32, "law.go:83", #[⟨5, .data⟩], none⟩ rfl (by kernel_rfl) (Or.inl ⟨by rfl, _⟩) _; rotate_left; · (intro s h; (try dsimp only at h); go_simp; try with_reducible rfl)
 try simp only [Act.put,nA,nB,nC]
 refine' tQ 7 ⟨some 53, .call ⟨.builtin .len, #[.tmp 52], #[32]⟩, 3, "law.go:83", #[⟨6, .data⟩], none⟩ rfl (by kernel_rfl) (Or.inl ⟨by rfl, _⟩) _; rotate_left; · (intro s h; (try dsimp only at h); go_simp; try with_reducible rfl)
 try simp only [Act.put,nA,nB,nC]
 refine' tQ 8 ⟨some 54, .binOp .sub 3 (.const (.int .i64 1048576)) (.tmp 53) 3, 3, "law.go:83", #[⟨7, .data⟩], none⟩ rfl (by kernel_rfl) (Or.inl ⟨by rfl, _⟩) _; rotate_left; · (intro s h; (try dsimp only at h); go_simp; try with_reducible rfl)
 try simp only [Act.put,nA,nB,nC]
 refine' tQ 9 ⟨some 55, .binOp .gtr 3 (.tmp 48) (.tmp 54) 3, 4, "law.go:83", #[⟨2, .data⟩, ⟨8, .data⟩], none⟩ rfl (by kernel_rfl) (Or.inl ⟨by rfl, _⟩) _; rotate_left; · (intro s h; (try dsimp only at h); go_simp; try with_reducible rfl)
 try simp only [Act.put,nA,nB,nC]
 refine wpAnyH_done (by kernel_rfl) ?_ _
 clear hHeld g2 s2 wS
 have s2 : w1.drew.cell? ⟨N, 2, none⟩ = some (.slice tad ss.length tcap) := heap_cell E1.out (o := 2)
 have O2 : Hid (OwnT w1.drew w0.heap.size (.slice (some ⟨g, 0, none⟩) (ss.length + 1) cap) (ss ++ [markS])) := O1.out
 have V2 : Hid (StrRow w1.drew (.slice tad ss.length tcap) ss) := V1.out
 go_upto_region 7 with fail
 with_reducible refine wp_region_list ?_
 iterate 3
  (with_reducible refine wpList_plain rfl ?_); intro K hK; go_simp; (with_reducible refine hK _ _ ?_); clear hK K; try simp only [Act.put,nA,nB,nC]
 iterate 3
  (with_reducible refine wpList_step ?_); intro K hK; rw [if_pos (by rfl)]; go_simp; (with_reducible refine hK _ _ ?_); clear hK K; try simp only [Act.put,nA,nB,nC]
 with_reducible refine wpList_step ?_
 intro K hK
 rw [if_pos (by rfl)]
 go_simp
 refine (keptTexts_any g cap _ ss w1.drew w0.heap.size O2 V2 (fun hp e => by have := hvB.out hp g e; omega) ss.length hsl).mono ?_; rintro e w4 ⟨rfl, m4⟩
 first | with_reducible refine hK _ _ ?_ | refine hK _ _ ?_
 clear hK K
 try simp only [Act.put,nA,nB,nC]
 have mm : Mod (fun k => k = g) w1 w4 := (Mod.refl _ w1).drew.then m4
 have hP : LaidPost w q off cs B p b lv (.slice rad L.length rcap) wd (.returned (.bool true)) w4 := by
  have hsz := HZ.out
  have hNN := HN.out
  refine ⟨rfl, lv, _, L, ?_, M1.out.trans mm (fun i hi e => by omega), fun k hk => .inl hk, fun k hk => .inl hk⟩
  rw [set_same _ _ _ c2.out]
  exact H1.out.kept mm (by omega) (by omega) (by omega) (fun k hk e => by have := hsz.2.2.1 k hk; omega) (fun k hk e => by have := hsz.2.2.2 k hk; omega)
 rw [HPQ.out] at hP
 have HP := Lib.hid hP
 clear hP mm m4
 iterate 2
  (with_reducible refine wpList_plain rfl ?_); intro K hK; go_simp; (with_reducible refine hK _ _ ?_); clear hK K; try simp only [Act.put,nA,nB,nC]
 go_wp2_with fail
 exact HP.out
set_option maxRecDepth 20000 in
set_option maxHeartbeats 8000000 in
theorem step_0_yes (w : World) (q off : Nat) (cs : List Value) (B p b : Nat) (lv rv : Value) (wd : Nat) (L : List Dg) (who : Int) (texts digs : Value) (n s : Nat) (ss : List ByteArray) (h : Hid (PR w q off cs B p b lv rv wd L)) (hw : 1 ≤ wd) (hwd : wd ≤ 32) (hoff : off = 0 ∨ off = 3) (hv : Hid (StrRow w texts ss)) (hvB : Hid (0 < ss.length → ∀ k, texts.ownBlock = some k → k < B)) (hss : Hid (∀ s ∈ ss, s.size ≤ 140737488351232)) (hsl : ss.length * 16 ≤ 140737488355240) (hB : B ≤ w.heap.size) (hqB : B ≤ q) (hn : L.length + ss.length ≤ 1048576) :
  Calls Try.prog 37 #[.pointer (some ⟨q, 0, none⟩), .pointer (some ⟨q, off, none⟩), stepV 0 who texts digs n s] w (LaidPost w q off cs B p b lv rv wd) := by
 obtain ⟨rad, rcap, hrv, hrf⟩ := h.out.row.shape
 subst hrv
 obtain ⟨tad, tcap, htv, _⟩ := strRow_form hv.out
 subst htv
 have hLl := h.out.log.len
 obtain ⟨N, hN⟩ : ∃ N, w.heap.size = N := ⟨_, rfl⟩
 have HN := Lib.hid hN
 obtain ⟨PQ, hPQ⟩ : ∃ PQ, LaidPost w q off cs B p b lv (.slice rad L.length rcap) wd = PQ := ⟨_, rfl⟩
 rw [hPQ]
 have HPQ := Lib.hid hPQ
 have hqN : q < N := by have := heap_lt h.out.blk; omega
 have hBN : B ≤ N := by rw [← HN.out]; exact hB
 have HZ : Hid (p < w.heap.size ∧ b < w.heap.size ∧ (∀ k, lv.ownBlock = some k → k < w.heap.size) ∧ (∀ k, (Value.slice rad L.length rcap).ownBlock = some k → k < w.heap.size)) := ⟨h.out.log.lt, h.out.log.ltb, fun k hk => (h.out.log.leaves.lt k hk).2, fun k hk => (h.out.row.lt k hk).2⟩
 clear hN hrf hPQ
 unfold stepV
 go_enter Try.func37, Try.ntmps37
 go_upto_region 0 with fail
 with_reducible refine wp_region_list ?_
 refine wpList_boxB rfl _ _ rfl N HN.out #[.int .i64 0, .int .i64 who, .slice tad ss.length tcap, digs, .int .u64 (n : Int), .int .u64 (s : Int)] rfl ?_
 intro w0 e0 b0 z0
 try simp only [Act.put,nA,nB,nC]
 (with_reducible refine wpList_plain rfl ?_); intro K hK; go_simp; (with_reducible refine hK _ _ ?_); clear hK K; try simp only [Act.put,nA,nB,nC]
 have H0 := Lib.hid (h.out.low (by rw [HN.out]; exact b0))
 have M0 : Hid (Below N w w0) := b0
 have E0 : Hid (SBx w0 N 0 who (.slice tad ss.length tcap) digs n s) := e0
 have V0 := Lib.hid (hv.out.below' (by rw [HN.out]; exact b0))
 have g2 := H0.out.cell (off + 2) _ H0.out.c2
 have s0 := heap_cell e0 (o := 0)
 have s2 := heap_cell e0 (o := 2)
 have wL := IntWalk.u64_in (L.length : Int) (by omega)
 clear h b0 e0 hv
 go_upto_region 4 with fail
 clear s0 g2
 with_reducible refine wp_region_list ?_
 iterate 2
  (with_reducible refine wpList_plain rfl ?_); intro K hK; go_simp; (with_reducible refine hK _ _ ?_); clear hK K; try simp only [Act.put,nA,nB,nC]
 with_reducible refine wpList_plain rfl ?_
 intro K hK
 go_simp
 refine (lentTexts_any _ ss w0 V0.out hsl).mono ?_; rintro e w1 ⟨g, cap, rfl, o1, b1⟩
 first | with_reducible refine hK _ _ ?_ | refine hK _ _ ?_
 clear hK K
 try simp only [Act.put,nA,nB,nC]
 have hgN : w0.heap.size ≤ g ∧ g < w1.heap.size := o1.lt g rfl
 have H1 := Lib.hid (H0.out.low b1)
 have hN0 : N < w0.heap.size := heap_lt E0.out
 have E1 : Hid (SBx w1 N 0 who (.slice tad ss.length tcap) digs n s) := heap_below E0.out b1 hN0
 have V1 := Lib.hid (V0.out.below' b1)
 have O1 := Lib.hid o1
 have LR := Lib.hid (lent_row1 o1)
 have M1 : Hid (Mod (fun k => k = q ∨ k = p ∨ lv.ownBlock = some k ∨ (Value.slice rad L.length rcap).ownBlock = some k) w w1) := Mod.of _ (by rw [HN.out]; exact M0.out.trans (b1.mono (by omega)))
 clear s2 o1 b1 H0 E0 V0 M0
 (with_reducible refine wpList_plain rfl ?_); intro K hK; go_simp; (with_reducible refine hK _ _ ?_); clear hK K; try simp only [Act.put,nA,nB,nC]
 have g0 := H1.out.cell off _ H1.out.c0
 go_upto_region 5 with fail
 with_reducible refine wp_region_list ?_
 iterate 5
  (with_reducible refine wpList_plain rfl ?_); intro K hK; go_simp; (with_reducible refine hK _ _ ?_); clear hK K; try simp only [Act.put,nA,nB,nC]
 with_reducible refine wpList_plain rfl ?_
 intro K hK
 go_simp
 refine (Add_gen w1 B p b lv wd L _ ss H1.out.log hw hwd LR hn (Lib.hid (fun s h => by have := hss.out s h; omega)) (by omega) (Lib.hid (fun hp k hk => by obtain rfl : g = k := Option.some.inj hk; have := HZ.out.1; have := HN.out; exact ⟨by omega, by omega, fun e => by have := HZ.out.2.2.1 _ e; omega⟩))).mono ?_; rintro e w2 ⟨rfl, lv2, l2, m2, n2⟩
 first | with_reducible refine hK _ _ ?_ | refine hK _ _ ?_
 clear hK K
 try simp only [Act.put,nA,nB,nC]
 obtain ⟨M, hM⟩ : ∃ M, ss.map (leafD wd) = M := ⟨_, rfl⟩
 rw [hM] at l2
 have hMl : M.length = ss.length := by rw [← hM, List.length_map]
 have hMa : All32 M := by
  rw [← hM]
  intro d hd
  obtain ⟨s, _, rfl⟩ := List.mem_map.1 hd
  exact leafD_length _ _
 have hMk : ∀ k (h : k < ss.length) (h2 : k < M.length), M[k] = leafD wd ss[k] := fun k h h2 => by
  subst hM
  rw [List.getElem_map]
 have HMl := Lib.hid hMl
 have HMa := Lib.hid hMa
 have HMk := Lib.hid hMk
 have HLa : Hid (All32 L) := H1.out.log.all
 have hwb : wideB (wd : Int) = true := by simp [wideB]; omega
 have HLe : Hid (leafE (wd : Int) = 0) := leafE_yes hwb
 have Blk2 : Hid (w2.heap[q]? = some (.cells cs.toArray 71 (0, 0))) := m2.heap H1.out.blk (fun e => e.elim H1.out.qp H1.out.ql)
 have Row2 : Hid (OwnR w2 B (.slice rad L.length rcap) L) := H1.out.row.mod m2 (fun k hk e => e.elim (fun e => H1.out.rp (by rw [hk, e])) (fun e => H1.out.rl k hk e))
 have E2 : Hid (SBx w2 N 0 who (.slice tad ss.length tcap) digs n s) := m2.heap E1.out (fun e => e.elim (fun e => by have := HZ.out.1; have := HN.out; omega) (fun e => by have := HZ.out.2.2.1 N e; have := HN.out; omega))
 have O2 : Hid (OwnT w2 w0.heap.size (.slice (some ⟨g, 0, none⟩) (ss.length + 1) cap) (ss ++ [markS])) := O1.out.modi m2 (fun k hk e => by
  have h1 := (O1.out.lt k hk).1
  rcases e with e | e
  ·have := HZ.out.1; have := HN.out; omega
  ·have := HZ.out.2.2.1 k e; have := HN.out; omega)
 have V2 : Hid (StrRow w2 (.slice tad ss.length tcap) ss) := V1.out.modp m2 (fun hp k hk e => e.elim (fun e => by have := H1.out.log.hp; have := hvB.out hp k hk; omega) (fun e => by have := (H1.out.log.leaves.lt k e).1; have := hvB.out hp k hk; omega))
 have M2 : Hid (Mod (fun k => k = q ∨ k = p ∨ lv.ownBlock = some k ∨ (Value.slice rad L.length rcap).ownBlock = some k) w w2) := M1.out.then (m2.mono (fun k hk e => e.elim (fun e => .inr (.inl e)) (fun e => .inr (.inr (.inl e)))))
 have HN2 : Hid (∀ k, lv2.ownBlock = some k → lv.ownBlock = some k ∨ w.heap.size ≤ k) := fun k hk => (n2 k hk).elim .inl (fun h => .inr (by have := HN.out; omega))
 have L2 := Lib.hid l2
 have hz2 : w1.heap.size ≤ w2.heap.size := m2.size
 obtain ⟨z2, hz20⟩ : ∃ z, w2.heap.size = z := ⟨_, rfl⟩
 have HZ20 : Hid (w2.heap.size = z2 ∧ p < z2 ∧ b < z2 ∧ w.heap.size ≤ z2) := ⟨hz20, by have := HZ.out.1; have := HN.out; omega, by have := HZ.out.2.1; have := HN.out; omega, by have := HN.out; omega⟩
 have HF2 : Hid (q < z2 ∧ B ≤ z2) := ⟨by omega, by omega⟩
 have HG2 : Hid (g < z2 ∧ lv2.ownBlock ≠ some g) := ⟨by omega, fun e => (n2 g e).elim (fun h => by have := HZ.out.2.2.1 g h; have := HN.out; omega) (fun h => by omega)⟩
 have HRQ : Hid ((Value.slice rad L.length rcap).ownBlock ≠ some q) := H1.out.qr
 have HQP : Hid (q ≠ p ∧ q ≠ b ∧ (Value.slice rad L.length rcap).ownBlock ≠ some p ∧ (Value.slice rad L.length rcap).ownBlock ≠ some b ∧ lv2.ownBlock ≠ some q ∧ ∀ k, (Value.slice rad L.length rcap).ownBlock = some k → lv2.ownBlock ≠ some k) := ⟨H1.out.qp, H1.out.qb, H1.out.rp, H1.out.rb, fun e => (HN2.out q e).elim H1.out.ql (fun h => by have := HN.out; omega), fun k hk e => (HN2.out k e).elim (fun h => H1.out.rl k hk h) (fun h => by have := HZ.out.2.2.2 k hk; omega)⟩
 have HC8 : Hid (cs.length = 8) := H1.out.len
 have C0 : Hid (cs[off]? = some (.pointer (some ⟨p, 0, none⟩))) := H1.out.c0
 have C1 : Hid (cs[off + 1]? = some (.int .i64 (wd : Int))) := H1.out.c1
 have C2 : Hid (cs[off + 2]? = some (.slice rad L.length rcap)) := H1.out.c2
 have HNz : Hid (N < z2) := by show N < z2; omega
 clear n2 l2 m2 H1 E1 O1 V1 M1 LR g0 hM hMl hMa hMk hwb
 (with_reducible refine wpList_plain rfl ?_); intro K hK; go_simp; (with_reducible refine hK _ _ ?_); clear hK K; try simp only [Act.put,nA,nB,nC]
 have g2 : w2.cell? ⟨q, off + 2, none⟩ = some (.slice rad L.length rcap) := by rw [heap_cell Blk2.out, List.getElem?_toArray]; exact C2.out
 have s2 := heap_cell E2.out (o := 2)
 have d1 : decide ((1048576 : Int) - (L.length : Int) < (ss.length : Int)) = false := decide_eq_false (by omega)
 have wS := IntWalk.i64_in ((1048576 : Int) - (L.length : Int)) (by omega)
 go_upto_region 6 with fail
 refine wp_region_held_drew (S := fun W => W.cell? ⟨q, off + 2, none⟩ = some (.slice rad L.length rcap) ∧ W.cell? ⟨N, 2, none⟩ = some (.slice tad ss.length tcap)) (by kernel_rfl) ⟨g2, s2⟩ (fun hHeld => ?_)
 refine' tQ 0 ⟨some 46, .fieldAddr 74 (.tmp 5) 2, 0, "law.go:83", #[], none⟩ rfl (by kernel_rfl) (Or.inl ⟨by rfl, _⟩) _; rotate_left; · (intro s h; (try dsimp only at h); go_simp; try with_reducible rfl)
 try simp only [Act.put,nA,nB,nC]
 refine' tQ 1 ⟨some 47, .load 37 (.tmp 46), 37, "law.go:83", #[⟨0, .data⟩], none⟩ rfl (by kernel_rfl) (Or.inl ⟨by rfl, _⟩) _; rotate_left; · (intro s h; (try dsimp only at h); go_simp; try with_reducible rfl)
 try simp only [Act.put,nA,nB,nC]
 refine' tQ 2 ⟨some 48, .call ⟨.builtin .len, #[.tmp 47], #[37]⟩, 3, "law.go:83", #[⟨1, .data⟩], none⟩ rfl (by kernel_rfl) (Or.inl ⟨by rfl, _⟩) _; rotate_left; · (intro s h; (try dsimp only at h); go_simp; try with_reducible rfl)
 try simp only [Act.put,nA,nB,nC]
 refine' tQ 3 ⟨some 49, .move (.tmp 1), 72, "law.go:83", #[], none⟩ rfl (by kernel_rfl) (Or.inl ⟨by rfl, _⟩) _; rotate_left; · (intro s h; (try dsimp only at h); go_simp; try with_reducible rfl)
 try simp only [Act.put,nA,nB,nC]
 refine' tQ 4 ⟨some 50, .nilCheck (.tmp 49), 0, "law.go:83", #[⟨3, .data⟩], none⟩ rfl (by kernel_rfl) (Or.inl ⟨by rfl, _⟩) _; rotate_left; · (intro s h; (try dsimp only at h); go_simp; try with_reducible rfl)
 try simp only [Act.put,nA,nB,nC]
 refine' tQ 5 ⟨some 51, .fieldAddr 68 (.tmp 50) 2, 0, "law.go:83", #[⟨4, .data⟩], none⟩ rfl (by kernel_rfl) (Or.inl ⟨by rfl, _⟩) _; rotate_left; · (intro s h; (try dsimp only at h); go_simp; try with_reducible rfl)
 try simp only [Act.put,nA,nB,nC]
 refine' tQ 6 ⟨some 52, .load 32 (.tmp 51), 32, "law.go:83", #[⟨5, .data⟩], none⟩ rfl (by kernel_rfl) (Or.inl ⟨by rfl, _⟩) _; rotate_left; · (intro s h; (try dsimp only at h); go_simp; try with_reducible rfl)
 try simp only [Act.put,nA,nB,nC]
 refine' tQ 7 ⟨some 53, .call ⟨.builtin .len, #[.tmp 52], #[32]⟩, 3, "law.go:83", #[⟨6, .data⟩], none⟩ rfl (by kernel_rfl) (Or.inl ⟨by rfl, _⟩) _; rotate_left; · (intro s h; (try dsimp only at h); go_simp; try with_reducible rfl)
 try simp only [Act.put,nA,nB,nC]
 refine' tQ 8 ⟨some 54, .binOp .sub 3 (.const (.int .i64 1048576)) (.tmp 53) 3, 3, "law.go:83", #[⟨7, .data⟩], none⟩ rfl (by kernel_rfl) (Or.inl ⟨by rfl, _⟩) _; rotate_left; · (intro s h; (try dsimp only at h); go_simp; try with_reducible rfl)
 try simp only [Act.put,nA,nB,nC]
 refine' tQ 9 ⟨some 55, .binOp .gtr 3 (.tmp 48) (.tmp 54) 3, 4, "law.go:83", #[⟨2, .data⟩, ⟨8, .data⟩], none⟩ rfl (by kernel_rfl) (Or.inl ⟨by rfl, _⟩) _; rotate_left; · (intro s h; (try dsimp only at h); go_simp; try with_reducible rfl)
 try simp only [Act.put,nA,nB,nC]
 refine wpAnyH_done (by kernel_rfl) ?_ _
 clear hHeld g2 s2 wS
 go_upto_region 8 with fail
 go_upto_region 9 with fail
 go_loopw [10] (fun i wr => ∃ (k : Nat) (rvk : Value), k ≤ ss.length ∧ Hid (wr.heap[q]? = some (.cells (cs.set (off + 2) rvk).toArray 71 (0, 0))) ∧ Hid (OwnR wr B rvk (L ++ M.take k)) ∧ Hid (Mod (fun k => k = q ∨ (Value.slice rad L.length rcap).ownBlock = some k) w2 wr) ∧ Hid (∀ k, rvk.ownBlock = some k → (Value.slice rad L.length rcap).ownBlock = some k ∨ z2 ≤ k) ∧ Hid (z2 ≤ wr.heap.size) ∧ i = .int .i64 (k : Int)) (fun i _ => ss.length - (intOf i).toNat)
 case atStart => exact ⟨0, _, Nat.zero_le _, by rw [set_same _ _ _ C2.out]; exact Blk2.out, by rw [List.take_zero, List.append_nil]; exact Row2.out, (Mod.refl _ w2).drew, fun k hk => .inl hk, by show z2 ≤ w2.heap.size; have := HZ20.out; omega, rfl⟩
 case round =>
  obtain ⟨k, rvk, hk, Blk, Row, Mz, RG, HZr, rfl⟩ := hrel
  have eW : SBx wr N 0 who (.slice tad ss.length tcap) digs n s := Mz.out.heap E2.out (fun e => e.elim (fun e => by omega) (fun e => by have := HZ.out.2.2.2 N e; have := HN.out; omega))
  have s2 := heap_cell eW (o := 2)
  by_cases hlt : k < ss.length
  case pos =>
   have dk : decide (k < ss.length) = true := decide_eq_true hlt
   have dk2 : decide ((k : Int) < (ss.length : Int)) = true := decide_eq_true (by omega)
   have ik : (k : Int) < (ss.length : Int) := by omega
   have hkM : k < M.length := by rw [HMl.out]; exact hlt
   have hrow := V2.out.modp Mz.out (fun hp k hk e => e.elim (fun e => by have := hvB.out hp k hk; omega) (fun e => by have := hvB.out hp k hk; have := (Row2.out.lt k e).1; omega))
   obtain ⟨_, _, e1, hvs⟩ := strRow_form hrow
   have e2 := (Value.slice.inj e1).1
   obtain ⟨vb, vo, e3, hcs⟩ := hvs (by omega)
   rw [e3] at e2
   subst e2
   have hc := hcs k hlt
   have hcb : vb < B := hvB.out (by omega) vb rfl
   have hsz2 := hss.out ss[k] (List.getElem_mem hlt)
   have hLk2 := HMk.out k hlt hkM
   have hnx : L ++ M.take (k + 1) = L ++ M.take k ++ [M[k]] := by rw [List.take_add_one, List.getElem?_eq_getElem hkM, List.append_assoc]; rfl
   obtain ⟨tx, htx⟩ : ∃ s, ss[k] = s := ⟨_, rfl⟩
   rw [htx] at hc hsz2 hLk2
   obtain ⟨D, hD⟩ : ∃ D, M[k] = D := ⟨_, rfl⟩
   have hDl : D.length = 32 := by rw [← hD]; exact HMa.out _ (List.getElem_mem hkM)
   rw [hD] at hLk2 hnx
   obtain ⟨LK, hLK⟩ : ∃ LK, L ++ M.take k = LK := ⟨_, rfl⟩
   have hLKl : LK.length = L.length + k := by rw [← hLK, List.length_append, List.length_take, HMl.out]; omega
   have hLKa : All32 LK := by rw [← hLK]; exact HLa.out.app (HMa.out.take k)
   rw [hLK] at Row hnx
   have HLk : Hid (leafI (wd : Int) tx = D) := hLk2.symm
   have HMt := Lib.hid hnx
   have HDl := Lib.hid hDl
   have HSz := Lib.hid hsz2
   have HLKl := Lib.hid hLKl
   have HLKa := Lib.hid hLKa
   have c1 : wr.cell? ⟨q, off + 1, none⟩ = some (.int .i64 (wd : Int)) := by rw [heap_cell Blk.out, List.getElem?_toArray, List.getElem?_set_ne (by omega)]; exact C1.out
   have keepS : ∀ W, Below wr.heap.size wr W → W.cell? ⟨q, off + 1, none⟩ = some (.int .i64 (wd : Int)) ∧ W.cell? ⟨N, 2, none⟩ = some (.slice (some ⟨vb, vo, none⟩) ss.length tcap) ∧ W.cell? ⟨vb, vo + k, none⟩ = some (.string tx) := fun W hb =>
    ⟨by rw [heap_cell (heap_below Blk.out hb (heap_lt Blk.out)), ← heap_cell Blk.out]; exact c1, by rw [heap_cell (heap_below eW hb (heap_lt eW))]; rfl, cellB hb (by have := HZr.out; have := HF2.out.2; omega) hc⟩
   have HRx0 : Hid (∀ x, wr.heap.size ≤ x → rvk.ownBlock ≠ some q ∧ rvk.ownBlock ≠ some x) := fun x hx => ⟨fun e => (RG.out q e).elim (fun e => HRQ.out e) (fun e => by have := HF2.out.1; omega), fun e => by have := (Row.out.lt x e).2; omega⟩
   have HBr : Hid (B ≤ wr.heap.size) := by show B ≤ _; have := HZr.out; have := HF2.out.2; omega
   have hBr : B ≤ wr.heap.size := HBr.out
   clear hcs hvs e1 e3 hrow hLk2 hnx hDl hsz2 hLKl hLKa hD htx hkM hLK HBr
   go_upto_region 11 with fail
   clear dk dk2
   refine wp_region_held_drew (S := fun W => W.cell? ⟨q, off + 1, none⟩ = some (.int .i64 (wd : Int)) ∧ W.cell? ⟨N, 2, none⟩ = some (.slice (some ⟨vb, vo, none⟩) ss.length tcap) ∧ W.cell? ⟨vb, vo + k, none⟩ = some (.string tx)) (by kernel_rfl) ⟨c1, s2, hc⟩ (fun hHeld => ?_)
   refine' tQ 0 ⟨some 72, .move (.tmp 1), 72, "law.go:87", #[], none⟩ rfl (by kernel_rfl) (Or.inl ⟨by rfl, _⟩) _; rotate_left; · (intro s h; (try dsimp only at h); go_simp; try with_reducible rfl)
   try simp only [Act.put,nA,nB,nC]
   refine' tQ 1 ⟨some 73, .nilCheck (.tmp 72), 0, "law.go:87", #[⟨0, .data⟩], none⟩ rfl (by kernel_rfl) (Or.inl ⟨by rfl, _⟩) _; rotate_left; · (intro s h; (try dsimp only at h); go_simp; try with_reducible rfl)
   try simp only [Act.put,nA,nB,nC]
   refine' tQ 2 ⟨some 74, .fieldAddr 68 (.tmp 73) 1, 0, "law.go:87", #[⟨1, .data⟩], none⟩ rfl (by kernel_rfl) (Or.inl ⟨by rfl, _⟩) _; rotate_left; · (intro s h; (try dsimp only at h); go_simp; try with_reducible rfl)
   try simp only [Act.put,nA,nB,nC]
   refine' tQ 3 ⟨some 75, .load 3 (.tmp 74), 3, "law.go:87", #[⟨2, .data⟩], none⟩ rfl (by kernel_rfl) (Or.inl ⟨by rfl, _⟩) _; rotate_left; · (intro s h; (try dsimp only at h); go_simp; try with_reducible rfl)
   try simp only [Act.put,nA,nB,nC]
   refine' tQ 4 ⟨some 76, .fieldAddr 74 (.tmp 5) 2, 0, "law.go:87", #[], none⟩ rfl (by kernel_rfl) (Or.inl ⟨by rfl, _⟩) _; rotate_left; · (intro s h; (try dsimp only at h); go_simp; try with_reducible rfl)
   try simp only [Act.put,nA,nB,nC]
   refine' tQ 5 ⟨some 77, .load 37 (.tmp 76), 37, "law.go:87", #[⟨4, .data⟩], none⟩ rfl (by kernel_rfl) (Or.inl ⟨by rfl, _⟩) _; rotate_left; · (intro s h; (try dsimp only at h); go_simp; try with_reducible rfl)
   try simp only [Act.put,nA,nB,nC]
   refine' tQ 6 ⟨some 78, .move (.tmp 10), 3, "law.go:87", #[], none⟩ rfl (by kernel_rfl) (Or.inl ⟨by rfl, _⟩) _; rotate_left; · (intro s h; (try dsimp only at h); go_simp; try with_reducible rfl)
   try simp only [Act.put,nA,nB,nC]
   refine' tQ 7 ⟨some 79, .indexAddr 37 (.tmp 77) (.tmp 78), 0, "law.go:87", #[⟨5, .data⟩, ⟨6, .data⟩], none⟩ rfl (by kernel_rfl) (Or.inl ⟨by rfl, _⟩) _; rotate_left; · (intro s h; (try dsimp only at h); go_simp; try with_reducible rfl)
   try simp only [Act.put,nA,nB,nC]
   refine' tQ 8 ⟨some 80, .load 9 (.tmp 79), 9, "law.go:87", #[⟨7, .data⟩], none⟩ rfl (by kernel_rfl) (Or.inl ⟨by rfl, _⟩) _; rotate_left; · (intro s h; (try dsimp only at h); go_simp; try with_reducible rfl)
   try simp only [Act.put,nA,nB,nC]
   refine wpAnyH_ready (rs := [9, 13]) (by kernel_rfl) (by simp) ?_
   refine (AllReadyH.cons (o := ⟨some 81, .call ⟨.value (.func 14), #[.tmp 75, .tmp 80], #[3, 9]⟩, 25, "law.go:87", #[⟨3, .data⟩, ⟨8, .data⟩], none⟩) rfl (fun K hK => ?_) (AllReadyH.cons (o := ⟨some 11, .alloc 23, 0, "law.go:87", #[], none⟩) rfl (fun K hK => ?_) AllReadyH.nil))
   ·go_simp
    go_at_call 14
    refine (refLeaf_any wd tx _ HSz.out).mono ?_; rintro e wa ⟨rfl, ba'⟩; rw [HLk.out, HLe.out]
    have ba : Below wr.heap.size wr wa := Below.trans (Below.refl _ _).drew ba'
    refine hK.out _ _ ?_ (fun hHeld => ?_)
    ·exact keepS wa ba
    clear hK K
    try simp only [Act.put,nA,nB,nC]
    refine' tQ 10 ⟨some 71, .move (.tmp 81), 25, "law.go:87", #[⟨9, .data⟩], none⟩ rfl (by kernel_rfl) (Or.inl ⟨by rfl, _⟩) _; rotate_left; · (intro s h; (try dsimp only at h); go_simp; try with_reducible rfl)
    try simp only [Act.put,nA,nB,nC]
    refine' tQ 11 ⟨some 82, .extract (.tmp 71) 0, 23, "law.go:87", #[⟨10, .data⟩], none⟩ rfl (by kernel_rfl) (Or.inl ⟨by rfl, _⟩) _; rotate_left; · (intro s h; (try dsimp only at h); go_simp; try with_reducible rfl)
    try simp only [Act.put,nA,nB,nC]
    refine' tQ 12 ⟨some 83, .extract (.tmp 71) 1, 24, "law.go:87", #[⟨10, .data⟩, ⟨14, .gcOnly .lateStores⟩], none⟩ rfl (by kernel_rfl) (Or.inl ⟨by rfl, _⟩) _; rotate_left; · (intro s h; (try dsimp only at h); go_simp; try with_reducible rfl)
    try simp only [Act.put,nA,nB,nC]
    refine wpAnyH_ready (rs := [13]) (by kernel_rfl) (by simp) ?_
    refine (AllReadyH.cons (o := ⟨some 11, .alloc 23, 0, "law.go:87", #[], none⟩) rfl (fun K hK => ?_) AllReadyH.nil)
    obtain ⟨x, hx⟩ : ∃ x, wa.heap.size = x := ⟨_, rfl⟩
    have hxr : wr.heap.size ≤ x := by rw [← hx]; exact ba.size
    refine step_of rfl (wp_allocD rfl x hx ?_)
    intro w3 e3 b3 z3
    have B3 : Hid (Below wr.heap.size wr w3) := ba.trans (by rw [← hx] at b3; exact b3.mono ba.size)
    refine hK.out _ _ ?_ (fun hHeld => ?_)
    ·exact keepS w3 B3.out
    clear hK K ba ba' b3 hx
    try simp only [Act.put,nA,nB,nC]
    refine wpAnyH_ready (rs := [14]) (by kernel_rfl) (by simp) ?_
    refine (AllReadyH.cons (o := ⟨none, .store 23 (.tmp 11) (.tmp 82), 0, "law.go:87", #[⟨13, .data⟩, ⟨11, .data⟩, ⟨9, .chain⟩, ⟨0, .phase⟩, ⟨1, .phase⟩, ⟨2, .phase⟩, ⟨3, .phase⟩, ⟨4, .phase⟩, ⟨5, .phase⟩, ⟨6, .phase⟩, ⟨7, .phase⟩, ⟨8, .phase⟩, ⟨9, .phase⟩, ⟨10, .phase⟩, ⟨11, .phase⟩, ⟨12, .textOnly .lateStores⟩, ⟨13, .phase⟩], none⟩) rfl (fun K hK => ?_) AllReadyH.nil)
    refine step_of rfl (wp_storeD _ _ rfl x rfl zeros32 D rfl HDl.out rfl e3 ?_)
    intro wc ec bc kc zc
    have bc2 : Below wr.heap.size wr wc := B3.out.trans (bc.mono hxr)
    have Blkc := Lib.hid (heap_below Blk.out bc2 (heap_lt Blk.out))
    have Rowc := Lib.hid (Row.out.below bc2 (fun g hg => (Row.out.lt g hg).2))
    have Mzc := Lib.hid (Mz.out.then (Mod.of _ bc2))
    have Xc : Hid (DB wc x D) := ec
    have hzc : wr.heap.size ≤ wc.heap.size := bc2.size
    refine hK.out _ _ ?_ (fun hHeld => ?_)
    ·exact keepS wc bc2
    clear hK K ec bc kc bc2 B3 Blk Row Mz e3
    try simp only [Act.put,nA,nB,nC]
    refine' tQ 15 ⟨some 12, .assign (.tmp 83), 24, "law.go:87", #[⟨12, .data⟩, ⟨14, .chain⟩, ⟨0, .phase⟩, ⟨1, .phase⟩, ⟨2, .phase⟩, ⟨3, .phase⟩, ⟨4, .phase⟩, ⟨5, .phase⟩, ⟨6, .phase⟩, ⟨7, .phase⟩, ⟨8, .phase⟩, ⟨9, .phase⟩, ⟨10, .phase⟩, ⟨11, .phase⟩, ⟨12, .phase⟩, ⟨13, .phase⟩, ⟨14, .phase⟩], none⟩ rfl (by kernel_rfl) (Or.inl ⟨by rfl, _⟩) _; rotate_left; · (intro s h; (try dsimp only at h); go_simp; try with_reducible rfl)
    try simp only [Act.put,nA,nB,nC]
    refine wpAnyH_done (by kernel_rfl) ?_ _
    clear hHeld keepS
    have HXq : Hid (q < x) := by show q < x; have := HF2.out.1; have := HZr.out; omega
    have HRx : Hid (rvk.ownBlock ≠ some q ∧ rvk.ownBlock ≠ some x) := HRx0.out x hxr
    have HZ2 : Hid (z2 ≤ wc.heap.size) := by show z2 ≤ _; have := HZr.out; omega
    have cc2 : wc.cell? ⟨q, off + 2, none⟩ = some rvk := by rw [heap_cell Blkc.out, List.getElem?_toArray, List.getElem?_set_self (by have := HC8.out; omega)]
    obtain ⟨y, hy'⟩ : ∃ y, wc.heap.size = y := ⟨_, rfl⟩
    have hy := Lib.hid hy'
    clear hy'
    go_upto_region 12 with fail
    refine wp_region_held_drew (S := fun W => DB W x D) (by kernel_rfl) Xc.out (fun hHeld => ?_)
    refine' tQ 0 ⟨some 84, .move (.tmp 1), 72, "law.go:88", #[], none⟩ rfl (by kernel_rfl) (Or.inl ⟨by rfl, _⟩) _; rotate_left; · (intro s h; (try dsimp only at h); go_simp; try with_reducible rfl)
    try simp only [Act.put,nA,nB,nC]
    refine' tQ 1 ⟨some 85, .move (.tmp 1), 72, "law.go:88", #[], none⟩ rfl (by kernel_rfl) (Or.inl ⟨by rfl, _⟩) _; rotate_left; · (intro s h; (try dsimp only at h); go_simp; try with_reducible rfl)
    try simp only [Act.put,nA,nB,nC]
    refine' tQ 2 ⟨some 86, .nilCheck (.tmp 85), 0, "law.go:88", #[⟨1, .data⟩], none⟩ rfl (by kernel_rfl) (Or.inl ⟨by rfl, _⟩) _; rotate_left; · (intro s h; (try dsimp only at h); go_simp; try with_reducible rfl)
    try simp only [Act.put,nA,nB,nC]
    refine' tQ 3 ⟨some 87, .fieldAddr 68 (.tmp 86) 2, 0, "law.go:88", #[⟨2, .data⟩], none⟩ rfl (by kernel_rfl) (Or.inl ⟨by rfl, _⟩) _; rotate_left; · (intro s h; (try dsimp only at h); go_simp; try with_reducible rfl)
    try simp only [Act.put,nA,nB,nC]
    refine' tQ 5 ⟨some 89, .load 23 (.tmp 11), 23, "law.go:88", #[], none⟩ rfl (by kernel_rfl) (yieldsIf_loadD (by rfl) _ rfl (x) rfl (D) (HDl.out) (fun W hW => hW)) _
    try simp only [Act.put,nA,nB,nC]
    refine wpAnyH_ready (rs := [4, 6]) (by kernel_rfl) (by simp) ?_
    refine (AllReadyH.cons (o := ⟨some 88, .load 32 (.tmp 87), 32, "law.go:88", #[⟨3, .data⟩], none⟩) rfl (fun K hK => ?_) (AllReadyH.cons (o := ⟨some 90, .buildSlice 32 1 #[(0, .tmp 89)], 32, "law.go:88", #[⟨5, .data⟩], none⟩) rfl (fun K hK => ?_) AllReadyH.nil))
    ·go_simp
     refine hK.out _ _ ?_ (fun hHeld => ?_)
     ·exact hHeld
     clear hK K
     try simp only [Act.put,nA,nB,nC]
     refine wpAnyH_ready (rs := [6]) (by kernel_rfl) (by simp) ?_
     refine (AllReadyH.cons (o := ⟨some 90, .buildSlice 32 1 #[(0, .tmp 89)], 32, "law.go:88", #[⟨5, .data⟩], none⟩) rfl (fun K hK => ?_) AllReadyH.nil)
     set_option maxRecDepth 20000 in
     refine step_of rfl (wp_slice1 _ rfl D HDl.out rfl y hy.out ?_)
     intro w6 e6 b6 z6
     have b56 : Below wc.heap.size wc w6 := Below.trans (Below.refl _ _).drew (by rw [hy.out]; exact b6)
     have Blk6 := Lib.hid (heap_below Blkc.out b56 (heap_lt Blkc.out))
     have Row6 := Lib.hid (Rowc.out.below b56 (fun g hg => (Rowc.out.lt g hg).2))
     have X6 : Hid (DB w6 x D) := heap_below Xc.out b56 (heap_lt Xc.out)
     have Mz6 := Lib.hid (Mzc.out.then (Mod.of _ b56))
     have hz6 : wc.heap.size ≤ w6.heap.size := b56.size
     have c6 : w6.cell? ⟨q, off + 2, none⟩ = some rvk := by rw [heap_cell Blk6.out, List.getElem?_toArray, List.getElem?_set_self (by have := HC8.out; omega)]
     refine hK.out _ _ ?_ (fun hHeld => ?_)
     ·exact X6.out
     clear hK K b6 b56
     try simp only [Act.put,nA,nB,nC]
     refine wpAnyH_ready (rs := [7]) (by kernel_rfl) (by simp) ?_
     refine AllReadyH.cons (o := ⟨some 91, .call ⟨.builtin .append, #[.tmp 88, .tmp 90], #[32, 32]⟩, 32, "law.go:88", #[⟨4, .data⟩, ⟨6, .data⟩], none⟩) rfl (fun K hK => ?_) AllReadyH.nil
     (set_option maxRecDepth 20000 in refine step_of rfl (wp_appR w6 D HDl.out _ _ rfl B rvk LK rfl Row6.out HLKa.out y 1 rfl e6 (by have := HLKl.out; omega) (by omega) ?_); intro g2 cap2 w7 ho7 hg7 hs7; have m7 : Mod (fun k => rvk.ownBlock = some k) w6 w7 := Mod.grown hg7 (fun k e => e); have blk7 := m7.heap Blk6.out (fun e => HRx.out.1 e); have c7 : w7.cell? ⟨q, off + 2, none⟩ = some rvk := (by rw [heap_cell blk7, List.getElem?_toArray, List.getElem?_set_self (by have := HC8.out; omega)]); have f7 := heap_free blk7 (off + 2))
     refine hK.out _ _ ?_ (fun hHeld => ?_)
     ·exact m7.heap X6.out (fun e => HRx.out.2 e)
     clear hK K
     try simp only [Act.put,nA,nB,nC]
     refine' tQ 8 ⟨some 92, .nilCheck (.tmp 84), 0, "law.go:88", #[⟨0, .data⟩, ⟨0, .phase⟩, ⟨1, .phase⟩, ⟨2, .phase⟩, ⟨3, .phase⟩, ⟨4, .phase⟩, ⟨5, .phase⟩, ⟨6, .phase⟩, ⟨7, .phase⟩], none⟩ rfl (by kernel_rfl) (Or.inl ⟨by rfl, _⟩) _; rotate_left; · (intro s h; (try dsimp only at h); go_simp; try with_reducible rfl)
     try simp only [Act.put,nA,nB,nC]
     refine' tQ 9 ⟨some 93, .fieldAddr 68 (.tmp 92) 2, 0, "law.go:88", #[⟨8, .data⟩, ⟨0, .phase⟩, ⟨1, .phase⟩, ⟨2, .phase⟩, ⟨3, .phase⟩, ⟨4, .phase⟩, ⟨5, .phase⟩, ⟨6, .phase⟩, ⟨7, .phase⟩], none⟩ rfl (by kernel_rfl) (Or.inl ⟨by rfl, _⟩) _; rotate_left; · (intro s h; (try dsimp only at h); go_simp; try with_reducible rfl)
     try simp only [Act.put,nA,nB,nC]
     have hz7 := m7.size
     obtain ⟨nn, hnn⟩ : ∃ nn, LK.length + 1 = nn := ⟨_, rfl⟩
     rw [hnn] at ho7 ⊢
     clear hnn
     have hg8 : ∀ k, (Value.slice (some ⟨g2, 0, none⟩) nn cap2).ownBlock = some k → (Value.slice rad L.length rcap).ownBlock = some k ∨ z2 ≤ k := fun k hk => by
      obtain rfl : g2 = k := Option.some.inj hk
      rcases hs7 with h1 | h1
      ·exact RG.out _ h1
      ·right; have := HZ2.out; omega
     have hq8 : (Value.slice (some ⟨g2, 0, none⟩) nn cap2).ownBlock ≠ some q := fun e => (hg8 q e).elim (fun e => HRQ.out e) (fun e => by have := HF2.out.1; omega)
     have blk8 := heap_set (o := off + 2) blk7 (Value.slice (some ⟨g2, 0, none⟩) nn cap2)
     rw [List.setIfInBounds_toArray, List.set_set] at blk8
     have row8 : OwnR (w7.setCell ⟨q, off + 2, none⟩ (Value.slice (some ⟨g2, 0, none⟩) nn cap2)) B (Value.slice (some ⟨g2, 0, none⟩) nn cap2) (L ++ M.take (k + 1)) := by
      rw [HMt.out]
      exact ho7.mod (Mod.set (S := fun k => k = q) w7 rfl (Value.slice (some ⟨g2, 0, none⟩) nn cap2)) (fun k hk e => hq8 (by rw [hk, e]))
     have m8 : Mod (fun k => k = q ∨ (Value.slice rad L.length rcap).ownBlock = some k) w2 (w7.setCell ⟨q, off + 2, none⟩ (Value.slice (some ⟨g2, 0, none⟩) nn cap2)) := ((Mz6.out.trans m7 (fun i hi e => (RG.out i e).elim .inr (fun h => by have := HZ2.out; omega)))).then (Mod.set (o := off + 2) w7 (.inl rfl) _)
     have hx8 : DB (w7.setCell ⟨q, off + 2, none⟩ (Value.slice (some ⟨g2, 0, none⟩) nn cap2)) x D := heap_setOther (a := ⟨q, off + 2, none⟩) (m7.heap X6.out (fun e => HRx.out.2 e)) (by show x ≠ q; have := HXq.out; omega) (Value.slice (some ⟨g2, 0, none⟩) nn cap2)
     have HZ8 : Hid (z2 ≤ (w7.setCell ⟨q, off + 2, none⟩ (Value.slice (some ⟨g2, 0, none⟩) nn cap2)).heap.size) := by show _ ≤ _; have h1 := m8.size; have h2 := HZ20.out.1; omega
     have Blk8 := Lib.hid blk8
     have Row8 := Lib.hid row8
     have Mz8 := Lib.hid m8
     have RG8 := Lib.hid hg8
     refine wpAnyH_ready (rs := [10]) (by kernel_rfl) (by simp) ?_
     refine AllReadyH.cons (o := ⟨none, .store 32 (.tmp 93) (.tmp 91), 0, "law.go:88", #[⟨9, .data⟩, ⟨7, .data⟩, ⟨7, .chain⟩, ⟨0, .phase⟩, ⟨1, .phase⟩, ⟨2, .phase⟩, ⟨3, .phase⟩, ⟨4, .phase⟩, ⟨5, .phase⟩, ⟨6, .phase⟩, ⟨7, .phase⟩], none⟩) rfl (fun K hK => ?_) AllReadyH.nil
     go_simp
     refine hK.out _ _ ?_ (fun hHeld => ?_)
     ·exact hx8
     clear hK K
     try simp only [Act.put,nA,nB,nC]
     refine wpAnyH_done (by kernel_rfl) ?_ _
     clear hHeld hx8 m7 hg7 ho7 hs7 c7 f7 blk7 blk8 row8 m8 hg8 hq8 Row6 Blk6 X6 Mz6 e6 c6
     go_wp2_with fail
     exact ⟨⟨k + 1, _, by omega, Blk8, Row8, Mz8, RG8, HZ8, by go_num⟩, by simp [intOf]; omega⟩
    ·set_option maxRecDepth 20000 in
     refine step_of rfl (wp_slice1 _ rfl D HDl.out rfl y hy.out ?_)
     intro w6 e6 b6 z6
     have b56 : Below wc.heap.size wc w6 := Below.trans (Below.refl _ _).drew (by rw [hy.out]; exact b6)
     have Blk6 := Lib.hid (heap_below Blkc.out b56 (heap_lt Blkc.out))
     have Row6 := Lib.hid (Rowc.out.below b56 (fun g hg => (Rowc.out.lt g hg).2))
     have X6 : Hid (DB w6 x D) := heap_below Xc.out b56 (heap_lt Xc.out)
     have Mz6 := Lib.hid (Mzc.out.then (Mod.of _ b56))
     have hz6 : wc.heap.size ≤ w6.heap.size := b56.size
     have c6 : w6.cell? ⟨q, off + 2, none⟩ = some rvk := by rw [heap_cell Blk6.out, List.getElem?_toArray, List.getElem?_set_self (by have := HC8.out; omega)]
     refine hK.out _ _ ?_ (fun hHeld => ?_)
     ·exact X6.out
     clear hK K b6 b56
     try simp only [Act.put,nA,nB,nC]
     refine wpAnyH_ready (rs := [4]) (by kernel_rfl) (by simp) ?_
     refine (AllReadyH.cons (o := ⟨some 88, .load 32 (.tmp 87), 32, "law.go:88", #[⟨3, .data⟩], none⟩) rfl (fun K hK => ?_) AllReadyH.nil)
     go_simp
     refine hK.out _ _ ?_ (fun hHeld => ?_)
     ·exact hHeld
     clear hK K
     try simp only [Act.put,nA,nB,nC]
     refine wpAnyH_ready (rs := [7]) (by kernel_rfl) (by simp) ?_
     refine AllReadyH.cons (o := ⟨some 91, .call ⟨.builtin .append, #[.tmp 88, .tmp 90], #[32, 32]⟩, 32, "law.go:88", #[⟨4, .data⟩, ⟨6, .data⟩], none⟩) rfl (fun K hK => ?_) AllReadyH.nil
     (set_option maxRecDepth 20000 in refine step_of rfl (wp_appR w6 D HDl.out _ _ rfl B rvk LK rfl Row6.out HLKa.out y 1 rfl e6 (by have := HLKl.out; omega) (by omega) ?_); intro g2 cap2 w7 ho7 hg7 hs7; have m7 : Mod (fun k => rvk.ownBlock = some k) w6 w7 := Mod.grown hg7 (fun k e => e); have blk7 := m7.heap Blk6.out (fun e => HRx.out.1 e); have c7 : w7.cell? ⟨q, off + 2, none⟩ = some rvk := (by rw [heap_cell blk7, List.getElem?_toArray, List.getElem?_set_self (by have := HC8.out; omega)]); have f7 := heap_free blk7 (off + 2))
     refine hK.out _ _ ?_ (fun hHeld => ?_)
     ·exact m7.heap X6.out (fun e => HRx.out.2 e)
     clear hK K
     try simp only [Act.put,nA,nB,nC]
     refine' tQ 8 ⟨some 92, .nilCheck (.tmp 84), 0, "law.go:88", #[⟨0, .data⟩, ⟨0, .phase⟩, ⟨1, .phase⟩, ⟨2, .phase⟩, ⟨3, .phase⟩, ⟨4, .phase⟩, ⟨5, .phase⟩, ⟨6, .phase⟩, ⟨7, .phase⟩], none⟩ rfl (by kernel_rfl) (Or.inl ⟨by rfl, _⟩) _; rotate_left; · (intro s h; (try dsimp only at h); go_simp; try with_reducible rfl)
     try simp only [Act.put,nA,nB,nC]
     refine' tQ 9 ⟨some 93, .fieldAddr 68 (.tmp 92) 2, 0, "law.go:88", #[⟨8, .data⟩, ⟨0, .phase⟩, ⟨1, .phase⟩, ⟨2, .phase⟩, ⟨3, .phase⟩, ⟨4, .phase⟩, ⟨5, .phase⟩, ⟨6, .phase⟩, ⟨7, .phase⟩], none⟩ rfl (by kernel_rfl) (Or.inl ⟨by rfl, _⟩) _; rotate_left; · (intro s h; (try dsimp only at h); go_simp; try with_reducible rfl)
     try simp only [Act.put,nA,nB,nC]
     have hz7 := m7.size
     obtain ⟨nn, hnn⟩ : ∃ nn, LK.length + 1 = nn := ⟨_, rfl⟩
     rw [hnn] at ho7 ⊢
     clear hnn
     have hg8 : ∀ k, (Value.slice (some ⟨g2, 0, none⟩) nn cap2).ownBlock = some k → (Value.slice rad L.length rcap).ownBlock = some k ∨ z2 ≤ k := fun k hk => by
      obtain rfl : g2 = k := Option.some.inj hk
      rcases hs7 with h1 | h1
      ·exact RG.out _ h1
      ·right; have := HZ2.out; omega
     have hq8 : (Value.slice (some ⟨g2, 0, none⟩) nn cap2).ownBlock ≠ some q := fun e => (hg8 q e).elim (fun e => HRQ.out e) (fun e => by have := HF2.out.1; omega)
     have blk8 := heap_set (o := off + 2) blk7 (Value.slice (some ⟨g2, 0, none⟩) nn cap2)
     rw [List.setIfInBounds_toArray, List.set_set] at blk8
     have row8 : OwnR (w7.setCell ⟨q, off + 2, none⟩ (Value.slice (some ⟨g2, 0, none⟩) nn cap2)) B (Value.slice (some ⟨g2, 0, none⟩) nn cap2) (L ++ M.take (k + 1)) := by
      rw [HMt.out]
      exact ho7.mod (Mod.set (S := fun k => k = q) w7 rfl (Value.slice (some ⟨g2, 0, none⟩) nn cap2)) (fun k hk e => hq8 (by rw [hk, e]))
     have m8 : Mod (fun k => k = q ∨ (Value.slice rad L.length rcap).ownBlock = some k) w2 (w7.setCell ⟨q, off + 2, none⟩ (Value.slice (some ⟨g2, 0, none⟩) nn cap2)) := ((Mz6.out.trans m7 (fun i hi e => (RG.out i e).elim .inr (fun h => by have := HZ2.out; omega)))).then (Mod.set (o := off + 2) w7 (.inl rfl) _)
     have hx8 : DB (w7.setCell ⟨q, off + 2, none⟩ (Value.slice (some ⟨g2, 0, none⟩) nn cap2)) x D := heap_setOther (a := ⟨q, off + 2, none⟩) (m7.heap X6.out (fun e => HRx.out.2 e)) (by show x ≠ q; have := HXq.out; omega) (Value.slice (some ⟨g2, 0, none⟩) nn cap2)
     have HZ8 : Hid (z2 ≤ (w7.setCell ⟨q, off + 2, none⟩ (Value.slice (some ⟨g2, 0, none⟩) nn cap2)).heap.size) := by show _ ≤ _; have h1 := m8.size; have h2 := HZ20.out.1; omega
     have Blk8 := Lib.hid blk8
     have Row8 := Lib.hid row8
     have Mz8 := Lib.hid m8
     have RG8 := Lib.hid hg8
     refine wpAnyH_ready (rs := [10]) (by kernel_rfl) (by simp) ?_
     refine AllReadyH.cons (o := ⟨none, .store 32 (.tmp 93) (.tmp 91), 0, "law.go:88", #[⟨9, .data⟩, ⟨7, .data⟩, ⟨7, .chain⟩, ⟨0, .phase⟩, ⟨1, .phase⟩, ⟨2, .phase⟩, ⟨3, .phase⟩, ⟨4, .phase⟩, ⟨5, .phase⟩, ⟨6, .phase⟩, ⟨7, .phase⟩], none⟩) rfl (fun K hK => ?_) AllReadyH.nil
     go_simp
     refine hK.out _ _ ?_ (fun hHeld => ?_)
     ·exact hx8
     clear hK K
     try simp only [Act.put,nA,nB,nC]
     refine wpAnyH_done (by kernel_rfl) ?_ _
     clear hHeld hx8 m7 hg7 ho7 hs7 c7 f7 blk7 blk8 row8 m8 hg8 hq8 Row6 Blk6 X6 Mz6 e6 c6
     go_wp2_with fail
     exact ⟨⟨k + 1, _, by omega, Blk8, Row8, Mz8, RG8, HZ8, by go_num⟩, by simp [intOf]; omega⟩
   ·obtain ⟨x, hx⟩ : ∃ x, wr.heap.size = x := ⟨_, rfl⟩
    refine step_of rfl (wp_allocD rfl x hx ?_)
    intro wb eb bb zb
    have hbb : Below wr.heap.size wr wb := Below.trans (Below.refl _ _).drew (by rw [hx]; exact bb)
    refine hK.out _ _ ?_ (fun hHeld => ?_)
    ·exact keepS wb hbb
    clear hK K
    try simp only [Act.put,nA,nB,nC]
    refine wpAnyH_ready (rs := [9]) (by kernel_rfl) (by simp) ?_
    refine AllReadyH.cons (o := ⟨some 81, .call ⟨.value (.func 14), #[.tmp 75, .tmp 80], #[3, 9]⟩, 25, "law.go:87", #[⟨3, .data⟩, ⟨8, .data⟩], none⟩) rfl (fun K hK => ?_) AllReadyH.nil
    (go_simp; (go_at_call 14; refine (refLeaf_any wd tx _ HSz.out).mono ?_; rintro e w3 ⟨rfl, b3⟩; rw [HLk.out, HLe.out]; have B3 : Hid (Below wr.heap.size wr w3) := hbb.trans (b3.mono hbb.size)))
    refine hK.out _ _ ?_ (fun hHeld => ?_)
    ·exact keepS w3 B3.out
    clear hK K
    try simp only [Act.put,nA,nB,nC]
    have e3 := heap_below eb b3 (heap_lt eb)
    have hxr : wr.heap.size ≤ x := by omega
    clear b3 hbb bb eb
    refine' tQ 10 ⟨some 71, .move (.tmp 81), 25, "law.go:87", #[⟨9, .data⟩], none⟩ rfl (by kernel_rfl) (Or.inl ⟨by rfl, _⟩) _; rotate_left; · (intro s h; (try dsimp only at h); go_simp; try with_reducible rfl)
    try simp only [Act.put,nA,nB,nC]
    refine' tQ 11 ⟨some 82, .extract (.tmp 71) 0, 23, "law.go:87", #[⟨10, .data⟩], none⟩ rfl (by kernel_rfl) (Or.inl ⟨by rfl, _⟩) _; rotate_left; · (intro s h; (try dsimp only at h); go_simp; try with_reducible rfl)
    try simp only [Act.put,nA,nB,nC]
    refine' tQ 12 ⟨some 83, .extract (.tmp 71) 1, 24, "law.go:87", #[⟨10, .data⟩, ⟨14, .gcOnly .lateStores⟩], none⟩ rfl (by kernel_rfl) (Or.inl ⟨by rfl, _⟩) _; rotate_left; · (intro s h; (try dsimp only at h); go_simp; try with_reducible rfl)
    try simp only [Act.put,nA,nB,nC]
    refine wpAnyH_ready (rs := [14]) (by kernel_rfl) (by simp) ?_
    refine (AllReadyH.cons (o := ⟨none, .store 23 (.tmp 11) (.tmp 82), 0, "law.go:87", #[⟨13, .data⟩, ⟨11, .data⟩, ⟨9, .chain⟩, ⟨0, .phase⟩, ⟨1, .phase⟩, ⟨2, .phase⟩, ⟨3, .phase⟩, ⟨4, .phase⟩, ⟨5, .phase⟩, ⟨6, .phase⟩, ⟨7, .phase⟩, ⟨8, .phase⟩, ⟨9, .phase⟩, ⟨10, .phase⟩, ⟨11, .phase⟩, ⟨12, .textOnly .lateStores⟩, ⟨13, .phase⟩], none⟩) rfl (fun K hK => ?_) AllReadyH.nil)
    refine step_of rfl (wp_storeD _ _ rfl x rfl zeros32 D rfl HDl.out rfl e3 ?_)
    intro wc ec bc kc zc
    have bc2 : Below wr.heap.size wr wc := B3.out.trans (bc.mono hxr)
    have Blkc := Lib.hid (heap_below Blk.out bc2 (heap_lt Blk.out))
    have Rowc := Lib.hid (Row.out.below bc2 (fun g hg => (Row.out.lt g hg).2))
    have Mzc := Lib.hid (Mz.out.then (Mod.of _ bc2))
    have Xc : Hid (DB wc x D) := ec
    have hzc : wr.heap.size ≤ wc.heap.size := bc2.size
    refine hK.out _ _ ?_ (fun hHeld => ?_)
    ·exact keepS wc bc2
    clear hK K ec bc kc bc2 B3 Blk Row Mz e3
    try simp only [Act.put,nA,nB,nC]
    refine' tQ 15 ⟨some 12, .assign (.tmp 83), 24, "law.go:87", #[⟨12, .data⟩, ⟨14, .chain⟩, ⟨0, .phase⟩, ⟨1, .phase⟩, ⟨2, .phase⟩, ⟨3, .phase⟩, ⟨4, .phase⟩, ⟨5, .phase⟩, ⟨6, .phase⟩, ⟨7, .phase⟩, ⟨8, .phase⟩, ⟨9, .phase⟩, ⟨10, .phase⟩, ⟨11, .phase⟩, ⟨12, .phase⟩, ⟨13, .phase⟩, ⟨14, .phase⟩], none⟩ rfl (by kernel_rfl) (Or.inl ⟨by rfl, _⟩) _; rotate_left; · (intro s h; (try dsimp only at h); go_simp; try with_reducible rfl)
    try simp only [Act.put,nA,nB,nC]
    refine wpAnyH_done (by kernel_rfl) ?_ _
    clear hHeld keepS
    have HXq : Hid (q < x) := by show q < x; have := HF2.out.1; have := HZr.out; omega
    have HRx : Hid (rvk.ownBlock ≠ some q ∧ rvk.ownBlock ≠ some x) := HRx0.out x hxr
    have HZ2 : Hid (z2 ≤ wc.heap.size) := by show z2 ≤ _; have := HZr.out; omega
    have cc2 : wc.cell? ⟨q, off + 2, none⟩ = some rvk := by rw [heap_cell Blkc.out, List.getElem?_toArray, List.getElem?_set_self (by have := HC8.out; omega)]
    obtain ⟨y, hy'⟩ : ∃ y, wc.heap.size = y := ⟨_, rfl⟩
    have hy := Lib.hid hy'
    clear hy'
    go_upto_region 12 with fail
    refine wp_region_held_drew (S := fun W => DB W x D) (by kernel_rfl) Xc.out (fun hHeld => ?_)
    refine' tQ 0 ⟨some 84, .move (.tmp 1), 72, "law.go:88", #[], none⟩ rfl (by kernel_rfl) (Or.inl ⟨by rfl, _⟩) _; rotate_left; · (intro s h; (try dsimp only at h); go_simp; try with_reducible rfl)
    try simp only [Act.put,nA,nB,nC]
    refine' tQ 1 ⟨some 85, .move (.tmp 1), 72, "law.go:88", #[], none⟩ rfl (by kernel_rfl) (Or.inl ⟨by rfl, _⟩) _; rotate_left; · (intro s h; (try dsimp only at h); go_simp; try with_reducible rfl)
    try simp only [Act.put,nA,nB,nC]
    refine' tQ 2 ⟨some 86, .nilCheck (.tmp 85), 0, "law.go:88", #[⟨1, .data⟩], none⟩ rfl (by kernel_rfl) (Or.inl ⟨by rfl, _⟩) _; rotate_left; · (intro s h; (try dsimp only at h); go_simp; try with_reducible rfl)
    try simp only [Act.put,nA,nB,nC]
    refine' tQ 3 ⟨some 87, .fieldAddr 68 (.tmp 86) 2, 0, "law.go:88", #[⟨2, .data⟩], none⟩ rfl (by kernel_rfl) (Or.inl ⟨by rfl, _⟩) _; rotate_left; · (intro s h; (try dsimp only at h); go_simp; try with_reducible rfl)
    try simp only [Act.put,nA,nB,nC]
    refine' tQ 5 ⟨some 89, .load 23 (.tmp 11), 23, "law.go:88", #[], none⟩ rfl (by kernel_rfl) (yieldsIf_loadD (by rfl) _ rfl (x) rfl (D) (HDl.out) (fun W hW => hW)) _
    try simp only [Act.put,nA,nB,nC]
    refine wpAnyH_ready (rs := [4, 6]) (by kernel_rfl) (by simp) ?_
    refine (AllReadyH.cons (o := ⟨some 88, .load 32 (.tmp 87), 32, "law.go:88", #[⟨3, .data⟩], none⟩) rfl (fun K hK => ?_) (AllReadyH.cons (o := ⟨some 90, .buildSlice 32 1 #[(0, .tmp 89)], 32, "law.go:88", #[⟨5, .data⟩], none⟩) rfl (fun K hK => ?_) AllReadyH.nil))
    ·go_simp
     refine hK.out _ _ ?_ (fun hHeld => ?_)
     ·exact hHeld
     clear hK K
     try simp only [Act.put,nA,nB,nC]
     refine wpAnyH_ready (rs := [6]) (by kernel_rfl) (by simp) ?_
     refine (AllReadyH.cons (o := ⟨some 90, .buildSlice 32 1 #[(0, .tmp 89)], 32, "law.go:88", #[⟨5, .data⟩], none⟩) rfl (fun K hK => ?_) AllReadyH.nil)
     set_option maxRecDepth 20000 in
     refine step_of rfl (wp_slice1 _ rfl D HDl.out rfl y hy.out ?_)
     intro w6 e6 b6 z6
     have b56 : Below wc.heap.size wc w6 := Below.trans (Below.refl _ _).drew (by rw [hy.out]; exact b6)
     have Blk6 := Lib.hid (heap_below Blkc.out b56 (heap_lt Blkc.out))
     have Row6 := Lib.hid (Rowc.out.below b56 (fun g hg => (Rowc.out.lt g hg).2))
     have X6 : Hid (DB w6 x D) := heap_below Xc.out b56 (heap_lt Xc.out)
     have Mz6 := Lib.hid (Mzc.out.then (Mod.of _ b56))
     have hz6 : wc.heap.size ≤ w6.heap.size := b56.size
     have c6 : w6.cell? ⟨q, off + 2, none⟩ = some rvk := by rw [heap_cell Blk6.out, List.getElem?_toArray, List.getElem?_set_self (by have := HC8.out; omega)]
     refine hK.out _ _ ?_ (fun hHeld => ?_)
     ·exact X6.out
     clear hK K b6 b56
     try simp only [Act.put,nA,nB,nC]
     refine wpAnyH_ready (rs := [7]) (by kernel_rfl) (by simp) ?_
     refine AllReadyH.cons (o := ⟨some 91, .call ⟨.builtin .append, #[.tmp 88, .tmp 90], #[32, 32]⟩, 32, "law.go:88", #[⟨4, .data⟩, ⟨6, .data⟩], none⟩) rfl (fun K hK => ?_) AllReadyH.nil
     (set_option maxRecDepth 20000 in refine step_of rfl (wp_appR w6 D HDl.out _ _ rfl B rvk LK rfl Row6.out HLKa.out y 1 rfl e6 (by have := HLKl.out; omega) (by omega) ?_); intro g2 cap2 w7 ho7 hg7 hs7; have m7 : Mod (fun k => rvk.ownBlock = some k) w6 w7 := Mod.grown hg7 (fun k e => e); have blk7 := m7.heap Blk6.out (fun e => HRx.out.1 e); have c7 : w7.cell? ⟨q, off + 2, none⟩ = some rvk := (by rw [heap_cell blk7, List.getElem?_toArray, List.getElem?_set_self (by have := HC8.out; omega)]); have f7 := heap_free blk7 (off + 2))
     refine hK.out _ _ ?_ (fun hHeld => ?_)
     ·exact m7.heap X6.out (fun e => HRx.out.2 e)
     clear hK K
     try simp only [Act.put,nA,nB,nC]
     refine' tQ 8 ⟨some 92, .nilCheck (.tmp 84), 0, "law.go:88", #[⟨0, .data⟩, ⟨0, .phase⟩, ⟨1, .phase⟩, ⟨2, .phase⟩, ⟨3, .phase⟩, ⟨4, .phase⟩, ⟨5, .phase⟩, ⟨6, .phase⟩, ⟨7, .phase⟩], none⟩ rfl (by kernel_rfl) (Or.inl ⟨by rfl, _⟩) _; rotate_left; · (intro s h; (try dsimp only at h); go_simp; try with_reducible rfl)
     try simp only [Act.put,nA,nB,nC]
     refine' tQ 9 ⟨some 93, .fieldAddr 68 (.tmp 92) 2, 0, "law.go:88", #[⟨8, .data⟩, ⟨0, .phase⟩, ⟨1, .phase⟩, ⟨2, .phase⟩, ⟨3, .phase⟩, ⟨4, .phase⟩, ⟨5, .phase⟩, ⟨6, .phase⟩, ⟨7, .phase⟩], none⟩ rfl (by kernel_rfl) (Or.inl ⟨by rfl, _⟩) _; rotate_left; · (intro s h; (try dsimp only at h); go_simp; try with_reducible rfl)
     try simp only [Act.put,nA,nB,nC]
     have hz7 := m7.size
     obtain ⟨nn, hnn⟩ : ∃ nn, LK.length + 1 = nn := ⟨_, rfl⟩
     rw [hnn] at ho7 ⊢
     clear hnn
     have hg8 : ∀ k, (Value.slice (some ⟨g2, 0, none⟩) nn cap2).ownBlock = some k → (Value.slice rad L.length rcap).ownBlock = some k ∨ z2 ≤ k := fun k hk => by
      obtain rfl : g2 = k := Option.some.inj hk
      rcases hs7 with h1 | h1
      ·exact RG.out _ h1
      ·right; have := HZ2.out; omega
     have hq8 : (Value.slice (some ⟨g2, 0, none⟩) nn cap2).ownBlock ≠ some q := fun e => (hg8 q e).elim (fun e => HRQ.out e) (fun e => by have := HF2.out.1; omega)
     have blk8 := heap_set (o := off + 2) blk7 (Value.slice (some ⟨g2, 0, none⟩) nn cap2)
     rw [List.setIfInBounds_toArray, List.set_set] at blk8
     have row8 : OwnR (w7.setCell ⟨q, off + 2, none⟩ (Value.slice (some ⟨g2, 0, none⟩) nn cap2)) B (Value.slice (some ⟨g2, 0, none⟩) nn cap2) (L ++ M.take (k + 1)) := by
      rw [HMt.out]
      exact ho7.mod (Mod.set (S := fun k => k = q) w7 rfl (Value.slice (some ⟨g2, 0, none⟩) nn cap2)) (fun k hk e => hq8 (by rw [hk, e]))
     have m8 : Mod (fun k => k = q ∨ (Value.slice rad L.length rcap).ownBlock = some k) w2 (w7.setCell ⟨q, off + 2, none⟩ (Value.slice (some ⟨g2, 0, none⟩) nn cap2)) := ((Mz6.out.trans m7 (fun i hi e => (RG.out i e).elim .inr (fun h => by have := HZ2.out; omega)))).then (Mod.set (o := off + 2) w7 (.inl rfl) _)
     have hx8 : DB (w7.setCell ⟨q, off + 2, none⟩ (Value.slice (some ⟨g2, 0, none⟩) nn cap2)) x D := heap_setOther (a := ⟨q, off + 2, none⟩) (m7.heap X6.out (fun e => HRx.out.2 e)) (by show x ≠ q; have := HXq.out; omega) (Value.slice (some ⟨g2, 0, none⟩) nn cap2)
     have HZ8 : Hid (z2 ≤ (w7.setCell ⟨q, off + 2, none⟩ (Value.slice (some ⟨g2, 0, none⟩) nn cap2)).heap.size) := by show _ ≤ _; have h1 := m8.size; have h2 := HZ20.out.1; omega
     have Blk8 := Lib.hid blk8
     have Row8 := Lib.hid row8
     have Mz8 := Lib.hid m8
     have RG8 := Lib.hid hg8
     refine wpAnyH_ready (rs := [10]) (by kernel_rfl) (by simp) ?_
     refine AllReadyH.cons (o := ⟨none, .store 32 (.tmp 93) (.tmp 91), 0, "law.go:88", #[⟨9, .data⟩, ⟨7, .data⟩, ⟨7, .chain⟩, ⟨0, .phase⟩, ⟨1, .phase⟩, ⟨2, .phase⟩, ⟨3, .phase⟩, ⟨4, .phase⟩, ⟨5, .phase⟩, ⟨6, .phase⟩, ⟨7, .phase⟩], none⟩) rfl (fun K hK => ?_) AllReadyH.nil
     go_simp
     refine hK.out _ _ ?_ (fun hHeld => ?_)
     ·exact hx8
     clear hK K
     try simp only [Act.put,nA,nB,nC]
     refine wpAnyH_done (by kernel_rfl) ?_ _
     clear hHeld hx8 m7 hg7 ho7 hs7 c7 f7 blk7 blk8 row8 m8 hg8 hq8 Row6 Blk6 X6 Mz6 e6 c6
     go_wp2_with fail
     exact ⟨⟨k + 1, _, by omega, Blk8, Row8, Mz8, RG8, HZ8, by go_num⟩, by simp [intOf]; omega⟩
    ·set_option maxRecDepth 20000 in
     refine step_of rfl (wp_slice1 _ rfl D HDl.out rfl y hy.out ?_)
     intro w6 e6 b6 z6
     have b56 : Below wc.heap.size wc w6 := Below.trans (Below.refl _ _).drew (by rw [hy.out]; exact b6)
     have Blk6 := Lib.hid (heap_below Blkc.out b56 (heap_lt Blkc.out))
     have Row6 := Lib.hid (Rowc.out.below b56 (fun g hg => (Rowc.out.lt g hg).2))
     have X6 : Hid (DB w6 x D) := heap_below Xc.out b56 (heap_lt Xc.out)
     have Mz6 := Lib.hid (Mzc.out.then (Mod.of _ b56))
     have hz6 : wc.heap.size ≤ w6.heap.size := b56.size
     have c6 : w6.cell? ⟨q, off + 2, none⟩ = some rvk := by rw [heap_cell Blk6.out, List.getElem?_toArray, List.getElem?_set_self (by have := HC8.out; omega)]
     refine hK.out _ _ ?_ (fun hHeld => ?_)
     ·exact X6.out
     clear hK K b6 b56
     try simp only [Act.put,nA,nB,nC]
     refine wpAnyH_ready (rs := [4]) (by kernel_rfl) (by simp) ?_
     refine (AllReadyH.cons (o := ⟨some 88, .load 32 (.tmp 87), 32, "law.go:88", #[⟨3, .data⟩], none⟩) rfl (fun K hK => ?_) AllReadyH.nil)
     go_simp
     refine hK.out _ _ ?_ (fun hHeld => ?_)
     ·exact hHeld
     clear hK K
     try simp only [Act.put,nA,nB,nC]
     refine wpAnyH_ready (rs := [7]) (by kernel_rfl) (by simp) ?_
     refine AllReadyH.cons (o := ⟨some 91, .call ⟨.builtin .append, #[.tmp 88, .tmp 90], #[32, 32]⟩, 32, "law.go:88", #[⟨4, .data⟩, ⟨6, .data⟩], none⟩) rfl (fun K hK => ?_) AllReadyH.nil
     (set_option maxRecDepth 20000 in refine step_of rfl (wp_appR w6 D HDl.out _ _ rfl B rvk LK rfl Row6.out HLKa.out y 1 rfl e6 (by have := HLKl.out; omega) (by omega) ?_); intro g2 cap2 w7 ho7 hg7 hs7; have m7 : Mod (fun k => rvk.ownBlock = some k) w6 w7 := Mod.grown hg7 (fun k e => e); have blk7 := m7.heap Blk6.out (fun e => HRx.out.1 e); have c7 : w7.cell? ⟨q, off + 2, none⟩ = some rvk := (by rw [heap_cell blk7, List.getElem?_toArray, List.getElem?_set_self (by have := HC8.out; omega)]); have f7 := heap_free blk7 (off + 2))
     refine hK.out _ _ ?_ (fun hHeld => ?_)
     ·exact m7.heap X6.out (fun e => HRx.out.2 e)
     clear hK K
     try simp only [Act.put,nA,nB,nC]
     refine' tQ 8 ⟨some 92, .nilCheck (.tmp 84), 0, "law.go:88", #[⟨0, .data⟩, ⟨0, .phase⟩, ⟨1, .phase⟩, ⟨2, .phase⟩, ⟨3, .phase⟩, ⟨4, .phase⟩, ⟨5, .phase⟩, ⟨6, .phase⟩, ⟨7, .phase⟩], none⟩ rfl (by kernel_rfl) (Or.inl ⟨by rfl, _⟩) _; rotate_left; · (intro s h; (try dsimp only at h); go_simp; try with_reducible rfl)
     try simp only [Act.put,nA,nB,nC]
     refine' tQ 9 ⟨some 93, .fieldAddr 68 (.tmp 92) 2, 0, "law.go:88", #[⟨8, .data⟩, ⟨0, .phase⟩, ⟨1, .phase⟩, ⟨2, .phase⟩, ⟨3, .phase⟩, ⟨4, .phase⟩, ⟨5, .phase⟩, ⟨6, .phase⟩, ⟨7, .phase⟩], none⟩ rfl (by kernel_rfl) (Or.inl ⟨by rfl, _⟩) _; rotate_left; · (intro s h; (try dsimp only at h); go_simp; try with_reducible rfl)
     try simp only [Act.put,nA,nB,nC]
     have hz7 := m7.size
     obtain ⟨nn, hnn⟩ : ∃ nn, LK.length + 1 = nn := ⟨_, rfl⟩
     rw [hnn] at ho7 ⊢
     clear hnn
     have hg8 : ∀ k, (Value.slice (some ⟨g2, 0, none⟩) nn cap2).ownBlock = some k → (Value.slice rad L.length rcap).ownBlock = some k ∨ z2 ≤ k := fun k hk => by
      obtain rfl : g2 = k := Option.some.inj hk
      rcases hs7 with h1 | h1
      ·exact RG.out _ h1
      ·right; have := HZ2.out; omega
     have hq8 : (Value.slice (some ⟨g2, 0, none⟩) nn cap2).ownBlock ≠ some q := fun e => (hg8 q e).elim (fun e => HRQ.out e) (fun e => by have := HF2.out.1; omega)
     have blk8 := heap_set (o := off + 2) blk7 (Value.slice (some ⟨g2, 0, none⟩) nn cap2)
     rw [List.setIfInBounds_toArray, List.set_set] at blk8
     have row8 : OwnR (w7.setCell ⟨q, off + 2, none⟩ (Value.slice (some ⟨g2, 0, none⟩) nn cap2)) B (Value.slice (some ⟨g2, 0, none⟩) nn cap2) (L ++ M.take (k + 1)) := by
      rw [HMt.out]
      exact ho7.mod (Mod.set (S := fun k => k = q) w7 rfl (Value.slice (some ⟨g2, 0, none⟩) nn cap2)) (fun k hk e => hq8 (by rw [hk, e]))
     have m8 : Mod (fun k => k = q ∨ (Value.slice rad L.length rcap).ownBlock = some k) w2 (w7.setCell ⟨q, off + 2, none⟩ (Value.slice (some ⟨g2, 0, none⟩) nn cap2)) := ((Mz6.out.trans m7 (fun i hi e => (RG.out i e).elim .inr (fun h => by have := HZ2.out; omega)))).then (Mod.set (o := off + 2) w7 (.inl rfl) _)
     have hx8 : DB (w7.setCell ⟨q, off + 2, none⟩ (Value.slice (some ⟨g2, 0, none⟩) nn cap2)) x D := heap_setOther (a := ⟨q, off + 2, none⟩) (m7.heap X6.out (fun e => HRx.out.2 e)) (by show x ≠ q; have := HXq.out; omega) (Value.slice (some ⟨g2, 0, none⟩) nn cap2)
     have HZ8 : Hid (z2 ≤ (w7.setCell ⟨q, off + 2, none⟩ (Value.slice (some ⟨g2, 0, none⟩) nn cap2)).heap.size) := by show _ ≤ _; have h1 := m8.size; have h2 := HZ20.out.1; omega
     have Blk8 := Lib.hid blk8
     have Row8 := Lib.hid row8
     have Mz8 := Lib.hid m8
     have RG8 := Lib.hid hg8
     refine wpAnyH_ready (rs := [10]) (by kernel_rfl) (by simp) ?_
     refine AllReadyH.cons (o := ⟨none, .store 32 (.tmp 93) (.tmp 91), 0, "law.go:88", #[⟨9, .data⟩, ⟨7, .data⟩, ⟨7, .chain⟩, ⟨0, .phase⟩, ⟨1, .phase⟩, ⟨2, .phase⟩, ⟨3, .phase⟩, ⟨4, .phase⟩, ⟨5, .phase⟩, ⟨6, .phase⟩, ⟨7, .phase⟩], none⟩) rfl (fun K hK => ?_) AllReadyH.nil
     go_simp
     refine hK.out _ _ ?_ (fun hHeld => ?_)
     ·exact hx8
     clear hK K
     try simp only [Act.put,nA,nB,nC]
     refine wpAnyH_done (by kernel_rfl) ?_ _
     clear hHeld hx8 m7 hg7 ho7 hs7 c7 f7 blk7 blk8 row8 m8 hg8 hq8 Row6 Blk6 X6 Mz6 e6 c6
     go_wp2_with fail
     exact ⟨⟨k + 1, _, by omega, Blk8, Row8, Mz8, RG8, HZ8, by go_num⟩, by simp [intOf]; omega⟩
  case neg =>
   have dk : decide (k < ss.length) = false := decide_eq_false hlt
   have dk2 : decide ((k : Int) < (ss.length : Int)) = false := decide_eq_false (by omega)
   have hfull : M.take k = M := List.take_of_length_le (by rw [HMl.out]; omega)
   rw [hfull] at Row
   have lW : LogB wr B p b lv2 wd (L ++ M) := L2.out.mod Mz.out (fun e => e.elim (fun e => HQP.out.1 e.symm) (fun e => HQP.out.2.2.1 e)) (fun e => e.elim (fun e => HQP.out.2.1 e.symm) (fun e => HQP.out.2.2.2.1 e)) (fun k hk e => e.elim (fun e => HQP.out.2.2.2.2.1 (by rw [hk, e])) (fun e => HQP.out.2.2.2.2.2 k e hk))
   have LW := Lib.hid lW
   have oW : OwnT wr w0.heap.size (.slice (some ⟨g, 0, none⟩) (ss.length + 1) cap) (ss ++ [markS]) := O2.out.modi Mz.out (fun k hk e => by
    have h1 := (O2.out.lt k hk).1
    rcases e with e | e
    ·omega
    ·have := HZ.out.2.2.2 k e; have := HN.out; omega)
   have OW := Lib.hid oW
   have vW : Hid (StrRow wr (.slice tad ss.length tcap) ss) := Lib.hid (V2.out.modp Mz.out (fun hp k hk e => e.elim (fun e => by have := hvB.out hp k hk; omega) (fun e => by have := hvB.out hp k hk; have := (Row2.out.lt k e).1; omega)))
   clear lW oW hfull
   go_upto_region 13 with fail
   clear dk dk2
   with_reducible refine wp_region_list ?_
   iterate 3
    (with_reducible refine wpList_plain rfl ?_); intro K hK; go_simp; (with_reducible refine hK _ _ ?_); clear hK K; try simp only [Act.put,nA,nB,nC]
   iterate 3
    (with_reducible refine wpList_step ?_); intro K hK; rw [if_pos (by rfl)]; go_simp; (with_reducible refine hK _ _ ?_); clear hK K; try simp only [Act.put,nA,nB,nC]
   with_reducible refine wpList_step ?_
   intro K hK
   rw [if_pos (by rfl)]
   go_simp
   refine (keptTexts_any g cap _ ss wr w0.heap.size OW vW (fun hp e => by have := hvB.out hp g e; omega) ss.length hsl).mono ?_; rintro e w4 ⟨rfl, m4⟩
   first | with_reducible refine hK _ _ ?_ | refine hK _ _ ?_
   clear hK K
   try simp only [Act.put,nA,nB,nC]
   have hP : LaidPost w q off cs B p b lv (.slice rad L.length rcap) wd (.returned (.bool true)) w4 := by
    have hsz := HZ.out
    have hNN := HN.out
    have hq := HQP.out
    have hln := HC8.out
    have hf := HF2.out
    have hgz := HG2.out
    refine ⟨rfl, lv2, rvk, L ++ M, ⟨m4.heap Blk.out (by omega), by rw [List.length_set]; exact HC8.out, ?_, ?_, ?_, LW.out.mod m4 (by omega) (by omega) (fun k hk e => hgz.2 (by rw [← e]; exact hk)), Row.out.mod m4 (fun k hk e => ?_), hq.1, hq.2.1, hq.2.2.2.2.1, ?_, ?_, ?_, ?_⟩, ?_, HN2.out, fun k hk => (RG.out k hk).elim .inl (fun h => .inr (by have := HZ20.out; omega))⟩
    ·rw [List.getElem?_set_ne (by omega)]; exact C0.out
    ·rw [List.getElem?_set_ne (by omega)]; exact C1.out
    ·rw [List.getElem?_set_self (by omega)]
    ·exact (RG.out k hk).elim (fun h => by have := hsz.2.2.2 k h; omega) (fun h => by have := hgz.1; omega)
    ·exact fun e => (RG.out q e).elim (fun e => HRQ.out e) (fun e => by omega)
    ·exact fun e => (RG.out p e).elim (fun e => hq.2.2.1 e) (fun e => by have := HZ20.out; omega)
    ·exact fun e => (RG.out b e).elim (fun e => hq.2.2.2.1 e) (fun e => by have := HZ20.out; omega)
    ·exact fun k hk e => (RG.out k hk).elim (fun h => hq.2.2.2.2.2 k h e) (fun h => by have := (L2.out.leaves.lt k e).2; have := HZ20.out; omega)
    ·exact (M2.out.trans Mz.out (fun i hi e => e.elim .inl (fun e => .inr (.inr (.inr e))))).trans m4 (fun i hi e => by omega)
   rw [HPQ.out] at hP
   have HP := Lib.hid hP
   clear hP m4
   iterate 2
    (with_reducible refine wpList_plain rfl ?_); intro K hK; go_simp; (with_reducible refine hK _ _ ?_); clear hK K; try simp only [Act.put,nA,nB,nC]
   go_wp2_with fail
   exact HP.out
end Go.Proofs.Ytihbhpggpnmifaa
