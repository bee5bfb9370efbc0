/-
 The walks of a log's small calls: off, Size, Width, Leaf, Head.
-/
import Derived.Test.YtihbhpggpnmifaaGL
set_option linter.unusedSimpArgs false
set_option linter.unusedVariables false
namespace Go.Proofs.Ytihbhpggpnmifaa
open Go.RowKit Go.Lib Hw
theorem off_log (w : World) (B p b : Nat) (lv : Value) (wd : Nat) (L : List Dg) (h : Hid (LogB w B p b lv wd L)) (hw : 1 ≤ wd) :
  Calls Try.prog 55 #[.pointer (some ⟨p, 0, none⟩)] w fun e w' => e = .returned (.bool false) ∧ w = w' := by
 have c0 := h.out.cell0
 have d0 : ((wd : Int) == 0) = false := by simp; omega
 go_enter Try.func55, Try.ntmps55
 go_wp2_with fail
 go_ret
 exact ⟨rfl, rfl⟩
theorem Size_log (w : World) (B p b : Nat) (lv : Value) (wd : Nat) (L : List Dg) (h : Hid (LogB w B p b lv wd L)) (hw : 1 ≤ wd) :
  Calls Try.prog 41 #[.pointer (some ⟨p, 0, none⟩)] w fun e w' => e = .returned (.int .u64 (L.length : Int)) ∧ w = w' := by
 obtain ⟨ad, cap, rfl, _⟩ := h.out.leaves.shape
 have c1 := h.out.cell1
 have hlen := h.out.len
 go_enter Try.func41, Try.ntmps41
 go_wp2_with (go_at_call 55; refine (off_log w B p b _ wd L h hw).mono ?_; rintro e w3 ⟨rfl, rfl⟩)
 go_ret
 have e : (L.length : Int) % 18446744073709551616 = L.length := by omega
 refine ⟨?_, rfl⟩
 first | rfl | simp [IntKind.wrap, IntKind.signed, IntKind.bits, e]
theorem Width_log (w : World) (B p b : Nat) (lv : Value) (wd : Nat) (L : List Dg) (h : Hid (LogB w B p b lv wd L)) (hw : 1 ≤ wd) :
  Calls Try.prog 40 #[.pointer (some ⟨p, 0, none⟩)] w fun e w' => e = .returned (.int .i64 (wd : Int)) ∧ w = w' := by
 have c0 := h.out.cell0
 go_enter Try.func40, Try.ntmps40
 go_wp2_with (go_at_call 55; refine (off_log w B p b _ wd L h hw).mono ?_; rintro e w3 ⟨rfl, rfl⟩)
 go_ret
 exact ⟨rfl, rfl⟩
theorem LLeaf_no (w : World) (B p b : Nat) (lv : Value) (wd : Nat) (L : List Dg) (n : Nat) (h : Hid (LogB w B p b lv wd L)) (hw : 1 ≤ wd) (hn : L.length ≤ n) :
  Calls Try.prog 28 #[.pointer (some ⟨p, 0, none⟩), .int .u64 (n : Int)] w fun e w' => e = .returned (.tuple #[dv zeros32, .int .i64 190]) ∧ Below w.heap.size w w' := by
 have d1 : decide (L.length ≤ n) = true := decide_eq_true hn
 go_enter Try.func28, Try.ntmps28
 go_upto_region 1 with (refine wpList_allocD rfl rfl w.heap.size rfl ?_; intro w1 hd1 hb1 hz1)
 have L1 := Lib.hid (h.out.below hb1)
 go_wp2_with (first
  | (go_at_call 55; refine (off_log _ B p b lv wd L L1 hw).mono ?_; rintro e w3 ⟨rfl, rfl⟩)
  | (go_at_call 41; refine (Size_log _ B p b lv wd L L1 hw).mono ?_; rintro e w3 ⟨rfl, rfl⟩)
  | (refine wpList_buildD rfl rfl ?_)
  | (refine wpList_storeD rfl _ _ rfl w.heap.size rfl zeros32 zeros32 rfl rfl rfl hd1 ?_; intro w3 hd3 hb3 hk3 hz3))
 refine bodyPost_ret (v := .tuple #[dv zeros32, .int .i64 190]) ?_ rfl ⟨rfl, hb1.trans hb3⟩
 exact results_DE Try.results28 rfl rfl rfl hd3
set_option maxHeartbeats 1000000 in
theorem LLeaf_yes (w : World) (B p b : Nat) (lv : Value) (wd : Nat) (L : List Dg) (n : Nat) (h : Hid (LogB w B p b lv wd L)) (hw : 1 ≤ wd) (hn : n < L.length) :
  Calls Try.prog 28 #[.pointer (some ⟨p, 0, none⟩), .int .u64 (n : Int)] w fun e w' => e = .returned (.tuple #[dv L[n], .int .i64 0]) ∧ Below w.heap.size w w' := by
 have d1 : decide (L.length ≤ n) = false := decide_eq_false (by omega)
 obtain ⟨ad, cap, rfl, hfm⟩ := h.out.leaves.shape
 obtain ⟨g, rfl⟩ := hfm (by omega)
 clear hfm
 have hlen := h.out.len
 obtain ⟨X, hX⟩ : ∃ X, L[n] = X := ⟨_, rfl⟩
 have hl : Hid (List.length X = 32) := by rw [← hX]; exact h.out.all _ (List.getElem_mem hn)
 rw [hX]
 have HX := Lib.hid hX
 clear hX
 have i1 : (n : Int) < (L.length : Int) := by omega
 go_enter Try.func28, Try.ntmps28
 go_upto_region 1 with (refine wpList_allocD rfl rfl w.heap.size rfl ?_; intro w1 hd1 hb1 hz1)
 have L1 := Lib.hid (h.out.below hb1)
 have D1 := Lib.hid hd1
 have B1 := Lib.hid hb1
 have c1 := L1.out.cell1
 clear hd1 hb1
 go_wp2_with (first
  | (go_at_call 55; refine (off_log _ B p b _ wd L L1 hw).mono ?_; rintro e w3 ⟨rfl, rfl⟩)
  | (go_at_call 41; refine (Size_log _ B p b _ wd L L1 hw).mono ?_; rintro e w3 ⟨rfl, rfl⟩)
  | (refine wpList_loadR rfl _ rfl L1.out.leaves L1.out.all n hn X HX.out rfl ?_; try simp only [Act.put,nA,nB,nC])
  | (refine wpList_storeD rfl _ _ rfl w.heap.size rfl zeros32 X rfl hl.out rfl D1.out ?_; intro w3 hd3 hb3 hk3 hz3))
 refine bodyPost_ret (v := .tuple #[dv X, .int .i64 0]) ?_ rfl ⟨rfl, B1.out.trans hb3⟩
 exact results_DE Try.results28 rfl rfl hl.out hd3
end Go.Proofs.Ytihbhpggpnmifaa
namespace Go.Proofs.Ytihbhpggpnmifaa
open Go.RowKit Go.Lib Hw
theorem zero_H (w : World) : (zeroValue 31).run Try.prog w = .ok (hv 0 zeros32) w := by kernel_rfl
theorem built_H0 : Try.prog.built 31 [] = some (hv 0 zeros32).cells := by kernel_rfl
theorem info_H : (Try.prog.info? 31).map (·.size) = some 33 := by kernel_rfl
def hcs (s : Nat) (d : Dg) : List Value := .int .u64 (s : Int) :: d.map bv
theorem hcs_length (s : Nat) {d : Dg} (h : d.length = 32) : (hcs s d).length = 33 := by rw [hcs, List.length_cons, List.length_map, h]
def HB (w : World) (b : Nat) (s : Nat) (d : Dg) : Prop := w.heap[b]? = some (.cells (hcs s d).toArray 31 (0, 0))
section
variable {ops : Array Oper} {rest : List Oper} {o : Oper} {a : Act} {w : World} {K : Act → World → Prop} {Q : Exit → Act → World → Prop}
theorem wpList_allocH (hg : o.guard = none) (ho : o.op = .alloc 31) (N : Nat) (hN : w.heap.size = N)
  (h : ∀ W, HB W N 0 zeros32 → Below N w W → W.heap.size = N + 1 → wpList Try.prog ops Q rest (a.put o.dst (.pointer (some ⟨N, 0, none⟩))) W) : wpList Try.prog ops Q (o :: rest) a w :=
 wpList_allocB hg 31 ho N hN _ zero_H h
theorem wpList_buildH0 (hg : o.guard = none) (ho : o.op = .build 31 #[]) (h : wpList Try.prog ops Q rest (a.put o.dst (hv 0 zeros32)) w) : wpList Try.prog ops Q (o :: rest) a w :=
 wpList_built hg 31 #[] ho [] (by simp) _ built_H0 h
theorem wpList_buildH (hg : o.guard = none) (x y : Operand) (ho : o.op = .build 31 #[(0, x), (1, y)]) (s : Nat) (d : Dg) (hd : d.length = 32) (hx : a.eval x = .int .u64 (s : Int)) (hy : a.eval y = dv d) (h : wpList Try.prog ops Q rest (a.put o.dst (hv s d)) w) : wpList Try.prog ops Q (o :: rest) a w :=
 wpList_built hg 31 _ ho [(0, .int .u64 (s : Int)), (1, dv d)] (by simp [hx, hy]) _ (built_hv s d hd) h
theorem wpList_storeH (hgd : o.guard = none) (x y : Operand) (ho : o.op = .store 31 x y) (b : Nat) (hx : a.eval x = .pointer (some ⟨b, 0, none⟩)) (s s' : Nat) (d d' : Dg) (hd : d.length = 32) (hd' : d'.length = 32) (hb : HB w b s d) (hy : a.eval y = hv s' d')
  (h : ∀ W, HB W b s' d' → Kept b w W → Below b w W → W.heap.size = w.heap.size → wpList Try.prog ops Q rest (a.put o.dst undef) W) : wpList Try.prog ops Q (o :: rest) a w := by
 have h1 := hcs_length s hd
 have h2 := hcs_length s' hd'
 refine wpList_store_mid hgd 31 _ _ ho b 0 (hcs s' d').toArray hx hy ?_ (info_H.trans (congrArg some (by rw [List.size_toArray, h2]))) (by simp [hcs, bv]; exact ⟨rfl, fun _ _ => rfl⟩) ?_
 ·have := there_all hb
  rw [List.size_toArray, h1] at this
  rw [List.size_toArray, h2]
  exact this
 ·have h3 := block_put hb 0 (hcs s' d') (by omega)
  rw [List.take_zero, List.nil_append, List.drop_eq_nil_of_le (by omega), List.append_nil] at h3
  exact h _ h3.1 h3.2 (setCells_below _ _ _ _ _ (Nat.le_refl _)) (setCells_hs ..)
theorem HB.load {w : World} {b s : Nat} {d : Dg} (h : HB w b s d) (hd : d.length = 32) : (loadVar 31 ⟨b, 0, none⟩).run Try.prog w = .ok (hv s d) w :=
 run_loadVar_mid (P := Try.prog) w b 0 31 (hcs s d) _ (range_all (cs := hcs s d) h) Try.underlying31 rfl (info_H.trans (congrArg some (hcs_length s hd).symm))
theorem results_HE {fn : Func} {tmps : Array Value} {a b : Nat} {b2 : Nat} {s : Nat} {d : Dg} {e : Value} {w : World} (hr : fn.results = #[.cell a 31, .tmp b]) (ha : tmps.getD a undef = .pointer (some ⟨b2, 0, none⟩)) (hb : tmps.getD b undef = e) (hl : d.length = 32) (hd : HB w b2 s d) :
  (results fn tmps).run Try.prog w = .ok (.tuple #[hv s d, e]) w := by
 have h1 := hd.load hl
 unfold results
 rw [hr]
 have ha' : tmps[a]?.getD undef = .pointer (some ⟨b2, 0, none⟩) := by rw [← ha]; simp
 have hb' : tmps[b]?.getD undef = e := by rw [← hb]; simp
 simp [ha', hb', h1, asAddr, hv]
end
set_option maxHeartbeats 1000000 in
theorem Head_no (w : World) (B p b : Nat) (lv : Value) (wd : Nat) (L : List Dg) (n : Nat) (h : Hid (LogB w B p b lv wd L)) (hw : 1 ≤ wd) (hn : L.length < n) :
  Calls Try.prog 25 #[.pointer (some ⟨p, 0, none⟩), .int .u64 (n : Int)] w fun e w' => e = .returned (.tuple #[hv 0 zeros32, .int .i64 190]) ∧ Below w.heap.size w w' := by
 have d1 : decide (L.length < n) = true := decide_eq_true hn
 go_enter Try.func25, Try.ntmps25
 go_upto_region 1 with (refine wpList_allocH rfl rfl w.heap.size rfl ?_; intro w1 hd1 hb1 hz1)
 have L1 := Lib.hid (h.out.below hb1)
 go_wp2_with (first
  | (go_at_call 55; refine (off_log _ B p b lv wd L L1 hw).mono ?_; rintro e w3 ⟨rfl, rfl⟩)
  | (go_at_call 41; refine (Size_log _ B p b lv wd L L1 hw).mono ?_; rintro e w3 ⟨rfl, rfl⟩)
  | (refine wpList_buildH0 rfl rfl ?_)
  | (refine wpList_storeH rfl _ _ rfl w.heap.size rfl 0 0 zeros32 zeros32 rfl rfl hd1 rfl ?_; intro w3 hd3 hk3 hb3 hz3))
 refine bodyPost_ret (v := .tuple #[hv 0 zeros32, .int .i64 190]) ?_ rfl ⟨rfl, hb1.trans hb3⟩
 exact results_HE Try.results25 rfl rfl rfl hd3
def LogPost (w : World) (B p b : Nat) (lv : Value) (wd : Nat) (L : List Dg) (v : Value) (e : Ending) (w' : World) : Prop := e = .returned v ∧ LogB w' B p b lv wd L ∧ Mod (fun k => k = b) w w'
set_option maxHeartbeats 2000000 in
theorem Head_yes (w : World) (B p b : Nat) (lv : Value) (wd : Nat) (L : List Dg) (n : Nat) (h : Hid (LogB w B p b lv wd L)) (hw : 1 ≤ wd) (hwd : wd ≤ 32) (hn : n ≤ L.length) :
  Calls Try.prog 25 #[.pointer (some ⟨p, 0, none⟩), .int .u64 (n : Int)] w (LogPost w B p b lv wd L (.tuple #[hv n (spanD wd L 0 n), .int .i64 0])) := by
 have d1 : decide (L.length < n) = false := decide_eq_false (by omega)
 have hl := spanD_length wd L 0 n h.out.all (by omega)
 have hra := ring_any wd hwd B p b lv L n 0
 obtain ⟨X, hX⟩ : ∃ X, spanD wd L 0 n = X := ⟨_, rfl⟩
 rw [hX] at hl hra ⊢
 have Hl := Lib.hid hl
 have HRa := Lib.hid hra
 have HX := Lib.hid hX
 have hlen := h.out.len
 clear hX hl hra
 go_enter Try.func25, Try.ntmps25
 go_upto_region 1 with (refine wpList_allocH rfl rfl w.heap.size rfl ?_; intro w1 hd1 hb1 hz1)
 have L1 := Lib.hid (h.out.below hb1)
 have D1 := Lib.hid hd1
 have B1 := Lib.hid hb1
 clear hd1 hb1
 have hwn : IntKind.i64.wrap (n : Int) = (n : Int) := IntWalk.i64_in _ (by omega)
 go_upto_region 5 with (first
  | (go_at_call 55; refine (off_log _ B p b lv wd L L1 hw).mono ?_; rintro e w3 ⟨rfl, rfl⟩)
  | (go_at_call 41; refine (Size_log _ B p b lv wd L L1 hw).mono ?_; rintro e w3 ⟨rfl, rfl⟩))
 refine wp_region_list ?_
 iterate 4
  (refine wpList_plain rfl (fun K hK => ?_)); go_simp; refine hK _ _ ?_; clear hK K; try simp only [Act.put,nA,nB,nC]
 refine wpList_plain rfl (fun K hK => ?_)
 go_simp
 refine (HRa.out _ L1 (by omega)).mono ?_; rintro e w3 ⟨rfl, hl3, hm3⟩
 refine hK _ _ ?_
 clear hK K
 try simp only [Act.put,nA,nB,nC]
 have hbz := h.out.ltb
 have D3 := Lib.hid (hm3.heap D1.out (by omega))
 have L3 := Lib.hid hl3
 have M3 : Hid (Mod (fun k => k = b) w w3) := (Mod.of _ B1.out).then hm3
 clear hl3 hm3 D1
 refine wpList_buildH rfl _ _ rfl n X Hl.out rfl rfl ?_
 try simp only [Act.put,nA,nB,nC]
 refine wpList_storeH rfl _ _ rfl w.heap.size rfl 0 n zeros32 X rfl Hl.out D3.out rfl ?_
 intro w4 hd4 hk4 hb4 hz4
 try simp only [Act.put,nA,nB,nC]
 have hfin : LogB w4 B p b lv wd L ∧ Mod (fun k => k = b) w w4 := ⟨L3.out.keptN hk4 (by have := h.out.lt; omega) (by omega) (fun g hg => by have := (h.out.leaves.lt g hg).2; omega), M3.out.trans (Mod.kept (S := fun k => k = w.heap.size) hk4 rfl) (fun i hi e => by omega)⟩
 have Hf := Lib.hid hfin
 have D4 := Lib.hid hd4
 clear hfin hd4 hk4 hb4 D3 L3 M3 hwn
 go_wp2_with fail
 refine bodyPost_ret (v := .tuple #[hv n X, .int .i64 0]) ?_ rfl ⟨rfl, Hf.out⟩
 exact results_HE Try.results25 rfl rfl Hl.out D4.out
end Go.Proofs.Ytihbhpggpnmifaa
namespace Go.Proofs.Ytihbhpggpnmifaa
open Go.RowKit Go.Lib Hw
theorem rowV_one1 (d : Dg) : rowV [d] = d.map bv := by simp [rowV]
theorem wp_slice1 {o : Oper} {a : Act} {w : World} {K : Act → World → Prop} {Q : Exit → Act → World → Prop} (x : Operand) (ho : o.op = .buildSlice 32 1 #[(0, x)]) (d : Dg) (hd : d.length = 32) (hx : a.eval x = dv d) (N : Nat) (hN : w.heap.size = N)
  (h : ∀ W, DB W N d → Below N w W → W.heap.size = N + 1 → K (a.put o.dst (.slice (some ⟨N, 0, none⟩) 1 1)) W) : o.wp Try.prog a w K Q :=
 wp_sliceD 1 _ ho [d] (fun x hx => by rw [List.mem_singleton.1 hx]; exact hd) rfl (by decide) (by decide) (by simp [hx]) N hN (fun W h1 h2 h3 => h W (by unfold DB; rw [← rowV_one1]; exact h1) h2 h3)
theorem LogB.app {w w' : World} {B p b : Nat} {lv v' : Value} {wd : Nat} {L : List Dg} {d : Dg} (h : LogB w B p b lv wd L) (hd : d.length = 32) (hlen : L.length + 1 ≤ 1048576) (hg : w.grownBy w' lv.ownBlock) (hown : OwnR w' B v' (L ++ [d])) (hn : ∀ g, v'.ownBlock = some g → lv.ownBlock = some g ∨ w.heap.size ≤ g) : LogB (w'.setCell ⟨p, 1, none⟩ v') B p b v' wd (L ++ [d]) := by
 have m : Mod (fun k => lv.ownBlock = some k) w w' := Mod.grown hg (fun k e => e)
 have hpz := h.lt
 have hbz := h.ltb
 have hvp : v'.ownBlock ≠ some p := fun e => by
  rcases hn p e with h1 | h1
  ·exact h.hlp h1
  ·omega
 have hvb : v'.ownBlock ≠ some b := fun e => by
  rcases hn b e with h1 | h1
  ·exact h.hlb h1
  ·omega
 refine ⟨?_, ?_, h.all.snoc hd, ?_, h.hp, h.hb, h.hpb, hvp, hvb, by rw [List.length_append]; exact hlen⟩
 ·have h1 := heap_set (o := 1) (m.heap h.cells h.hlp) v'
  exact h1
 ·exact hown.mod (Mod.set (S := fun k => k = p) w' rfl v') (fun k hk e => hvp (by rw [← e]; exact hk))
 ·exact ((h.map.mod m h.hlb).more [d]).mod (Mod.set (S := fun k => k = p) w' rfl v') (fun e => h.hpb e.symm)
theorem Add_no (w : World) (B p b : Nat) (lv : Value) (wd : Nat) (L : List Dg) (v : Value) (ss : List ByteArray) (h : Hid (LogB w B p b lv wd L)) (hw : 1 ≤ wd) (hv : Hid (StrRow w v ss)) (hn : 1048576 < L.length + ss.length) (hsl : ss.length ≤ 9223372036854775807) :
  Calls Try.prog 26 #[.pointer (some ⟨p, 0, none⟩), v] w fun e w' => e = .returned (.int .i64 5) ∧ w = w' := by
 obtain ⟨ad, cap, rfl, _⟩ := h.out.leaves.shape
 obtain ⟨vad, vc, rfl, _⟩ := strRow_form hv.out
 have hlen := h.out.len
 have c1 := h.out.cell1
 have d1 : decide ((1048576 : Int) - (L.length : Int) < (ss.length : Int)) = true := decide_eq_true (by omega)
 go_enter Try.func26, Try.ntmps26
 go_wp2_with (go_at_call 55; refine (off_log _ B p b _ wd L h hw).mono ?_; rintro e w3 ⟨rfl, rfl⟩)
 go_ret
 exact ⟨rfl, rfl⟩
def AddPost (w : World) (B p b : Nat) (lv : Value) (wd : Nat) (L M : List Dg) (e : Ending) (w' : World) : Prop :=
 e = .returned (.int .i64 0) ∧ ∃ lv', LogB w' B p b lv' wd (L ++ M) ∧ Mod (fun k => k = p ∨ lv.ownBlock = some k) w w' ∧ ∀ g, lv'.ownBlock = some g → lv.ownBlock = some g ∨ w.heap.size ≤ g
theorem map_take (f : ByteArray → Dg) (ss : List ByteArray) (k : Nat) (h : k < ss.length) : (ss.take (k + 1)).map f = (ss.take k).map f ++ [f ss[k]] := by
 rw [List.take_add_one, List.getElem?_eq_getElem h, List.map_append]
 rfl
set_option maxHeartbeats 8000000 in
theorem Add_yes (w : World) (B p b : Nat) (lv : Value) (wd : Nat) (L : List Dg) (v : Value) (ss : List ByteArray) (h : Hid (LogB w B p b lv wd L)) (hw : 1 ≤ wd) (hwd : wd ≤ 32) (hv : Hid (StrRow w v ss)) (hn : L.length + ss.length ≤ 1048576) (hss : Hid (∀ s ∈ ss, s.size ≤ 140737488355300)) (hB : B ≤ w.heap.size)
  (hdis : Hid (∀ k, v.ownBlock = some k → k < w.heap.size ∧ k ≠ p ∧ lv.ownBlock ≠ some k)) :
  Calls Try.prog 26 #[.pointer (some ⟨p, 0, none⟩), v] w (AddPost w B p b lv wd L (ss.map (leafD wd))) := by
 obtain ⟨ad, cap, hlv, _⟩ := h.out.leaves.shape
 obtain ⟨vad, vc, rfl, hvs⟩ := strRow_form hv.out
 clear hvs
 have hlen := h.out.len
 have c1 := h.out.cell1
 have cw := h.out.cell0
 rw [hlv] at c1
 have d1 : decide ((1048576 : Int) - (L.length : Int) < (ss.length : Int)) = false := decide_eq_false (by omega)
 go_enter Try.func26, Try.ntmps26
 go_wp2_with (go_at_call 55; refine (off_log _ B p b _ wd L h hw).mono ?_; rintro e w3 ⟨rfl, rfl⟩)
 clear c1 cw d1
 go_loopw [22] (fun i wr => ∃ (k : Nat) (lvk : Value), k ≤ ss.length ∧ Hid (LogB wr B p b lvk wd (L ++ (ss.take k).map (leafD wd))) ∧ Hid (Mod (fun k => k = p ∨ lv.ownBlock = some k) w wr) ∧ Hid (∀ g, lvk.ownBlock = some g → lv.ownBlock = some g ∨ w.heap.size ≤ g) ∧ i = .int .i64 (k : Int)) (fun i _ => ss.length - (intOf i).toNat)
 case atStart => exact ⟨0, lv, Nat.zero_le _, by simpa using h, Mod.refl _ _, fun g hg => .inl hg, rfl⟩
 case round =>
  obtain ⟨k, lvk, hk, HL, HM, HO, rfl⟩ := hrel
  by_cases hlt : k < ss.length
  ·have dk : decide (k < ss.length) = true := decide_eq_true hlt
   have dk2 : decide ((k : Int) < (ss.length : Int)) = true := decide_eq_true (by omega)
   have ik : (k : Int) < (ss.length : Int) := by omega
   obtain ⟨LK, hLK⟩ : ∃ LK, L ++ (ss.take k).map (leafD wd) = LK := ⟨_, rfl⟩
   have hLKl : LK.length = L.length + k := by rw [← hLK]; simp; omega
   have hnext : L ++ (ss.take (k + 1)).map (leafD wd) = LK ++ [leafD wd ss[k]] := by rw [map_take _ _ _ hlt, ← hLK, List.append_assoc]
   rw [hLK] at HL
   clear hLK
   have hrow := hv.out.mod HM.out (fun g hg hh => by
    have h3 := hdis.out g hg
    rcases hh with hh | hh
    ·exact h3.2.1 hh
    ·exact h3.2.2 hh)
   obtain ⟨vad', vc', hvv, hvs⟩ := strRow_form hrow
   obtain ⟨rfl, rfl⟩ : vad = vad' ∧ vc = vc' := by simpa using hvv
   obtain ⟨vb, vo, rfl, hcs⟩ := hvs (by omega)
   have hc := hcs k hlt
   have hsz := hss.out ss[k] (List.getElem_mem hlt)
   obtain ⟨s, hs⟩ : ∃ s, ss[k] = s := ⟨_, rfl⟩
   rw [hs] at hc hsz hnext
   have HN := Lib.hid hnext
   have HLl := Lib.hid hLKl
   clear hcs hvs hvv hs hnext hrow hLKl
   have cw := HL.out.cell0
   go_upto_region 8 with fail
   refine wp_region_list ?_
   iterate 5
    (refine wpList_plain rfl (fun K hK => ?_)); go_simp; refine hK _ _ ?_; clear hK K; try simp only [Act.put,nA,nB,nC]
   refine wpList_plain rfl (fun K hK => ?_)
   go_simp
   refine (Leaf_any wd s wr hw hwd hsz).mono ?_; rintro e w3 ⟨rfl, hb3⟩
   refine hK _ _ ?_
   clear hK K
   try simp only [Act.put,nA,nB,nC]
   obtain ⟨D, hD⟩ : ∃ D, leafD wd s = D := ⟨_, rfl⟩
   have HDl : Hid (List.length D = 32) := by rw [← hD]; exact leafD_length _ _
   have HN' := HN.out
   rw [hD] at HN' ⊢
   clear hD HN
   have HN := Lib.hid HN'
   clear HN'
   iterate 3
    (refine wpList_plain rfl (fun K hK => ?_)); go_simp; refine hK _ _ ?_; clear hK K; try simp only [Act.put,nA,nB,nC]
   refine wpList_allocD rfl rfl w3.heap.size rfl ?_
   intro w4 e4 b4 z4
   try simp only [Act.put,nA,nB,nC]
   refine wpList_storeD rfl _ _ rfl w3.heap.size rfl zeros32 D rfl HDl.out rfl e4 ?_
   intro w5 e5 b5 k5 z5
   try simp only [Act.put,nA,nB,nC]
   have b35 : Below wr.heap.size wr w5 := (hb3.trans (b4.mono hb3.size)).trans (b5.mono hb3.size)
   have hz3 := hb3.size
   have L5 := Lib.hid (HL.out.below b35)
   have M5 : Hid (Mod (fun k => k = p ∨ lv.ownBlock = some k) w w5) := HM.out.then (Mod.of _ b35)
   have D5 := Lib.hid e5
   have hzr := HM.out.size
   have HOw : Hid (∀ g, lvk.ownBlock = some g → g < wr.heap.size) := fun g hg => (HL.out.leaves.lt g hg).2
   have HPz : Hid (p < wr.heap.size) := HL.out.lt
   (refine wpList_plain rfl (fun K hK => ?_)); go_simp; refine hK _ _ ?_; clear hK K; try simp only [Act.put,nA,nB,nC]
   clear hb3 e4 b4 e5 b5 k5 b35 cw HL HM hc
   obtain ⟨x, hx⟩ : ∃ x, w3.heap.size = x := ⟨_, rfl⟩
   rw [hx] at D5 hz3 z4 ⊢
   clear hx
   have c1 := L5.out.cell1
   go_upto_region 9 with fail
   refine wp_region_held_drew (S := fun W => DB W x D) (by kernel_rfl) D5.out (fun hHeld => ?_)
   refine' tQ 0 ⟨some 35, .move (.tmp 0), 40, "rings.go:85", #[], none⟩ rfl (by kernel_rfl) (Or.inl ⟨by rfl, _⟩) _; rotate_left; · (intro s h; (try dsimp only at h); go_simp; try with_reducible rfl)
   try simp only [Act.put,nA,nB,nC]
   refine' tQ 1 ⟨some 36, .move (.tmp 0), 40, "rings.go:85", #[], none⟩ rfl (by kernel_rfl) (Or.inl ⟨by rfl, _⟩) _; rotate_left; · (intro s h; (try dsimp only at h); go_simp; try with_reducible rfl)
   try simp only [Act.put,nA,nB,nC]
   refine' tQ 2 ⟨some 37, .nilCheck (.tmp 36), 0, "rings.go:85", #[⟨1, .data⟩], none⟩ rfl (by kernel_rfl) (Or.inl ⟨by rfl, _⟩) _; rotate_left; · (intro s h; (try dsimp only at h); go_simp; try with_reducible rfl)
   try simp only [Act.put,nA,nB,nC]
   refine' tQ 3 ⟨some 38, .fieldAddr 101 (.tmp 37) 1, 0, "rings.go:85", #[⟨2, .data⟩], none⟩ rfl (by kernel_rfl) (Or.inl ⟨by rfl, _⟩) _; rotate_left; · (intro s h; (try dsimp only at h); go_simp; try with_reducible rfl)
   try simp only [Act.put,nA,nB,nC]
   refine' tQ 5 ⟨some 40, .load 23 (.tmp 7), 23, "rings.go:85", #[], none⟩ rfl (by kernel_rfl) (yieldsIf_loadD (by rfl) _ rfl (x) rfl (D) (HDl.out) (fun W hW => hW)) _
   try simp only [Act.put,nA,nB,nC]
   refine wpAnyH_ready (rs := [4, 6]) (by kernel_rfl) (by simp) ?_
   refine (AllReadyH.cons (o := ⟨some 39, .load 32 (.tmp 38), 32, "rings.go:85", #[⟨3, .data⟩], none⟩) rfl (fun K hK => ?_) (AllReadyH.cons (o := ⟨some 41, .buildSlice 32 1 #[(0, .tmp 40)], 32, "rings.go:85", #[⟨5, .data⟩], none⟩) rfl (fun K hK => ?_) AllReadyH.nil))
   ·go_simp
    refine hK.out _ _ ?_ (fun hHeld => ?_)
    ·exact hHeld
    clear hK K
    try simp only [Act.put,nA,nB,nC]
    refine wpAnyH_ready (rs := [6]) (by kernel_rfl) (by simp) ?_
    refine (AllReadyH.cons (o := ⟨some 41, .buildSlice 32 1 #[(0, .tmp 40)], 32, "rings.go:85", #[⟨5, .data⟩], none⟩) rfl (fun K hK => ?_) AllReadyH.nil)
    set_option maxRecDepth 20000 in
    refine step_of rfl (wp_slice1 _ rfl D HDl.out rfl (x + 1) (z5.trans z4) ?_)
    intro w6 e6 b6 z6
    have b56 : Below w5.heap.size w5 w6 := Below.trans (Below.refl _ _).drew (b6.mono (by omega))
    have L6 := Lib.hid (L5.out.below b56)
    have c6 := L6.out.cell1
    refine hK.out _ _ ?_ (fun hHeld => ?_)
    ·exact heap_below D5.out b56 (by omega)
    clear hK K
    try simp only [Act.put,nA,nB,nC]
    refine wpAnyH_ready (rs := [7]) (by kernel_rfl) (by simp) ?_
    refine AllReadyH.cons (o := ⟨some 42, .call ⟨.builtin .append, #[.tmp 39, .tmp 41], #[32, 32]⟩, 32, "rings.go:85", #[⟨4, .data⟩, ⟨6, .data⟩], none⟩) rfl (fun K hK => ?_) AllReadyH.nil
    (set_option maxRecDepth 20000 in refine step_of rfl (wp_appR w6 D HDl.out _ _ rfl B lvk LK rfl L6.out.leaves L6.out.all (x + 1) 1 rfl e6 (by have := HLl.out; omega) (by omega) ?_); intro g2 cap2 w7 ho7 hg7 hs7; have m7 : Mod (fun k => lvk.ownBlock = some k) w6 w7 := Mod.grown hg7 (fun k e => e); have c7 := heap_cell (m7.heap L6.out.cells L6.out.hlp) (o := 1); have f7 := heap_free (m7.heap L6.out.cells L6.out.hlp) 1)
    refine hK.out _ _ ?_ (fun hHeld => ?_)
    ·exact m7.heap (heap_below D5.out b56 (by omega)) (fun e => by have := HOw.out _ e; omega)
    clear hK K
    try simp only [Act.put,nA,nB,nC]
    refine' tQ 8 ⟨some 43, .nilCheck (.tmp 35), 0, "rings.go:85", #[⟨0, .data⟩, ⟨0, .phase⟩, ⟨1, .phase⟩, ⟨2, .phase⟩, ⟨3, .phase⟩, ⟨4, .phase⟩, ⟨5, .phase⟩, ⟨6, .phase⟩, ⟨7, .phase⟩], none⟩ rfl (by kernel_rfl) (Or.inl ⟨by rfl, _⟩) _; rotate_left; · (intro s h; (try dsimp only at h); go_simp; try with_reducible rfl)
    try simp only [Act.put,nA,nB,nC]
    refine' tQ 9 ⟨some 44, .fieldAddr 101 (.tmp 43) 1, 0, "rings.go:85", #[⟨8, .data⟩, ⟨0, .phase⟩, ⟨1, .phase⟩, ⟨2, .phase⟩, ⟨3, .phase⟩, ⟨4, .phase⟩, ⟨5, .phase⟩, ⟨6, .phase⟩, ⟨7, .phase⟩], none⟩ rfl (by kernel_rfl) (Or.inl ⟨by rfl, _⟩) _; rotate_left; · (intro s h; (try dsimp only at h); go_simp; try with_reducible rfl)
    try simp only [Act.put,nA,nB,nC]
    have hz7 := m7.size
    have hlt5 : w5.heap.size < w6.heap.size := by omega
    have hos : ∀ g, (Value.slice (some ⟨g2, 0, none⟩) (LK.length + 1) cap2).ownBlock = some g → lvk.ownBlock = some g ∨ w6.heap.size ≤ g := fun g hg => by
     obtain rfl : g2 = g := Option.some.inj hg
     rcases hs7 with h1 | h1
     ·exact .inl h1
     ·right; omega
    have T8 := Lib.hid (L6.out.app HDl.out (by have := HLl.out; omega) hg7 ho7 hos)
    have M8 : Hid (Mod (fun k => k = p ∨ lv.ownBlock = some k) w (w7.setCell ⟨p, 1, none⟩ (.slice (some ⟨g2, 0, none⟩) (LK.length + 1) cap2))) :=
     (((M5.out.then (Mod.of _ b56)).trans m7 (fun i hi e => by rcases HO.out _ e with h1 | h1; exact .inr h1; omega))).then (Mod.set (o := 1) w7 (.inl rfl) _)
    have O8 : Hid (∀ g, (Value.slice (some ⟨g2, 0, none⟩) (LK.length + 1) cap2).ownBlock = some g → lv.ownBlock = some g ∨ w.heap.size ≤ g) := fun g hg => by
     rcases hos g hg with h1 | h1
     ·exact HO.out g h1
     ·right; omega
    have D8 := heap_setOther (a := ⟨p, 1, none⟩) (m7.heap (heap_below D5.out b56 (by omega)) (fun e => by have := HOw.out _ e; omega)) (by show x ≠ p; have := HPz.out; omega) (.slice (some ⟨g2, 0, none⟩) (LK.length + 1) cap2)
    refine wpAnyH_ready (rs := [10]) (by kernel_rfl) (by simp) ?_
    refine AllReadyH.cons (o := ⟨none, .store 32 (.tmp 44) (.tmp 42), 0, "rings.go:85", #[⟨9, .data⟩, ⟨7, .data⟩, ⟨7, .chain⟩, ⟨0, .phase⟩, ⟨1, .phase⟩, ⟨2, .phase⟩, ⟨3, .phase⟩, ⟨4, .phase⟩, ⟨5, .phase⟩, ⟨6, .phase⟩, ⟨7, .phase⟩], none⟩) rfl (fun K hK => ?_) AllReadyH.nil
    go_simp
    refine hK.out _ _ ?_ (fun hHeld => ?_)
    ·exact D8
    clear hK K
    try simp only [Act.put,nA,nB,nC]
    refine wpAnyH_done (by kernel_rfl) ?_ _
    rw [← HN.out] at T8
    clear hHeld D8 m7 hg7 ho7 hs7 hos c7 f7 c6 L6 L5 M5 D5 e6 b6 b56 c1
    set_option maxRecDepth 5000 in
    go_wp2_with fail
    exact ⟨⟨k + 1, _, by omega, T8, M8, O8, by go_num⟩, by simp [intOf]; omega⟩
   ·set_option maxRecDepth 20000 in
    refine step_of rfl (wp_slice1 _ rfl D HDl.out rfl (x + 1) (z5.trans z4) ?_)
    intro w6 e6 b6 z6
    have b56 : Below w5.heap.size w5 w6 := Below.trans (Below.refl _ _).drew (b6.mono (by omega))
    have L6 := Lib.hid (L5.out.below b56)
    have c6 := L6.out.cell1
    refine hK.out _ _ ?_ (fun hHeld => ?_)
    ·exact heap_below D5.out b56 (by omega)
    clear hK K
    try simp only [Act.put,nA,nB,nC]
    refine wpAnyH_ready (rs := [4]) (by kernel_rfl) (by simp) ?_
    refine (AllReadyH.cons (o := ⟨some 39, .load 32 (.tmp 38), 32, "rings.go:85", #[⟨3, .data⟩], none⟩) rfl (fun K hK => ?_) AllReadyH.nil)
    go_simp
    refine hK.out _ _ ?_ (fun hHeld => ?_)
    ·exact hHeld
    clear hK K
    try simp only [Act.put,nA,nB,nC]
    refine wpAnyH_ready (rs := [7]) (by kernel_rfl) (by simp) ?_
    refine AllReadyH.cons (o := ⟨some 42, .call ⟨.builtin .append, #[.tmp 39, .tmp 41], #[32, 32]⟩, 32, "rings.go:85", #[⟨4, .data⟩, ⟨6, .data⟩], none⟩) rfl (fun K hK => ?_) AllReadyH.nil
    (set_option maxRecDepth 20000 in refine step_of rfl (wp_appR w6 D HDl.out _ _ rfl B lvk LK rfl L6.out.leaves L6.out.all (x + 1) 1 rfl e6 (by have := HLl.out; omega) (by omega) ?_); intro g2 cap2 w7 ho7 hg7 hs7; have m7 : Mod (fun k => lvk.ownBlock = some k) w6 w7 := Mod.grown hg7 (fun k e => e); have c7 := heap_cell (m7.heap L6.out.cells L6.out.hlp) (o := 1); have f7 := heap_free (m7.heap L6.out.cells L6.out.hlp) 1)
    refine hK.out _ _ ?_ (fun hHeld => ?_)
    ·exact m7.heap (heap_below D5.out b56 (by omega)) (fun e => by have := HOw.out _ e; omega)
    clear hK K
    try simp only [Act.put,nA,nB,nC]
    refine' tQ 8 ⟨some 43, .nilCheck (.tmp 35), 0, "rings.go:85", #[⟨0, .data⟩, ⟨0, .phase⟩, ⟨1, .phase⟩, ⟨2, .phase⟩, ⟨3, .phase⟩, ⟨4, .phase⟩, ⟨5, .phase⟩, ⟨6, .phase⟩, ⟨7, .phase⟩], none⟩ rfl (by kernel_rfl) (Or.inl ⟨by rfl, _⟩) _; rotate_left; · (intro s h; (try dsimp only at h); go_simp; try with_reducible rfl)
    try simp only [Act.put,nA,nB,nC]
    refine' tQ 9 ⟨some 44, .fieldAddr 101 (.tmp 43) 1, 0, "rings.go:85", #[⟨8, .data⟩, ⟨0, .phase⟩, ⟨1, .phase⟩, ⟨2, .phase⟩, ⟨3, .phase⟩, ⟨4, .phase⟩, ⟨5, .phase⟩, ⟨6, .phase⟩, ⟨7, .phase⟩], none⟩ rfl (by kernel_rfl) (Or.inl ⟨by rfl, _⟩) _; rotate_left; · (intro s h; (try dsimp only at h); go_simp; try with_reducible rfl)
    try simp only [Act.put,nA,nB,nC]
    have hz7 := m7.size
    have hlt5 : w5.heap.size < w6.heap.size := by omega
    have hos : ∀ g, (Value.slice (some ⟨g2, 0, none⟩) (LK.length + 1) cap2).ownBlock = some g → lvk.ownBlock = some g ∨ w6.heap.size ≤ g := fun g hg => by
     obtain rfl : g2 = g := Option.some.inj hg
     rcases hs7 with h1 | h1
     ·exact .inl h1
     ·right; omega
    have T8 := Lib.hid (L6.out.app HDl.out (by have := HLl.out; omega) hg7 ho7 hos)
    have M8 : Hid (Mod (fun k => k = p ∨ lv.ownBlock = some k) w (w7.setCell ⟨p, 1, none⟩ (.slice (some ⟨g2, 0, none⟩) (LK.length + 1) cap2))) :=
     (((M5.out.then (Mod.of _ b56)).trans m7 (fun i hi e => by rcases HO.out _ e with h1 | h1; exact .inr h1; omega))).then (Mod.set (o := 1) w7 (.inl rfl) _)
    have O8 : Hid (∀ g, (Value.slice (some ⟨g2, 0, none⟩) (LK.length + 1) cap2).ownBlock = some g → lv.ownBlock = some g ∨ w.heap.size ≤ g) := fun g hg => by
     rcases hos g hg with h1 | h1
     ·exact HO.out g h1
     ·right; omega
    have D8 := heap_setOther (a := ⟨p, 1, none⟩) (m7.heap (heap_below D5.out b56 (by omega)) (fun e => by have := HOw.out _ e; omega)) (by show x ≠ p; have := HPz.out; omega) (.slice (some ⟨g2, 0, none⟩) (LK.length + 1) cap2)
    refine wpAnyH_ready (rs := [10]) (by kernel_rfl) (by simp) ?_
    refine AllReadyH.cons (o := ⟨none, .store 32 (.tmp 44) (.tmp 42), 0, "rings.go:85", #[⟨9, .data⟩, ⟨7, .data⟩, ⟨7, .chain⟩, ⟨0, .phase⟩, ⟨1, .phase⟩, ⟨2, .phase⟩, ⟨3, .phase⟩, ⟨4, .phase⟩, ⟨5, .phase⟩, ⟨6, .phase⟩, ⟨7, .phase⟩], none⟩) rfl (fun K hK => ?_) AllReadyH.nil
    go_simp
    refine hK.out _ _ ?_ (fun hHeld => ?_)
    ·exact D8
    clear hK K
    try simp only [Act.put,nA,nB,nC]
    refine wpAnyH_done (by kernel_rfl) ?_ _
    rw [← HN.out] at T8
    clear hHeld D8 m7 hg7 ho7 hs7 hos c7 f7 c6 L6 L5 M5 D5 e6 b6 b56 c1
    set_option maxRecDepth 5000 in
    go_wp2_with fail
    exact ⟨⟨k + 1, _, by omega, T8, M8, O8, by go_num⟩, by simp [intOf]; omega⟩
  ·have hk2 : k = ss.length := by omega
   have dk : decide (k < ss.length) = false := decide_eq_false hlt
   have dk2 : decide ((k : Int) < (ss.length : Int)) = false := decide_eq_false (by omega)
   rw [hk2, List.take_length] at HL
   have hf : AddPost w B p b lv wd L (ss.map (leafD wd)) (.returned (.int .i64 0)) wr := ⟨rfl, lvk, HL.out, HM.out, HO.out⟩
   have Hf := Lib.hid hf
   clear hf HL HM HO
   go_wp2_with fail
   go_ret
   exact Hf.out
end Go.Proofs.Ytihbhpggpnmifaa
namespace Go.Proofs.Ytihbhpggpnmifaa
open Go.RowKit Go.Lib Hw
theorem New_bad (n : Int) (v : Value) (w : World) (h : Hid (wideB n = false)) :
  Calls Try.prog 24 #[.int .i64 n, v] w fun e w' => e = .returned (.tuple #[.pointer none, .int .i64 2]) ∧ w = w' := by
 go_enter Try.func24, Try.ntmps24
 go_wp2_with (go_at_call 42; refine (right_any _ _).mono ?_; rintro e w3 ⟨rfl, rfl⟩; rw [h.out])
 go_ret2
 exact ⟨rfl, rfl⟩
theorem LogB.made (w : World) (wd : Nat) (t : TypeId) (ht : t = 101) : LogB ((w.alloc (.map #[] 0)).alloc (.cells #[.int .i64 (wd : Int), .slice none 0 0, .map (some w.heap.size)] t)) w.heap.size (w.heap.size + 1) w.heap.size (.slice none 0 0) wd [] := by
 subst ht
 have h1 := heap_new (w.alloc (.map #[] 0)) (.cells #[.int .i64 (wd : Int), .slice none 0 0, .map (some w.heap.size)] 101)
 rw [World.size_alloc] at h1
 exact ⟨h1, OwnR.nil _ _, All32.nil, (RMap.made w wd []).alloc _, by omega, Nat.le_refl _, by omega, by simp [Value.ownBlock], by simp [Value.ownBlock], by simp⟩
def NewPost (w : World) (wd : Nat) (L : List Dg) (e : Ending) (w' : World) : Prop :=
 ∃ p b lv, e = .returned (.tuple #[.pointer (some ⟨p, 0, none⟩), .int .i64 0]) ∧ LogB w' w.heap.size p b lv wd L ∧ Below w.heap.size w w'
theorem StrRow.lt {w : World} {v : Value} {ss : List ByteArray} (h : StrRow w v ss) (hp : 0 < ss.length) : ∀ k, v.ownBlock = some k → k < w.heap.size := fun k hk => by
 obtain ⟨ad, c, rfl, _, hc⟩ := h
 obtain ⟨b, o, rfl, hb⟩ := hc hp
 obtain rfl : b = k := Option.some.inj hk
 exact World.block_lt_of_cell? _ _ (hb 0 hp)
set_option maxHeartbeats 2000000 in
theorem New_ok (wd : Nat) (v : Value) (ss : List ByteArray) (w : World) (hw : 1 ≤ wd) (hwd : wd ≤ 32) (hv : Hid (StrRow w v ss)) (hn : ss.length ≤ 1048576) (hss : Hid (∀ s ∈ ss, s.size ≤ 140737488355300)) (hvb : Hid (∀ k, v.ownBlock = some k → k < w.heap.size)) :
  Calls Try.prog 24 #[.int .i64 (wd : Int), v] w (NewPost w wd (ss.map (leafD wd))) := by
 have hwb : wideB (wd : Int) = true := by simp [wideB]; omega
 have HW := Lib.hid hwb
 clear hwb
 have hmm := @run_makeMap Try.prog
 go_enter Try.func24, Try.ntmps24
 go_upto_region 4 with (go_at_call 42; refine (right_any _ _).mono ?_; rintro e w3 ⟨rfl, rfl⟩; rw [HW.out])
 refine wp_name (fun W => LogB W w.heap.size (w.heap.size + 1) w.heap.size (.slice none 0 0) wd [] ∧ Below w.heap.size w W ∧ W.heap.size = w.heap.size + 2) ⟨LogB.made w wd _ rfl, ((Below.refl _ _).alloc (Nat.le_refl _) _).alloc (by simp) _, by simp⟩ (fun w1 hq => ?_)
 obtain ⟨l1, b1, z1⟩ := hq
 have V1 := hv.out.below' b1
 have L1 := Lib.hid l1
 have B1 := Lib.hid b1
 clear l1 b1
 go_upto_region 5 with (go_at_call 26; refine (Add_yes w1 w.heap.size (w.heap.size + 1) w.heap.size _ wd [] v ss L1 hw hwd V1 (by simpa using hn) hss (by omega) (fun k hk => ⟨by have := hvb.out k hk; omega, by have := hvb.out k hk; omega, by simp [Value.ownBlock]⟩)).mono ?_; rintro e w2 ⟨rfl, lv2, L2, M2, O2⟩)
 have hf : NewPost w wd (ss.map (leafD wd)) (.returned (.tuple #[.pointer (some ⟨w.heap.size + 1, 0, none⟩), .int .i64 0])) w2 :=
  ⟨_, _, lv2, rfl, L2, B1.out.trans (M2.below (n := w.heap.size) (fun k hk e => by rcases e with e | e; omega; cases e) (by omega))⟩
 have Hf := Lib.hid hf
 clear hf L2 M2 O2 V1
 go_wp2_with fail
 go_ret2
 exact Hf.out
set_option maxHeartbeats 2000000 in
theorem New_full (wd : Nat) (v : Value) (ss : List ByteArray) (w : World) (hw : 1 ≤ wd) (hwd : wd ≤ 32) (hv : Hid (StrRow w v ss)) (hn : 1048576 < ss.length) (hsl : ss.length ≤ 9223372036854775807) :
  Calls Try.prog 24 #[.int .i64 (wd : Int), v] w fun e w' => e = .returned (.tuple #[.pointer none, .int .i64 5]) ∧ Below w.heap.size w w' := by
 have hwb : wideB (wd : Int) = true := by simp [wideB]; omega
 have HW := Lib.hid hwb
 clear hwb
 have hmm := @run_makeMap Try.prog
 go_enter Try.func24, Try.ntmps24
 go_upto_region 4 with (go_at_call 42; refine (right_any _ _).mono ?_; rintro e w3 ⟨rfl, rfl⟩; rw [HW.out])
 refine wp_name (fun W => LogB W w.heap.size (w.heap.size + 1) w.heap.size (.slice none 0 0) wd [] ∧ Below w.heap.size w W ∧ W.heap.size = w.heap.size + 2) ⟨LogB.made w wd _ rfl, ((Below.refl _ _).alloc (Nat.le_refl _) _).alloc (by simp) _, by simp⟩ (fun w1 hq => ?_)
 obtain ⟨l1, b1, z1⟩ := hq
 have V1 := hv.out.below' b1
 have L1 := Lib.hid l1
 have B1 := Lib.hid b1
 clear l1 b1
 go_upto_region 5 with (go_at_call 26; refine (Add_no w1 w.heap.size (w.heap.size + 1) w.heap.size _ wd [] v ss L1 hw V1 (by simpa using hn) hsl).mono ?_; rintro e w2 ⟨rfl, rfl⟩)
 go_wp2_with fail
 go_ret2
 exact ⟨rfl, B1.out⟩
end Go.Proofs.Ytihbhpggpnmifaa
