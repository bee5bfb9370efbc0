/-
  The walk of a plan's list pages.
-/
import Derived.Test.YtkngmnfgdlnddaaGE
set_option linter.unusedSimpArgs false
set_option linter.unusedVariables false
namespace Go.Proofs.Ytkngmnfgdlnddaa
open Go.RowKit Go.Lib Hw Go.Maps
set_option linter.unusedSimpArgs false
set_option linter.unusedVariables false

theorem Good.len {P : Nat} {chain : List (Nat × List Nat)} {rel : List Nat} (h : Good P chain rel) {j : Nat} (hj : j < chain.length) : chain[j].2.length ≤ P := by
  obtain ⟨h1, h2⟩ := h.batch hj
  have h3 := nodup_le chain[j].2 (List.range P) (List.nodup_cons.1 h1).2 (fun x hx => List.mem_range.2 (h2 x (List.mem_cons_of_mem _ hx)).1)
  rwa [List.length_range] at h3
theorem Good.relN {P : Nat} {chain : List (Nat × List Nat)} {rel : List Nat} (h : Good P chain rel) : rel.Nodup ∧ (∀ x ∈ rel, x < P) ∧ rel.length ≤ P := by
  have h1 := (List.nodup_append.1 h.1).2.1
  have h2 : ∀ x ∈ rel, x < P := fun x hx => h.2 x (List.mem_append_right _ hx)
  have h3 := nodup_le rel (List.range P) h1 (fun x hx => List.mem_range.2 (h2 x hx))
  rw [List.length_range] at h3
  exact ⟨h1, h2, h3⟩
theorem OwnO.cellAt {w : World} {B g o n cap : Nat} {xs : List Nat} (h : OwnO w B (.slice (some ⟨g, o, none⟩) n cap) xs) (i : Nat) (hi : i < xs.length) : w.cell? ⟨g, o + i, none⟩ = some (uN xs[i]) := by
  rcases h with ⟨h, _⟩ | ⟨g2, o2, cap2, cur, hv, h1, h2, h3, h4, h5, h6⟩
  · cases h
  cases hv
  rw [heap_cell h2]
  exact h6 i hi
/-- where a number stands in a rising row -/
theorem Search_own (w : World) (B g o n cap x : Nat) (xs : List Nat) (h : OwnO w B (.slice (some ⟨g, o, none⟩) n cap) xs) (hl : n < 4611686018427387904) (hs : xs.Pairwise (· < ·)) :
    Calls Try.prog 91 #[.slice (some ⟨g, o, none⟩) n cap, .int .u32 (x : Int)] w fun e w' => e = .returned (.tuple #[.int .i64 ((xs.countP fun z => decide (z < x) : Nat) : Int), .bool (xs.contains x)]) ∧ ∃ q, w' = w.drewN q := by
  obtain ⟨hn, _, _⟩ := h.holds
  have hb := su_BinarySearch g o n cap (xs.map fun z : Nat => (z : Int)) (x : Int) w (by simpa using Nat.le_of_eq hn) hl (fun j hj => by
    have hj2 : j < xs.length := by simpa using hj
    rw [h.cellAt j hj2]
    simp [uN, List.getD, hj2]) (by
    rw [hn, show xs.length = (xs.map fun z : Nat => (z : Int)).length by simp, List.take_length, List.pairwise_map]
    exact hs.imp (fun h => by omega))
  refine hb.mono ?_
  rintro e w' ⟨rfl, hq⟩
  refine ⟨?_, hq⟩
  have e1 : (xs.map fun z : Nat => (z : Int)).take n = xs.map fun z : Nat => (z : Int) := by
    rw [hn, show xs.length = (xs.map fun z : Nat => (z : Int)).length by simp, List.take_length]
  have e2 : (xs.map fun z : Nat => (z : Int)).countP (fun z => decide (z < (x : Int))) = xs.countP fun z => decide (z < x) := by
    rw [List.countP_map]
    exact List.countP_congr (fun z _ => by simp)
  have e3 : (xs.map fun z : Nat => (z : Int)).contains (x : Int) = xs.contains x := by
    rw [Bool.eq_iff_iff, List.contains_iff_mem, List.contains_iff_mem, List.mem_map]
    refine ⟨fun ⟨z, hz, e⟩ => ?_, fun h => ⟨x, h, rfl⟩⟩
    have e4 : z = x := by omega
    rw [← e4]
    exact hz
  rw [e1, e2, e3]
/-- a batch of a chain that lies below -/
theorem chain_at {w0 wr : World} {cad : Option Addr} {ccap : Nat} {chain : List (Nat × List Nat)} (h : CRow w0 (.slice cad chain.length ccap) chain) (hb : Below w0.heap.size w0 wr) {j : Nat} (hj : j < chain.length) :
    ∃ b o nad nc, cad = some ⟨b, o, none⟩ ∧ wr.rangeAt b (o + j * 2) [uN chain[j].1, .slice nad chain[j].2.length nc] ∧ URow wr (.slice nad chain[j].2.length nc) chain[j].2 ∧ b < w0.heap.size ∧ (0 < chain[j].2.length → ∀ k, (Value.slice nad chain[j].2.length nc).ownBlock = some k → k < w0.heap.size) ∧ chain[j].1 < 4294967296 := by
  obtain ⟨hp, ad, c, hv, _, _, hc⟩ := h
  cases hv
  obtain ⟨b, o, rfl, hlt, hcs⟩ := hc (by omega)
  obtain ⟨nv, hr, hu⟩ := hcs j hj
  obtain ⟨nad, nc, hnv, _⟩ := hu.form
  subst hnv
  exact ⟨b, o, nad, nc, rfl, range_block hr (hb.block b hlt), hu.below hb, hlt, hu.lt, hp _ (List.getElem_mem hj)⟩
/-- the sets behind the opening of the first batches -/
def openN (left held : Nat → Bool) (chain : List (Nat × List Nat)) (rel : List Nat) (j : Nat) : Sets := (chain.take j).foldl (openB left held) ⟨fun z => rel.contains z, fun _ => false⟩
theorem openN_succ {left held : Nat → Bool} {chain : List (Nat × List Nat)} {rel : List Nat} {j : Nat} (h : j < chain.length) : openN left held chain rel (j + 1) = openB left held (openN left held chain rel j) chain[j] := by
  unfold openN
  rw [List.take_succ_eq_append_getElem h, List.foldl_append]
  rfl
theorem openN_inv {left held : Nat → Bool} {chain : List (Nat × List Nat)} {rel : List Nat} {P : Nat} : ∀ (j : Nat), j ≤ chain.length → SInv chain rel j (openN left held chain rel j)
  | 0, _ => ⟨fun z hz => .inl (List.contains_iff_mem.1 hz), fun z hz => by cases hz⟩
  | j + 1, h => by
    rw [openN_succ (by omega)]
    exact SInv.open (P := P) (openN_inv (P := P) j (by omega)) left held (by omega)
theorem setL_none (P : Nat) : setL P (fun _ => false) = [] := List.filter_eq_nil_iff.2 (fun x _ => by simp)
/-- list pages with their numbers, each list in a block of its own -/
def Dealt (w : World) (N : Nat) (lv : Value) (bs : List (Nat × Value)) (cs : List (Nat × List Nat)) : Prop :=
  ∃ h : bs.length = cs.length, (∀ i (hi : i < cs.length), (bs[i]).1 = cs[i].1 ∧ OwnO w N (bs[i]).2 cs[i].2 ∧ ∀ g, (bs[i]).2.ownBlock = some g → lv.ownBlock ≠ some g) ∧ ∀ i j (hi : i < cs.length) (hj : j < cs.length), i < j → ∀ g, (bs[i]).2.ownBlock = some g → (bs[j]).2.ownBlock ≠ some g
def ListsPost (T hb lb most n P N : Nat) (tv chv : Value) (r : Option LSt) (w : World) (e : Ending) (w' : World) : Prop :=
  Mod (fun k => k = T) w w' ∧ match r with
  | some t => e = .returned (.bool true) ∧ ∃ lv bs, TB w' T tv lv t.opened t.pages hb lb most chv ∧ OwnC w' N lv bs ∧ Dealt w' N lv bs (dealL n (setL P t.s.L) t.lists)
  | none => e = .returned (.bool false)
set_option maxRecDepth 5000 in
set_option maxHeartbeats 80000000 in
theorem lists_any (w0 w : World) (N T hb lb most n P op pg nh nl : Nat) (tv chv rv : Value) (chain : List (Nat × List Nat)) (rel : List Nat) (left held : Nat → Bool)
    (hN : w.heap.size = N) (hw : Hid (Below w0.heap.size w0 w)) (hrow : Hid (CRow w0 chv chain)) (hrel : Hid (URow w0 rv rel)) (h0T : w0.heap.size ≤ T) (hTN : T < N) (hhN : hb < N) (hlN : lb < N) (hTh : T ≠ hb) (hTl : T ≠ lb)
    (ht : Hid (TB w T tv (.slice none 0 0) op pg hb lb most chv)) (hh : Hid (SetM w hb nh held)) (hl : Hid (SetM w lb nl left)) (hg : Hid (Good P chain rel)) (hP : P ≤ 65536) (hop : op ≤ chain.length) (hpg : pg ≤ most) (hm : most ≤ 65536) (hn1 : 1 ≤ n) (hn2 : n ≤ 2038) :
    Calls Try.prog 73 #[.pointer (some ⟨T, 0, none⟩), rv, .int .i64 (n : Int)] w (ListsPost T hb lb most n P N tv chv (listF left held most n P chain ⟨openN left held chain rel op, op, pg, []⟩) w) := by
  obtain ⟨r, hr⟩ : ∃ r, listF left held most n P chain ⟨openN left held chain rel op, op, pg, []⟩ = r := ⟨_, rfl⟩
  have HF := Lib.hid hr
  rw [hr]
  have HYes : Hid (∀ t lv bs wr, r = some t → Mod (fun k => k = T) w wr → TB wr T tv lv t.opened t.pages hb lb most chv → OwnC wr N lv bs → Dealt wr N lv bs (dealL n (setL P t.s.L) t.lists) → ListsPost T hb lb most n P N tv chv r w (.returned (.bool true)) wr) := fun t lv bs wr h1 h2 h3 h4 h5 => by
    rw [h1]
    exact ⟨h2, rfl, lv, bs, h3, h4, h5⟩
  have HNo : Hid (∀ wr, r = none → Mod (fun k => k = T) w wr → ListsPost T hb lb most n P N tv chv r w (.returned (.bool false)) wr) := fun wr h1 h2 => by
    rw [h1]
    exact ⟨h2, rfl⟩
  obtain ⟨R, hR⟩ : ∃ R, ListsPost T hb lb most n P N tv chv r w = R := ⟨_, rfl⟩
  rw [hR] at HYes HNo ⊢
  have HN := Lib.hid hN
  have hrl := hg.out.relN
  have HRL := Lib.hid hrl
  obtain ⟨rad, rc, hrv, _⟩ := hrel.out.form
  have HRW := hrel
  clear hr hR hN hrl hrel
  go_enter Try.func73, Try.ntmps73
  go_upto_region 0 with fail
  with_reducible refine wp_region_list ?_
  refine wpList_boxB rfl _ _ rfl N HN.out #[.pointer (some ⟨T, 0, none⟩)] rfl ?_
  intro w1 e1 b1 z1
  (try simp only [Act.put, nA, nB, nC])
  (with_reducible refine wpList_plain rfl ?_); intro K hK; go_simp; (with_reducible refine hK _ _ ?_); clear hK K; try simp only [Act.put, nA, nB, nC]
  go_upto_region 1 with fail
  with_reducible refine wp_region_list ?_
  refine wpList_allocB rfl 28 rfl (N + 1) z1 (.slice none 0 0) (fun _ => by kernel_rfl) ?_
  intro w2 e2 b2 z2
  (try simp only [Act.put, nA, nB, nC])
  have B2 : Hid (Below N w w2) := b1.trans (b2.mono (by omega))
  have E1 := Lib.hid (heap_below e1 b2 (by omega))
  have E2 : Hid (w2.heap[N + 1]? = some (.cells #[.slice none 0 0] 28 (0, 0))) := e2
  have Z2 : Hid (w2.heap.size = N + 2) := z2
  clear e1 b1 z1 e2 b2 z2
  have HR2 : Hid (URow w2 rv rel) := HRW.out.below (hw.out.trans (B2.out.mono (by have := hw.out.size; have := HN.out; omega)))
  subst hrv
  go_upto_region 2 with fail
  with_reducible refine wp_region_list ?_
  (with_reducible refine wpList_plain rfl ?_); intro K hK; go_simp; (with_reducible refine hK _ _ ?_); clear hK K; try simp only [Act.put, nA, nB, nC]
  with_reducible refine wpList_plain rfl ?_
  intro K hK
  go_simp
  refine (Clone_own _ rel w2 HR2 (by have := HRL.out.2.2; omega)).mono ?_; rintro e w3 ⟨v1, rfl, O3, B3⟩
  first | with_reducible refine hK _ _ ?_ | refine hK _ _ ?_
  clear hK K
  (try simp only [Act.put, nA, nB, nC])
  obtain ⟨ad1, cp1, hv1, hy1, hy2, hy3⟩ := O3.shape
  clear hy1 hy2 hy3
  obtain ⟨LC, hLC⟩ : ∃ k, w3.heap.size = k := ⟨_, rfl⟩
  refine wpList_allocB rfl 28 rfl LC hLC (.slice none 0 0) (fun _ => by kernel_rfl) ?_
  intro w4 e4 b4 z4
  (try simp only [Act.put, nA, nB, nC])
  subst hv1
  have f4 := heap_free e4 0
  have c4 := heap_cell e4 (o := 0)
  (with_reducible refine wpList_plain rfl ?_); intro K hK; go_simp; (with_reducible refine hK _ _ ?_); clear hK K; try simp only [Act.put, nA, nB, nC]
  obtain ⟨w5, hw5⟩ : ∃ W, w4.setCell ⟨LC, 0, none⟩ (.slice ad1 rel.length cp1) = W := ⟨_, rfl⟩
  have V5 : Hid (LV w5 LC (N + 1) N T N (.slice ad1 rel.length cp1) (.slice none 0 0) rel []) := by
    have h3 := B3.size
    have h2 := Z2.out
    have m5 := Mod.set (S := fun k => k = LC) (o := 0) w4 rfl (.slice ad1 rel.length cp1)
    have h4 : Below w2.heap.size w2 w4 := B3.trans (b4.mono (by omega))
    have c2 := heap_below E2.out h4 (by omega)
    have c3 := heap_below E1.out h4 (by omega)
    have hlt : ∀ g, (Value.slice ad1 rel.length cp1).ownBlock = some g → N + 2 ≤ g ∧ g < LC := fun g hg => by have := O3.lt g hg; omega
    have O4 := (O3.below (C := LC) b4 (fun g hg => (hlt g hg).2)).mod m5 (fun g hg e => by have := (hlt g hg).2; omega)
    rw [← hw5]
    refine ⟨by rw [heap_set e4]; rfl, m5.heap c2 (by omega), m5.heap c3 (by omega), O4.mono (by omega), OwnO.nil _ _, fun g hg => ?_, fun g hg => (by cases hg), by omega, by omega, by omega⟩
    have := hlt g hg
    exact ⟨by omega, by omega, by omega, fun e => by cases e⟩
  have B5 : Hid (Below N w w5) := by
    have h3 := B3.size
    have h2 := Z2.out
    rw [← hw5]
    exact (B2.out.trans ((B3.mono (by omega)).trans (b4.mono (by omega)))).setCell (by show N ≤ LC; omega) _
  have hLCN : N + 2 ≤ LC := by have := B3.size; have := Z2.out; omega
  rw [hw5]
  clear hw5 f4 c4 e4 b4 z4 O3 B3 hLC HR2 Z2 E1 E2 B2
  have hmf : ∀ (fn : Fn) (first cap : Array Value) (w : World), (Instr.makeFunc fn first cap).run Try.prog w = .ok (.func fn first cap) w := fun _ _ _ _ => rfl
  have cc := heap_cell V5.out.c1 (o := 0)
  go_upto_region 4 with fail
  clear hmf
  with_reducible refine wp_region_list ?_
  (with_reducible refine wpList_plain rfl ?_); intro K hK; go_simp; (with_reducible refine hK _ _ ?_); clear hK K; try simp only [Act.put, nA, nB, nC]
  with_reducible refine wpList_plain rfl ?_
  intro K hK
  go_simp
  refine (Sort_own w5 N _ rel V5.out.o1 (by have := HRL.out.2.2; omega)).mono ?_; rintro e w6 ⟨rfl, O6, M6⟩
  first | with_reducible refine hK _ _ ?_ | refine hK _ _ ?_
  clear hK K
  (try simp only [Act.put, nA, nB, nC])
  have L6 : Hid (LI w N LC (N + 1) N T hb lb most tv chv P (.slice ad1 rel.length cp1) (.slice none 0 0) (.slice none 0 0) (openN left held chain rel 0) op pg [] w6) := by
    have hs : sortN rel = setL P (openN left held chain rel 0).L := sortN_eq HRL.out.1 (fun x => ⟨fun hx => ⟨HRL.out.2.1 x hx, List.contains_iff_mem.2 hx⟩, fun hx => List.contains_iff_mem.1 hx.2⟩)
    have hs2 : ([] : List Nat) = setL P (openN left held chain rel 0).C := (setL_none P).symm
    rw [hs] at O6
    have h5 := V5.out
    have b6 : Below N w5 w6 := M6.below (n := N) (fun k hk e => by have := (h5.o1.lt k e).1; omega) (by have := B5.out.size; have := HN.out; omega)
    have m6 : Mod (fun k => k = T) w w6 := Mod.of _ (by rw [HN.out]; exact B5.out.trans b6)
    refine ⟨⟨M6.heap h5.c1 (fun e => (h5.a1 LC e).1 rfl), M6.heap h5.c2 (fun e => (h5.a1 (N + 1) e).2.1 rfl), M6.heap h5.ct (fun e => (h5.a1 N e).2.2.1 rfl), O6, by rw [← hs2]; exact OwnO.nil _ _, h5.a1, h5.a2, h5.lf, h5.lt, h5.ft⟩, heap_below ht.out (B5.out.trans b6) (by omega), OwnC.nil _ _, m6, fun g hg => (by cases hg), by omega, by omega, by omega, hTN, hhN, hlN, HN.out⟩
  clear cc V5 B5 O6 M6
  obtain ⟨cad, ccap, hcv, hcl, hcm, hc9⟩ := hrow.out.2
  subst hcv
  have hcN : ∀ wr, Mod (fun k => k = T) w wr → Below w0.heap.size w0 wr := fun wr m => hw.out.trans (m.below (n := w0.heap.size) (fun k hk e => by omega) (by have := hw.out.size; omega))
  have HC9 := Lib.hid hc9
  have HCN := Lib.hid hcN
  clear hc9 hcN
  have ct := heap_cell L6.out.v.ct (o := 0)
  have c7 := heap_cell L6.out.t (o := 7)
  have c2 := heap_cell L6.out.t (o := 2)
  have iop : (op : Int) ≤ (chain.length : Int) := by omega
  have iop2 : op ≤ ccap := by omega
  go_upto_region 5 with fail
  go_quiet (fail)
  clear ct c7 c2
  have L7 := Lib.hid (L6.out.drewN nq)
  obtain ⟨w7, hw7⟩ : ∃ W, w6.drewN nq = W := ⟨_, rfl⟩
  rw [hw7] at L7
  rw [hw7]
  clear hw7 L6
  go_upto_region 6 with fail
  go_loopw [34] (fun iv wr => ∃ (j : Nat) (u1 u2 : Value), j ≤ op ∧ Hid (LI w N LC (N + 1) N T hb lb most tv (.slice cad chain.length ccap) P u1 u2 (.slice none 0 0) (openN left held chain rel j) op pg [] wr) ∧ iv = .int .i64 (j : Int)) (fun iv _ => op - (intOf iv).toNat)
  case atStart => exact ⟨0, _, _, Nat.zero_le _, L7, rfl⟩
  case round =>
    obtain ⟨j, u1, u2, hj, L8, rfl⟩ := hrel
    by_cases hlt : j < op
    case pos =>
      have ik : (j : Int) < (op : Int) := by omega
      have hjc : j < chain.length := by omega
      obtain ⟨cb, co, nad, nc, hca, hr, hu, hcb, hnb, hpg0⟩ := chain_at hrow.out (HCN.out wr L8.out.m) hjc
      have hxl := hg.out.len hjc
      have hoL := open_L hg.out (openN_inv (P := P) (left := left) (held := held) j (by omega)) left held hjc
      have hoC := open_C hg.out (openN_inv (P := P) (left := left) (held := held) j (by omega)) left held hjc
      have hoS := openN_succ (left := left) (held := held) (chain := chain) (rel := rel) hjc
      rw [← hoS] at hoL hoC
      obtain ⟨⟨pg0, xs⟩, hcx⟩ : ∃ c, chain[j] = c := ⟨_, rfl⟩
      rw [hcx] at hr hu hxl hoL hoC hpg0 hnb
      simp only at hr hu hxl hoL hoC hpg0 hnb
      subst hca
      have HR := Lib.hid hr
      have HU := Lib.hid hu
      have HOL := Lib.hid hoL
      have HOC := Lib.hid hoC
      have HNB := Lib.hid hnb
      clear hr hu hcx hoL hoC hoS hnb
      go_upto_region 7 with fail
      with_reducible refine wp_region_list ?_
      (with_reducible refine wpList_plain rfl ?_); intro K hK; go_simp; (with_reducible refine hK _ _ ?_); clear hK K; try simp only [Act.put, nA, nB, nC]
      refine wpList_load_mid rfl 64 _ rfl cb (co + j * 2) rfl [uN pg0, .slice nad xs.length nc] _ HR.out Try.underlying64 rfl info_B ?_
      (try simp only [Act.put, nA, nB, nC])
      obtain ⟨bb, hbb⟩ : ∃ b, wr.heap.size = b := ⟨_, rfl⟩
      refine wpList_allocB rfl 64 rfl bb hbb (.agg #[.int .u32 0, .slice none 0 0]) (fun _ => by kernel_rfl) ?_
      intro w8 e8 b8 z8
      (try simp only [Act.put, nA, nB, nC])
      refine wpList_storeB rfl 64 _ _ rfl bb #[.int .u32 (pg0 : Int), .slice nad xs.length nc] rfl rfl 64 _ e8 info_B rfl (by simp [Value.oneCell']) ?_
      intro w9 e9 m9
      (try simp only [Act.put, nA, nB, nC])
      have b9 : Below wr.heap.size wr w9 := by
        rw [hbb]
        exact b8.trans (m9.below (n := bb) (fun k hk e => by omega) (by omega))
      have L9 := Lib.hid (L8.out.low b9)
      have HU9 := Lib.hid (HU.out.below b9)
      have HH9 : Hid (SetM w9 hb nh held) := hh.out.mod L9.out.m (by omega)
      have HL9 : Hid (SetM w9 lb nl left) := hl.out.mod L9.out.m (by omega)
      have c0 := heap_cell e9 (o := 0)
      have c1 := heap_cell e9 (o := 1)
      clear e8 b8 z8 m9 HR HU L8 b9 hbb
      go_upto_region 8 with fail
      with_reducible refine wp_region_list ?_
      (with_reducible refine wpList_plain rfl ?_); intro K hK; go_simp; (with_reducible refine hK _ _ ?_); clear hK K; try simp only [Act.put, nA, nB, nC]
      (with_reducible refine wpList_plain rfl ?_); intro K hK; go_simp; (with_reducible refine hK _ _ ?_); clear hK K; try simp only [Act.put, nA, nB, nC]
      with_reducible refine wpList_plain rfl ?_
      intro K hK
      go_simp
      (go_at_call 89; refine (open_any LC (N + 1) N T N hb lb op pg most nh nl pg0 tv (.slice none 0 0) _ _ u1 u2 held left xs _ _ w9 (Lib.hid L9.out.v) (Lib.hid L9.out.t) HH9 HL9 HU9 hpg0 L9.out.size (L9.out.ls T hTN) (L9.out.ls hb hhN) (L9.out.ls lb hlN) (fun hp k hk => L9.out.ls k (by have := HNB.out hp k hk; omega)) (by have := setL_le P (openN left held chain rel j).L; omega) (by have := setL_le P (openN left held chain rel j).C; omega) (by omega)).mono ?_; rintro e w10 ⟨rfl, m10, u3, u4, v10, f3, f4⟩; rw [HOL.out, HOC.out] at v10)
      first | with_reducible refine hK _ _ ?_ | refine hK _ _ ?_
      clear hK K
      (try simp only [Act.put, nA, nB, nC])
      have L10 := Lib.hid (L9.out.turn m10 v10 f3 f4)
      clear c0 c1 e9 m10 v10 f3 f4 L9 HU9 HH9 HL9
      go_wp2_with fail
      exact ⟨⟨j + 1, u3, u4, by omega, L10, by go_num⟩, by simp [intOf]; omega⟩
    case neg =>
      obtain rfl : j = op := by omega
      have ik : ¬ (j : Int) < (j : Int) := by omega
      clear L7 hj HRL HRW
      go_upto_region 10 with fail
      go_loopg [] (muL P chain ⟨openN left held chain rel j, j, pg, []⟩) (fun k wr => ∃ (t : LSt) (u1 u2 lv : Value) (bs : List (Nat × Value)), muL P chain t ≤ k ∧ Hid (listF left held most n P chain t = r) ∧ t.opened ≤ chain.length ∧ t.lists.length ≤ P ∧ Hid (SInv chain rel t.opened t.s) ∧ t.pages ≤ most ∧ Hid (bs = t.lists.map fun p => (p, Value.slice none 0 0)) ∧ Hid (LI w N LC (N + 1) N T hb lb most tv (.slice cad chain.length ccap) P u1 u2 lv t.s t.opened t.pages bs wr))
      case atStart => exact ⟨_, u1, u2, _, [], Nat.le_refl _, HF.out, hop, Nat.zero_le _, openN_inv (P := P) j hop, hpg, rfl, L8⟩
      case round =>
        obtain ⟨⟨s, op, pg2, ls⟩, u1, u2, lv, bs, hmu, HF2, ho2, hlP, HS, hp2, HB, L10⟩ := hrel
        simp only at HF2 ho2 hlP HS hp2 HB L10
        obtain ⟨a1, c1, hu1, hy1, hy2, hg1⟩ := L10.out.v.o1.shape
        obtain ⟨a2, c2, hu2, hy3, hy4, hg2⟩ := L10.out.v.o2.shape
        obtain ⟨a3, c3, hu3, hy5, hy6, hg3⟩ := L10.out.c.shape
        have hbl : bs.length = ls.length := by rw [HB.out, List.length_map]
        rw [hbl] at hu3
        obtain ⟨n1, hn1e⟩ : ∃ k, (setL P s.L).length = k := ⟨_, rfl⟩
        obtain ⟨n2, hn2e⟩ : ∃ k, (setL P s.C).length = k := ⟨_, rfl⟩
        obtain ⟨m, hme⟩ : ∃ m, ls.length = m := ⟨_, rfl⟩
        obtain ⟨mn, hmn⟩ : ∃ k, m * n = k := ⟨_, rfl⟩
        have hn1P : n1 ≤ P := by rw [← hn1e]; exact setL_le _ _
        have hmnB : mn ≤ 65536 * 2038 := by rw [← hmn]; exact Nat.mul_le_mul (by omega) hn2
        have hML : moreL n P ⟨s, op, pg2, ls⟩ = decide (mn < n1) := by unfold moreL; simp only; rw [hme, hmn, hn1e]
        rw [hn1e] at hu1
        rw [hn2e] at hu2
        rw [hme] at hu3 hbl hlP
        subst hu1 hu2 hu3
        have HG1 := Lib.hid hg1
        have HG2 := Lib.hid hg2
        have HML := Lib.hid hML
        have HN1 := Lib.hid hn1e
        have HN2 := Lib.hid hn2e
        have HME := Lib.hid hme
        have HBL := Lib.hid hbl
        have em1 : (m : Int) * (n : Int) = (mn : Int) := by rw [← hmn, Int.natCast_mul]
        have em2 : IntKind.i64.wrap (mn : Int) = (mn : Int) := IntWalk.i64_in _ (by omega)
        obtain ⟨q, hq⟩ : ∃ q, decide (mn < n1) = q := ⟨_, rfl⟩
        have hq2 : decide ((mn : Int) < (n1 : Int)) = q := by rw [← hq]; exact decide_eq_decide.2 (by omega)
        have HQ := Lib.hid hq
        have cL := heap_cell L10.out.v.c1 (o := 0)
        have cT := heap_cell L10.out.v.ct (o := 0)
        have t1 := heap_cell L10.out.t (o := 1)
        clear hg1 hg2 hg3 hML hn1e hn2e hme hmn hbl hy1 hy2 hy3 hy4 hy5 hy6
        go_upto_region 10 with fail
        go_quiet (fail)
        clear cL cT t1 em1 em2 hq2 hq
        have L11 := Lib.hid (L10.out.drewN nq)
        obtain ⟨w11, hw11⟩ : ∃ W, wr.drewN nq = W := ⟨_, rfl⟩
        rw [hw11] at L11
        rw [hw11]
        clear hw11 L10
        cases q
        case false =>
          have hF := HF2.out
          rw [listF_stop (by rw [HML.out, HQ.out])] at hF
          have HF3 := Lib.hid hF
          have D0 : Hid (DL w N LC N T hb lb most tv (.slice cad chain.length ccap) n (setL P s.L) ls (.slice a1 n1 c1) (.slice a3 m c3) op pg2 0 0 bs w11) := by
            have h := L11.out.deal n
            have e : bs.map (·.1) = ls := by rw [HB.out, List.map_map]; exact List.map_id' ls
            rw [e] at h
            exact h
          obtain ⟨xs0, hxs0⟩ : ∃ l, setL P s.L = l := ⟨_, rfl⟩
          have hA0 : Hid (All4 xs0) := by rw [← hxs0]; exact setL_all P s.L (by omega)
          have hlen0 : xs0.length ≤ P := by rw [← hxs0]; exact setL_le _ _
          have HXS := Lib.hid hxs0
          rw [hxs0] at D0
          clear L11 hF hxs0 HML HG1 HG2 HN1 HN2 L8 hmu
          have cT := heap_cell D0.out.ct (o := 0)
          have t1 := heap_cell D0.out.t (o := 1)
          go_upto_region 25 with fail
          clear cT t1
          go_loopw [136] (fun iv wr => ∃ (j : Nat) (u1 : Value) (bs2 : List (Nat × Value)), j ≤ m ∧ bs2.length = m ∧ Hid (DL w N LC N T hb lb most tv (.slice cad chain.length ccap) n xs0 ls u1 (.slice a3 m c3) op pg2 j j bs2 wr) ∧ iv = .int .i64 (j : Int)) (fun iv _ => m - (intOf iv).toNat)
          case atStart => exact ⟨0, _, bs, Nat.zero_le _, HBL.out, D0, rfl⟩
          case round =>
            obtain ⟨j, u1, bs2, hjm, hb2, D1, rfl⟩ := hrel
            by_cases hlt : j < m
            case neg =>
              obtain rfl : j = m := by omega
              have ij : ¬ (j : Int) < (j : Int) := by omega
              have hR := HYes.out ⟨s, op, pg2, ls⟩ (.slice a3 j c3) bs2 wr HF3.out.symm D1.out.m D1.out.t D1.out.c (by
                show Dealt wr N _ bs2 (dealL n (setL P s.L) ls)
                rw [HXS.out]
                have hl2 : bs2.length = ls.length := by rw [hb2, HME.out]
                refine ⟨by rw [dealL_len]; exact hl2, fun i hi => ?_, fun i k hi hk hik g hg => ?_⟩
                · rw [dealL_len] at hi
                  have hs : sec bs2 i = some (bs2[i]'(by omega)).2 := by unfold sec; rw [List.getElem?_eq_getElem (by omega)]; rfl
                  have hd := D1.out.d i _ (by omega) hs
                  rw [dealL_at n ls xs0 i hi]
                  refine ⟨?_, hd.1, fun g hg => (hd.2 g hg).1⟩
                  have h9 : (bs2.map (·.1))[i]? = ls[i]? := by rw [D1.out.fst]
                  rw [List.getElem?_map, List.getElem?_eq_getElem (by omega), List.getElem?_eq_getElem hi] at h9
                  exact Option.some.inj h9
                · rw [dealL_len] at hi hk
                  have hs : sec bs2 i = some (bs2[i]'(by omega)).2 := by unfold sec; rw [List.getElem?_eq_getElem (by omega)]; rfl
                  have hs2 : sec bs2 k = some (bs2[k]'(by omega)).2 := by unfold sec; rw [List.getElem?_eq_getElem (by omega)]; rfl
                  exact D1.out.e i k _ _ hik (by omega) hs hs2 g hg)
              have HR := Lib.hid hR
              clear hR
              go_wp2_with fail
              exact HR.out
            case pos =>
              have ij : (j : Int) < (m : Int) := by omega
              obtain ⟨a5, c5, hu5, hle5, hcm5, hg5⟩ := D1.out.o1.shape
              obtain ⟨n5, hn5⟩ : ∃ k, (xs0.drop (j * n)).length = k := ⟨_, rfl⟩
              rw [hn5] at hu5 hle5
              subst hu5
              have cL := heap_cell D1.out.c1 (o := 0)
              subst hb2
              obtain ⟨ad7, cp7, hv7, _, _, hg7⟩ := D1.out.c.shape
              have ha3 : ∃ g, a3 = some ⟨g, 0, none⟩ := by
                obtain ⟨g, hg⟩ := hg7 (by omega)
                exact ⟨g, (Value.slice.inj hv7).1.trans hg⟩
              obtain ⟨gv, ha3⟩ := ha3
              subst ha3
              clear hv7 hg7
              have hj1 : (j + 1) * n = j * n + n := by rw [Nat.add_mul]; omega
              cases a5 with
              | none =>
                have h0 : n5 = 0 ∧ c5 = 0 ∧ xs0.drop (j * n) = [] := by
                  rcases D1.out.o1 with ⟨h1, h2⟩ | ⟨_, _, _, _, h1, _⟩
                  · cases h1; exact ⟨rfl, rfl, h2⟩
                  · cases h1
                obtain ⟨rfl, rfl, hnil⟩ := h0
                have hmin : min (n : Int) ((0 : Nat) : Int) = 0 := by omega
                have hmin2 : min (n : Int) 0 = 0 := by omega
                have HUR : Hid (URow wr.drew (.slice none 0 0) ((xs0.drop (j * n)).take n)) := by
                  rw [hnil, List.take_nil]
                  exact URow.nil _
                have HCUT : Hid (∀ W, OwnO W N (.slice none 0 0) (xs0.drop ((j + 1) * n))) := fun W => by
                  rw [hj1, ← List.drop_drop, hnil, List.drop_nil]
                  exact OwnO.nil _ _
                clear hnil hn5 hg5 hle5 hcm5 hj1
                have cT := heap_cell D1.out.ct (o := 0)
                have t1 := heap_cell D1.out.t (o := 1)
                go_upto_region 28 with fail
                refine wp_region_T (S := fun W => W.cell? ⟨N, 0, none⟩ = some (.pointer (some ⟨T, 0, none⟩)) ∧ W.cell? ⟨T, 1, none⟩ = some (.slice (some ⟨gv, 0, none⟩) bs2.length c3) ∧ W.cell? ⟨LC, 0, none⟩ = some (.slice none 0 0)) 13 (by kernel_rfl) ⟨cT, t1, cL⟩ (fun hHeld => ?_)
                refine' wpAnyT_take (i := 0) (oi := ⟨some 143, .load 126 (.tmp 3), 126, "free.go:196", #[], none⟩) rfl (by kernel_rfl) (by kernel_rfl) (by kernel_rfl) (by kernel_rfl) (by kernel_rfl) (fun _ _ _ h => h) (Or.inl ⟨by rfl, _⟩) (by assumption) _
                rotate_left
                · (intro wS hSw; (try dsimp only at hSw); go_simp; try with_reducible rfl)
                try simp only [Act.put, nA, nB, nC]
                refine' wpAnyT_pure (i := 1) (oi := ⟨some 144, .nilCheck (.tmp 143), 0, "free.go:196", #[⟨0, .data⟩], none⟩) rfl (by decide) (by kernel_rfl) (by kernel_rfl) (by kernel_rfl) (fun _ _ _ h => h) (Or.inl ⟨by rfl, _⟩) (by assumption) _
                rotate_left
                · (intro wS hSw; (try dsimp only at hSw); go_simp; try with_reducible rfl)
                try simp only [Act.put, nA, nB, nC]
                refine' wpAnyT_pure (i := 2) (oi := ⟨some 145, .fieldAddr 128 (.tmp 144) 0, 0, "free.go:196", #[⟨1, .data⟩], none⟩) rfl (by decide) (by kernel_rfl) (by kernel_rfl) (by kernel_rfl) (fun _ _ _ h => h) (Or.inl ⟨by rfl, _⟩) (by assumption) _
                rotate_left
                · (intro wS hSw; (try dsimp only at hSw); go_simp; try with_reducible rfl)
                try simp only [Act.put, nA, nB, nC]
                refine' wpAnyT_pure (i := 3) (oi := ⟨some 146, .fieldAddr 48 (.tmp 145) 1, 0, "free.go:196", #[⟨2, .data⟩], none⟩) rfl (by decide) (by kernel_rfl) (by kernel_rfl) (by kernel_rfl) (fun _ _ _ h => h) (Or.inl ⟨by rfl, _⟩) (by assumption) _
                rotate_left
                · (intro wS hSw; (try dsimp only at hSw); go_simp; try with_reducible rfl)
                try simp only [Act.put, nA, nB, nC]
                refine' wpAnyT_take (i := 4) (oi := ⟨some 147, .load 44 (.tmp 146), 44, "free.go:196", #[⟨3, .data⟩], none⟩) rfl (by kernel_rfl) (by kernel_rfl) (by kernel_rfl) (by kernel_rfl) (by kernel_rfl) (fun _ _ _ h => h) (Or.inl ⟨by rfl, _⟩) (by assumption) _
                rotate_left
                · (intro wS hSw; (try dsimp only at hSw); go_simp; try with_reducible rfl)
                try simp only [Act.put, nA, nB, nC]
                refine' wpAnyT_pure (i := 5) (oi := ⟨some 148, .move (.tmp 16), 3, "free.go:196", #[], none⟩) rfl (by decide) (by kernel_rfl) (by kernel_rfl) (by kernel_rfl) (fun _ _ _ h => h) (Or.inl ⟨by rfl, _⟩) (by assumption) _
                rotate_left
                · (intro wS hSw; (try dsimp only at hSw); go_simp; try with_reducible rfl)
                try simp only [Act.put, nA, nB, nC]
                refine' wpAnyT_take (i := 6) (oi := ⟨some 149, .load 28 (.tmp 8), 28, "free.go:196", #[], none⟩) rfl (by kernel_rfl) (by kernel_rfl) (by kernel_rfl) (by kernel_rfl) (by kernel_rfl) (fun _ _ _ h => h) (Or.inl ⟨by rfl, _⟩) (by assumption) _
                rotate_left
                · (intro wS hSw; (try dsimp only at hSw); go_simp; try with_reducible rfl)
                try simp only [Act.put, nA, nB, nC]
                refine' wpAnyT_pure (i := 7) (oi := ⟨some 150, .move (.tmp 17), 3, "free.go:196", #[], none⟩) rfl (by decide) (by kernel_rfl) (by kernel_rfl) (by kernel_rfl) (fun _ _ _ h => h) (Or.inl ⟨by rfl, _⟩) (by assumption) _
                rotate_left
                · (intro wS hSw; (try dsimp only at hSw); go_simp; try with_reducible rfl)
                try simp only [Act.put, nA, nB, nC]
                refine' wpAnyT_pure (i := 8) (oi := ⟨some 151, .move (.tmp 17), 3, "free.go:196", #[], none⟩) rfl (by decide) (by kernel_rfl) (by kernel_rfl) (by kernel_rfl) (fun _ _ _ h => h) (Or.inl ⟨by rfl, _⟩) (by assumption) _
                rotate_left
                · (intro wS hSw; (try dsimp only at hSw); go_simp; try with_reducible rfl)
                try simp only [Act.put, nA, nB, nC]
                refine' wpAnyT_pure (i := 9) (oi := ⟨some 152, .slice 28 (.tmp 149) none (some (.tmp 150)) (some (.tmp 151)), 28, "free.go:196", #[⟨6, .data⟩, ⟨7, .data⟩, ⟨8, .data⟩], none⟩) rfl (by decide) (by kernel_rfl) (by kernel_rfl) (by kernel_rfl) (fun _ _ _ h => h) (Or.inl ⟨by rfl, _⟩) (by assumption) _
                rotate_left
                · (intro wS hSw; (try dsimp only at hSw); go_simp; try with_reducible rfl)
                try simp only [Act.put, nA, nB, nC]
                refine wpAnyT_one (i := 10) (oi := ⟨some 153, .call ⟨.value (.func 76), #[.tmp 152], #[28]⟩, 28, "free.go:196", #[⟨9, .data⟩], none⟩) rfl (by kernel_rfl) (fun K hK => ?_)
                go_simp
                (refine (Clone_own _ ((xs0.drop (j * n)).take n) wr.drew HUR (by rw [List.length_take]; omega)).mono ?_; rintro e w2 ⟨v2, rfl, O2, B2⟩; have D2 := Lib.hid (D1.out.drew.low B2); obtain ⟨a6, c6, hv6, hy1, hy2, hy3⟩ := O2.shape; clear hy1 hy2 hy3; obtain ⟨n6, hn6⟩ : ∃ k, ((xs0.drop (j * n)).take n).length = k := ⟨_, rfl⟩; rw [hn6] at hv6; subst hv6; clear hn6)
                refine hK.out _ _ ?_ (fun hHeld => ?_)
                · exact ⟨heap_cell D2.out.ct 0, heap_cell D2.out.t 1, heap_cell D2.out.c1 0⟩
                clear hK K
                try simp only [Act.put, nA, nB, nC]
                have co := (D2.out.c.cell j hlt).2
                have cf := D2.out.c.free (j * 2 + 1)
                refine' wpAnyT_pure (i := 11) (oi := ⟨some 154, .indexAddr 44 (.tmp 147) (.tmp 148), 0, "free.go:196", #[⟨4, .data⟩, ⟨5, .data⟩, ⟨0, .phase⟩, ⟨1, .phase⟩, ⟨2, .phase⟩, ⟨3, .phase⟩, ⟨4, .phase⟩, ⟨5, .phase⟩, ⟨6, .phase⟩, ⟨7, .phase⟩, ⟨8, .phase⟩, ⟨9, .phase⟩, ⟨10, .phase⟩], none⟩) rfl (by decide) (by kernel_rfl) (by kernel_rfl) (by kernel_rfl) (fun _ _ _ h => h) (Or.inl ⟨by rfl, _⟩) (by assumption) _
                rotate_left
                · (intro wS hSw; (try dsimp only at hSw); go_simp; try with_reducible rfl)
                try simp only [Act.put, nA, nB, nC]
                refine' wpAnyT_pure (i := 12) (oi := ⟨some 155, .fieldAddr 64 (.tmp 154) 1, 0, "free.go:196", #[⟨11, .data⟩, ⟨0, .phase⟩, ⟨1, .phase⟩, ⟨2, .phase⟩, ⟨3, .phase⟩, ⟨4, .phase⟩, ⟨5, .phase⟩, ⟨6, .phase⟩, ⟨7, .phase⟩, ⟨8, .phase⟩, ⟨9, .phase⟩, ⟨10, .phase⟩], none⟩) rfl (by decide) (by kernel_rfl) (by kernel_rfl) (by kernel_rfl) (fun _ _ _ h => h) (Or.inl ⟨by rfl, _⟩) (by assumption) _
                rotate_left
                · (intro wS hSw; (try dsimp only at hSw); go_simp; try with_reducible rfl)
                try simp only [Act.put, nA, nB, nC]
                refine wpAnyT_last (oi := ⟨none, .store 28 (.tmp 155) (.tmp 153), 0, "free.go:196", #[⟨12, .data⟩, ⟨10, .data⟩, ⟨10, .chain⟩, ⟨0, .phase⟩, ⟨1, .phase⟩, ⟨2, .phase⟩, ⟨3, .phase⟩, ⟨4, .phase⟩, ⟨5, .phase⟩, ⟨6, .phase⟩, ⟨7, .phase⟩, ⟨8, .phase⟩, ⟨9, .phase⟩, ⟨10, .phase⟩], none⟩) rfl (by kernel_rfl) (by kernel_rfl) (fun K hK => ?_)
                go_simp
                refine hK.out _ _ ?_
                clear hK K
                try simp only [Act.put, nA, nB, nC]
                have hz := D1.out.size
                have D3 := Lib.hid (D2.out.dealt hlt (v' := .slice a6 n6 c6) (fun g hg => by have h1 : wr.heap.size ≤ g := (O2.lt g hg).1; omega) (O2.mono (by exact hz)) (fun g hg => by
                  have h1 : wr.heap.size ≤ g := (O2.lt g hg).1
                  refine ⟨fun e => ?_, fun e => ?_, fun e => ?_, fun e => ?_, fun i v hi hv e => ?_⟩
                  · have := (D1.out.c.lt gv rfl).2; omega
                  · have := (D1.out.o1.lt g e).2; omega
                  · have := heap_lt D1.out.c1; omega
                  · have := heap_lt D1.out.ct; omega
                  · have := ((D1.out.d i v hi hv).1.lt g e).2; omega))
                refine wpAnyT_done (by kernel_rfl) ?_ _
                obtain ⟨w3, hw3⟩ : ∃ W, w2.setCell ⟨gv, j * 2 + 1, none⟩ (.slice a6 n6 c6) = W := ⟨_, rfl⟩
                rw [hw3] at D3
                rw [hw3]
                clear hw3 D2 D1 cT t1 cL co cf O2 B2 HUR hHeld
                have cL := heap_cell D3.out.c1 (o := 0)
                have fL := heap_free D3.out.c1 0
                go_upto_region 29 with fail
                with_reducible refine wp_region_list ?_
                (with_reducible refine wpList_plain rfl ?_); intro K hK; go_simp; (with_reducible refine hK _ _ ?_); clear hK K; try simp only [Act.put, nA, nB, nC]
                (with_reducible refine wpList_plain rfl ?_); intro K hK; go_simp; (with_reducible refine hK _ _ ?_); clear hK K; try simp only [Act.put, nA, nB, nC]
                (with_reducible refine wpList_plain rfl ?_); intro K hK; go_simp; (with_reducible refine hK _ _ ?_); clear hK K; try simp only [Act.put, nA, nB, nC]
                (with_reducible refine wpList_plain rfl ?_); intro K hK; go_simp; (with_reducible refine hK _ _ ?_); clear hK K; try simp only [Act.put, nA, nB, nC]
                have D4 := Lib.hid (D3.out.cut (u2 := .slice none 0 0) (HCUT.out _) (fun g h => h))
                obtain ⟨w4, hw4⟩ : ∃ W, w3.setCell ⟨LC, 0, none⟩ (.slice none 0 0) = W := ⟨_, rfl⟩
                rw [hw4] at D4
                rw [hw4]
                clear hw4 D3 cL fL HCUT
                go_wp2_with fail
                exact ⟨⟨j + 1, _, _, by omega, by rw [List.length_set], D4, by go_num⟩, by simp [intOf]; omega⟩
              | some A5 =>
                have hA5 : ∃ g o, A5 = ⟨g, o, none⟩ := by
                  rcases D1.out.o1 with ⟨h1, _⟩ | ⟨g, o, _, _, h1, _⟩
                  · cases h1
                  · exact ⟨g, o, Option.some.inj (Value.slice.inj h1).1⟩
                obtain ⟨g1, o1, hA5⟩ := hA5
                subst hA5
                obtain ⟨k, hk⟩ : ∃ k, min n n5 = k := ⟨_, rfl⟩
                have hkn : k ≤ n5 := by omega
                have hmin : min (n : Int) (n5 : Int) = (k : Int) := by omega
                have hkc : k ≤ c5 := by omega
                have hkI : (k : Int) ≤ (c5 : Int) := by omega
                have hkI2 : (k : Int) ≤ (n5 : Int) := by omega
                have etk : (xs0.drop (j * n)).take k = (xs0.drop (j * n)).take n := by
                  rw [← hk, ← hn5, List.take_eq_take_iff]
                  omega
                have edk : (xs0.drop (j * n)).drop k = xs0.drop ((j + 1) * n) := by
                  rw [hj1, ← List.drop_drop]
                  rcases Nat.le_total n n5 with h | h
                  · rw [show k = n by omega]
                  · rw [List.drop_eq_nil_of_le (by omega), List.drop_eq_nil_of_le (by omega)]
                have HUR : Hid (URow wr.drew (.slice (some ⟨g1, o1, none⟩) k k) ((xs0.drop (j * n)).take n)) := by
                  rw [← etk]
                  exact D1.out.o1.headR k (by omega) (hA0.out.drop _)
                obtain ⟨o6, ho6⟩ : ∃ o6, (if c5 = k then some (⟨g1, o1, none⟩ : Addr) else some ⟨g1, o1 + k, none⟩) = some ⟨g1, o6, none⟩ := by
                  by_cases h : c5 = k
                  · exact ⟨o1, by rw [if_pos h]⟩
                  · exact ⟨o1 + k, by rw [if_neg h]⟩
                have HCUT : Hid (∀ W, OwnO W N (.slice (some ⟨g1, o1, none⟩) n5 c5) (xs0.drop (j * n)) → OwnO W N (.slice (some ⟨g1, o6, none⟩) (n5 - k) (c5 - k)) (xs0.drop ((j + 1) * n))) := fun W h => by
                  have h2 := h.tail k (by omega)
                  rw [ho6, edk] at h2
                  exact h2
                clear etk edk hk hn5 hg5 hj1
                have cT := heap_cell D1.out.ct (o := 0)
                have t1 := heap_cell D1.out.t (o := 1)
                go_upto_region 28 with fail
                refine wp_region_T (S := fun W => W.cell? ⟨N, 0, none⟩ = some (.pointer (some ⟨T, 0, none⟩)) ∧ W.cell? ⟨T, 1, none⟩ = some (.slice (some ⟨gv, 0, none⟩) bs2.length c3) ∧ W.cell? ⟨LC, 0, none⟩ = some (.slice (some ⟨g1, o1, none⟩) n5 c5)) 13 (by kernel_rfl) ⟨cT, t1, cL⟩ (fun hHeld => ?_)
                refine' wpAnyT_take (i := 0) (oi := ⟨some 143, .load 126 (.tmp 3), 126, "free.go:196", #[], none⟩) rfl (by kernel_rfl) (by kernel_rfl) (by kernel_rfl) (by kernel_rfl) (by kernel_rfl) (fun _ _ _ h => h) (Or.inl ⟨by rfl, _⟩) (by assumption) _
                rotate_left
                · (intro wS hSw; (try dsimp only at hSw); go_simp; try with_reducible rfl)
                try simp only [Act.put, nA, nB, nC]
                refine' wpAnyT_pure (i := 1) (oi := ⟨some 144, .nilCheck (.tmp 143), 0, "free.go:196", #[⟨0, .data⟩], none⟩) rfl (by decide) (by kernel_rfl) (by kernel_rfl) (by kernel_rfl) (fun _ _ _ h => h) (Or.inl ⟨by rfl, _⟩) (by assumption) _
                rotate_left
                · (intro wS hSw; (try dsimp only at hSw); go_simp; try with_reducible rfl)
                try simp only [Act.put, nA, nB, nC]
                refine' wpAnyT_pure (i := 2) (oi := ⟨some 145, .fieldAddr 128 (.tmp 144) 0, 0, "free.go:196", #[⟨1, .data⟩], none⟩) rfl (by decide) (by kernel_rfl) (by kernel_rfl) (by kernel_rfl) (fun _ _ _ h => h) (Or.inl ⟨by rfl, _⟩) (by assumption) _
                rotate_left
                · (intro wS hSw; (try dsimp only at hSw); go_simp; try with_reducible rfl)
                try simp only [Act.put, nA, nB, nC]
                refine' wpAnyT_pure (i := 3) (oi := ⟨some 146, .fieldAddr 48 (.tmp 145) 1, 0, "free.go:196", #[⟨2, .data⟩], none⟩) rfl (by decide) (by kernel_rfl) (by kernel_rfl) (by kernel_rfl) (fun _ _ _ h => h) (Or.inl ⟨by rfl, _⟩) (by assumption) _
                rotate_left
                · (intro wS hSw; (try dsimp only at hSw); go_simp; try with_reducible rfl)
                try simp only [Act.put, nA, nB, nC]
                refine' wpAnyT_take (i := 4) (oi := ⟨some 147, .load 44 (.tmp 146), 44, "free.go:196", #[⟨3, .data⟩], none⟩) rfl (by kernel_rfl) (by kernel_rfl) (by kernel_rfl) (by kernel_rfl) (by kernel_rfl) (fun _ _ _ h => h) (Or.inl ⟨by rfl, _⟩) (by assumption) _
                rotate_left
                · (intro wS hSw; (try dsimp only at hSw); go_simp; try with_reducible rfl)
                try simp only [Act.put, nA, nB, nC]
                refine' wpAnyT_pure (i := 5) (oi := ⟨some 148, .move (.tmp 16), 3, "free.go:196", #[], none⟩) rfl (by decide) (by kernel_rfl) (by kernel_rfl) (by kernel_rfl) (fun _ _ _ h => h) (Or.inl ⟨by rfl, _⟩) (by assumption) _
                rotate_left
                · (intro wS hSw; (try dsimp only at hSw); go_simp; try with_reducible rfl)
                try simp only [Act.put, nA, nB, nC]
                refine' wpAnyT_take (i := 6) (oi := ⟨some 149, .load 28 (.tmp 8), 28, "free.go:196", #[], none⟩) rfl (by kernel_rfl) (by kernel_rfl) (by kernel_rfl) (by kernel_rfl) (by kernel_rfl) (fun _ _ _ h => h) (Or.inl ⟨by rfl, _⟩) (by assumption) _
                rotate_left
                · (intro wS hSw; (try dsimp only at hSw); go_simp; try with_reducible rfl)
                try simp only [Act.put, nA, nB, nC]
                refine' wpAnyT_pure (i := 7) (oi := ⟨some 150, .move (.tmp 17), 3, "free.go:196", #[], none⟩) rfl (by decide) (by kernel_rfl) (by kernel_rfl) (by kernel_rfl) (fun _ _ _ h => h) (Or.inl ⟨by rfl, _⟩) (by assumption) _
                rotate_left
                · (intro wS hSw; (try dsimp only at hSw); go_simp; try with_reducible rfl)
                try simp only [Act.put, nA, nB, nC]
                refine' wpAnyT_pure (i := 8) (oi := ⟨some 151, .move (.tmp 17), 3, "free.go:196", #[], none⟩) rfl (by decide) (by kernel_rfl) (by kernel_rfl) (by kernel_rfl) (fun _ _ _ h => h) (Or.inl ⟨by rfl, _⟩) (by assumption) _
                rotate_left
                · (intro wS hSw; (try dsimp only at hSw); go_simp; try with_reducible rfl)
                try simp only [Act.put, nA, nB, nC]
                refine' wpAnyT_pure (i := 9) (oi := ⟨some 152, .slice 28 (.tmp 149) none (some (.tmp 150)) (some (.tmp 151)), 28, "free.go:196", #[⟨6, .data⟩, ⟨7, .data⟩, ⟨8, .data⟩], none⟩) rfl (by decide) (by kernel_rfl) (by kernel_rfl) (by kernel_rfl) (fun _ _ _ h => h) (Or.inl ⟨by rfl, _⟩) (by assumption) _
                rotate_left
                · (intro wS hSw; (try dsimp only at hSw); go_simp; try with_reducible rfl)
                try simp only [Act.put, nA, nB, nC]
                refine wpAnyT_one (i := 10) (oi := ⟨some 153, .call ⟨.value (.func 76), #[.tmp 152], #[28]⟩, 28, "free.go:196", #[⟨9, .data⟩], none⟩) rfl (by kernel_rfl) (fun K hK => ?_)
                go_simp
                (refine (Clone_own _ ((xs0.drop (j * n)).take n) wr.drew HUR (by rw [List.length_take]; omega)).mono ?_; rintro e w2 ⟨v2, rfl, O2, B2⟩; have D2 := Lib.hid (D1.out.drew.low B2); obtain ⟨a6, c6, hv6, hy1, hy2, hy3⟩ := O2.shape; clear hy1 hy2 hy3; obtain ⟨n6, hn6⟩ : ∃ k, ((xs0.drop (j * n)).take n).length = k := ⟨_, rfl⟩; rw [hn6] at hv6; subst hv6; clear hn6)
                refine hK.out _ _ ?_ (fun hHeld => ?_)
                · exact ⟨heap_cell D2.out.ct 0, heap_cell D2.out.t 1, heap_cell D2.out.c1 0⟩
                clear hK K
                try simp only [Act.put, nA, nB, nC]
                have co := (D2.out.c.cell j hlt).2
                have cf := D2.out.c.free (j * 2 + 1)
                refine' wpAnyT_pure (i := 11) (oi := ⟨some 154, .indexAddr 44 (.tmp 147) (.tmp 148), 0, "free.go:196", #[⟨4, .data⟩, ⟨5, .data⟩, ⟨0, .phase⟩, ⟨1, .phase⟩, ⟨2, .phase⟩, ⟨3, .phase⟩, ⟨4, .phase⟩, ⟨5, .phase⟩, ⟨6, .phase⟩, ⟨7, .phase⟩, ⟨8, .phase⟩, ⟨9, .phase⟩, ⟨10, .phase⟩], none⟩) rfl (by decide) (by kernel_rfl) (by kernel_rfl) (by kernel_rfl) (fun _ _ _ h => h) (Or.inl ⟨by rfl, _⟩) (by assumption) _
                rotate_left
                · (intro wS hSw; (try dsimp only at hSw); go_simp; try with_reducible rfl)
                try simp only [Act.put, nA, nB, nC]
                refine' wpAnyT_pure (i := 12) (oi := ⟨some 155, .fieldAddr 64 (.tmp 154) 1, 0, "free.go:196", #[⟨11, .data⟩, ⟨0, .phase⟩, ⟨1, .phase⟩, ⟨2, .phase⟩, ⟨3, .phase⟩, ⟨4, .phase⟩, ⟨5, .phase⟩, ⟨6, .phase⟩, ⟨7, .phase⟩, ⟨8, .phase⟩, ⟨9, .phase⟩, ⟨10, .phase⟩], none⟩) rfl (by decide) (by kernel_rfl) (by kernel_rfl) (by kernel_rfl) (fun _ _ _ h => h) (Or.inl ⟨by rfl, _⟩) (by assumption) _
                rotate_left
                · (intro wS hSw; (try dsimp only at hSw); go_simp; try with_reducible rfl)
                try simp only [Act.put, nA, nB, nC]
                refine wpAnyT_last (oi := ⟨none, .store 28 (.tmp 155) (.tmp 153), 0, "free.go:196", #[⟨12, .data⟩, ⟨10, .data⟩, ⟨10, .chain⟩, ⟨0, .phase⟩, ⟨1, .phase⟩, ⟨2, .phase⟩, ⟨3, .phase⟩, ⟨4, .phase⟩, ⟨5, .phase⟩, ⟨6, .phase⟩, ⟨7, .phase⟩, ⟨8, .phase⟩, ⟨9, .phase⟩, ⟨10, .phase⟩], none⟩) rfl (by kernel_rfl) (by kernel_rfl) (fun K hK => ?_)
                go_simp
                refine hK.out _ _ ?_
                clear hK K
                try simp only [Act.put, nA, nB, nC]
                have hz := D1.out.size
                have D3 := Lib.hid (D2.out.dealt hlt (v' := .slice a6 n6 c6) (fun g hg => by have h1 : wr.heap.size ≤ g := (O2.lt g hg).1; omega) (O2.mono (by exact hz)) (fun g hg => by
                  have h1 : wr.heap.size ≤ g := (O2.lt g hg).1
                  refine ⟨fun e => ?_, fun e => ?_, fun e => ?_, fun e => ?_, fun i v hi hv e => ?_⟩
                  · have := (D1.out.c.lt gv rfl).2; omega
                  · have := (D1.out.o1.lt g e).2; omega
                  · have := heap_lt D1.out.c1; omega
                  · have := heap_lt D1.out.ct; omega
                  · have := ((D1.out.d i v hi hv).1.lt g e).2; omega))
                refine wpAnyT_done (by kernel_rfl) ?_ _
                obtain ⟨w3, hw3⟩ : ∃ W, w2.setCell ⟨gv, j * 2 + 1, none⟩ (.slice a6 n6 c6) = W := ⟨_, rfl⟩
                rw [hw3] at D3
                rw [hw3]
                clear hw3 D2 D1 cT t1 cL co cf O2 B2 HUR hHeld
                have cL := heap_cell D3.out.c1 (o := 0)
                have fL := heap_free D3.out.c1 0
                go_upto_region 29 with fail
                with_reducible refine wp_region_list ?_
                (with_reducible refine wpList_plain rfl ?_); intro K hK; go_simp; (with_reducible refine hK _ _ ?_); clear hK K; try simp only [Act.put, nA, nB, nC]
                (with_reducible refine wpList_plain rfl ?_); intro K hK; go_simp; (with_reducible refine hK _ _ ?_); clear hK K; try simp only [Act.put, nA, nB, nC]
                (with_reducible refine wpList_plain rfl ?_); intro K hK; go_simp; (with_reducible refine hK _ _ ?_); clear hK K; try simp only [Act.put, nA, nB, nC]
                (with_reducible refine wpList_plain rfl ?_); intro K hK; go_simp; (with_reducible refine hK _ _ ?_); clear hK K; try simp only [Act.put, nA, nB, nC]
                have D4 := Lib.hid (D3.out.cut (u2 := .slice (some ⟨g1, o6, none⟩) (n5 - k) (c5 - k)) (HCUT.out _ D3.out.o1) (fun g h => h))
                obtain ⟨w4, hw4⟩ : ∃ W, w3.setCell ⟨LC, 0, none⟩ (.slice (some ⟨g1, o6, none⟩) (n5 - k) (c5 - k)) = W := ⟨_, rfl⟩
                rw [hw4] at D4
                rw [hw4]
                clear hw4 D3 cL fL HCUT
                go_wp2_with fail
                exact ⟨⟨j + 1, _, _, by omega, by rw [List.length_set], D4, by go_num⟩, by simp [intOf]; omega⟩
        case true =>
          have hml : m < P := by have := more_lt (t := ⟨s, op, pg2, ls⟩) (by rw [HML.out, HQ.out]) hn1; rw [← HME.out]; exact this
          have HMO : Hid (moreL n P ⟨s, op, pg2, ls⟩ = true) := by show _ = _; rw [HML.out, HQ.out]
          cases hC : setL P s.C with
          | cons x rest =>
            have hxC : x ∈ setL P s.C := by rw [hC]; exact List.mem_cons_self ..
            have hxL : x ∈ setL P s.L := setL_mem.2 ⟨(setL_mem.1 hxC).1, (HS.out.2 x (setL_mem.1 hxC).2).1⟩
            have hxP : x < P := (setL_mem.1 hxC).1
            obtain ⟨i, hiL, hie, hic, hiD⟩ := setL_at hxL
            have hrest := setL_cons hC
            have hn2' : n2 = rest.length + 1 := by rw [← HN2.out, hC]; rfl
            obtain ⟨g2, o2, ha2⟩ := HG2.out (by rw [hC]; simp)
            obtain ⟨g1, o1, ha1⟩ := HG1.out (List.length_pos_of_mem hxL)
            subst ha1 ha2
            have hS2 : Hid (stepL left held most P chain ⟨s, op, pg2, ls⟩ = some ⟨dropS s x, op, pg2, ls ++ [x]⟩) := by
              show _ = _
              unfold stepL
              simp only [hC]
            have HF3 : Hid (listF left held most n P chain ⟨dropS s x, op, pg2, ls ++ [x]⟩ = r) := by
              have h1 := listF_step HMO.out hS2.out (by unfold muL; simp only [List.length_append, List.length_singleton]; rw [HME.out]; omega)
              exact h1.symm.trans HF2.out
            have cx := L11.out.v.o2.cellAt 0 (by rw [hC]; simp)
            rw [Nat.add_zero] at cx
            have hx0 : (setL P s.C)[0]'(by rw [hC]; simp) = x := by simp [hC]
            rw [hx0] at cx
            unfold uN at cx
            have cF := heap_cell L11.out.v.c2 (o := 0)
            have hne : ((n2 : Int) == 0) = false := by simp; omega
            have hgt : decide (0 < n2) = true := decide_eq_true (by omega)
            have hgt2 : decide (0 < (n2 : Int)) = true := decide_eq_true (by omega)
            have HREST := Lib.hid hrest
            have HC := Lib.hid hC
            have HID := Lib.hid hiD
            have HIC := Lib.hid hic
            have HIL : Hid (∃ hi : i < (setL P s.L).length, (setL P s.L)[i] = x) := ⟨hiL, hie⟩
            have HXC := Lib.hid hxC
            have HXL := Lib.hid hxL
            have HN2' := Lib.hid hn2'
            clear hrest hC hiD hic hx0 hS2 HF2 hie hiL hxC hxL hn2'
            go_upto_region 11 with fail
            go_quiet (fail)
            have L12 := Lib.hid (L11.out.drewN nq)
            obtain ⟨w12, hw12⟩ : ∃ W, w11.drewN nq = W := ⟨_, rfl⟩
            have cx2 : w12.cell? ⟨g2, o2, none⟩ = some (.int .u32 (x : Int)) := by rw [← hw12]; exact cx
            rw [hw12] at L12
            rw [hw12]
            clear hw12 L11 cx cF
            have cF := heap_cell L12.out.v.c2 (o := 0)
            obtain ⟨o5, ho5⟩ : ∃ o5, (if c2 = 1 then some (⟨g2, o2, none⟩ : Addr) else some ⟨g2, o2 + 1, none⟩) = some ⟨g2, o5, none⟩ := by
              by_cases h : c2 = 1
              · exact ⟨o2, by rw [if_pos h]⟩
              · exact ⟨o2 + 1, by rw [if_neg h]⟩
            have ot := L12.out.v.o2.tail 1 (by rw [HC.out]; simp)
            rw [ho5, HC.out, List.drop_one, List.tail_cons, HREST.out] at ot
            obtain ⟨_, cv2, hcv2, hle2, hle3, _⟩ := L12.out.v.o2.shape
            have hcv3 : c2 = cv2 := (Value.slice.inj hcv2).2.2
            have hcc : 1 ≤ c2 := by rw [HC.out] at hle2; simp at hle2; omega
            clear hcv2 hcv3
            have OT := Lib.hid ot
            clear ot hle2 hle3
            have hgt4 : (1 : Int) ≤ (n2 : Int) := by have := HN2'.out; omega
            have fF := heap_free L12.out.v.c2 0
            have hgt3 : 0 < n2 := by have := HN2'.out; omega
            go_upto_region 16 with fail
            refine wp_region_T (S := fun W => W.cell? ⟨N + 1, 0, none⟩ = some (.slice (some ⟨g2, o2, none⟩) n2 c2) ∧ W.cell? ⟨g2, o2, none⟩ = some (.int .u32 (x : Int))) 6 (by kernel_rfl) ⟨cF, cx2⟩ (fun hHeld => ?_)
            refine' wpAnyT_take (i := 0) (oi := ⟨some 94, .load 28 (.tmp 7), 28, "free.go:182", #[], none⟩) rfl (by kernel_rfl) (by kernel_rfl) (by kernel_rfl) (by kernel_rfl) (by kernel_rfl) (fun _ _ _ h => h) (Or.inl ⟨by rfl, _⟩) (by assumption) _
            rotate_left
            · (intro wS hSw; (try dsimp only at hSw); go_simp; try with_reducible rfl)
            try simp only [Act.put, nA, nB, nC]
            refine' wpAnyT_pure (i := 1) (oi := ⟨some 95, .indexAddr 28 (.tmp 94) (.const (.int .i64 0)), 0, "free.go:182", #[⟨0, .data⟩], none⟩) rfl (by decide) (by kernel_rfl) (by kernel_rfl) (by kernel_rfl) (fun _ _ _ h => h) (Or.inl ⟨by rfl, _⟩) (by assumption) _
            rotate_left
            · (intro wS hSw; (try dsimp only at hSw); go_simp; try with_reducible rfl)
            try simp only [Act.put, nA, nB, nC]
            refine' wpAnyT_take (i := 2) (oi := ⟨some 96, .load 27 (.tmp 95), 27, "free.go:182", #[⟨1, .data⟩], none⟩) rfl (by kernel_rfl) (by kernel_rfl) (by kernel_rfl) (by kernel_rfl) (by kernel_rfl) (fun _ _ _ h => h) (Or.inl ⟨by rfl, _⟩) (by assumption) _
            rotate_left
            · (intro wS hSw; (try dsimp only at hSw); go_simp; try with_reducible rfl)
            try simp only [Act.put, nA, nB, nC]
            refine' wpAnyT_take (i := 3) (oi := ⟨some 97, .load 28 (.tmp 7), 28, "free.go:182", #[], none⟩) rfl (by kernel_rfl) (by kernel_rfl) (by kernel_rfl) (by kernel_rfl) (by kernel_rfl) (fun _ _ _ h => h) (Or.inl ⟨by rfl, _⟩) (by assumption) _
            rotate_left
            · (intro wS hSw; (try dsimp only at hSw); go_simp; try with_reducible rfl)
            try simp only [Act.put, nA, nB, nC]
            refine' wpAnyT_pure (i := 4) (oi := ⟨some 98, .slice 28 (.tmp 97) (some (.const (.int .i64 1))) none none, 28, "free.go:182", #[⟨3, .data⟩], none⟩) rfl (by decide) (by kernel_rfl) (by kernel_rfl) (by kernel_rfl) (fun _ _ _ h => h) (Or.inl ⟨by rfl, _⟩) (by assumption) _
            rotate_left
            · (intro wS hSw; (try dsimp only at hSw); go_simp; try with_reducible rfl)
            try simp only [Act.put, nA, nB, nC]
            refine' wpAnyT_pure (i := 5) (oi := { dst := Option.some 12, op := Op.assign (Operand.tmp 96), type := 27, pos := "free.go:182", after := #[{ on := 2, ground := Ground.data }, { on := 0, ground := Ground.phase }, { on := 1, ground := Ground.phase }, { on := 2, ground := Ground.phase }, { on := 3, ground := Ground.textOnly Departure.lateStores }, { on := 4, ground := Ground.textOnly Departure.lateStoresUnsure }], guard := Option.none }) rfl (by decide) (by kernel_rfl) (by kernel_rfl) (by kernel_rfl) (fun _ _ _ h => h) (Or.inl ⟨by rfl, _⟩) (by assumption) _
            rotate_left
            · (intro wS hSw; (try dsimp only at hSw); go_simp; try with_reducible rfl)
            try simp only [Act.put, nA, nB, nC]
            refine wpAnyT_last (oi := ⟨none, .store 28 (.tmp 7) (.tmp 98), 0, "free.go:182", #[⟨4, .data⟩, ⟨5, .chain⟩, ⟨0, .phase⟩, ⟨1, .phase⟩, ⟨2, .phase⟩, ⟨3, .phase⟩, ⟨4, .phase⟩, ⟨5, .phase⟩], none⟩) rfl (by kernel_rfl) (by kernel_rfl) (fun K hK => ?_)
            go_simp
            refine hK.out _ _ ?_
            clear hK K
            try simp only [Act.put, nA, nB, nC]
            refine wpAnyT_done (by kernel_rfl) ?_ _
            obtain ⟨V13, M13⟩ := L12.out.v.put2 (v3 := .slice (some ⟨g2, o5, none⟩) (n2 - 1) (c2 - 1)) OT.out (Mod.refl _ _) (fun g h => .inl h)
            have L13 := Lib.hid (L12.out.turn (s2 := ⟨s.L, (dropS s x).C⟩) (M13.mono (fun k _ e => e.elim (fun e => .inr (.inl e)) (fun e => .inr (.inr (.inr e))))) V13 (From.refl _ _) (fun g h => .inl h)).drew
            obtain ⟨w13, hw13⟩ : ∃ W, (w12.setCell ⟨N + 1, 0, none⟩ (.slice (some ⟨g2, o5, none⟩) (n2 - 1) (c2 - 1))).drew = W := ⟨_, rfl⟩
            rw [hw13] at L13
            rw [hw13]
            clear hw13 V13 M13 OT cF cx2 fF hHeld hgt hgt2 hgt3 hgt4 hne ho5 hcc L12
            have cL := heap_cell L13.out.v.c1 (o := 0)
            have hi1 : i < n1 := by obtain ⟨h, _⟩ := HIL.out; rw [← HN1.out]; exact h
            go_upto_region 17 with fail
            with_reducible refine wp_region_list ?_
            (with_reducible refine wpList_plain rfl ?_); intro K hK; go_simp; (with_reducible refine hK _ _ ?_); clear hK K; try simp only [Act.put, nA, nB, nC]
            (with_reducible refine wpList_plain rfl ?_); intro K hK; go_simp; (with_reducible refine hK _ _ ?_); clear hK K; try simp only [Act.put, nA, nB, nC]
            with_reducible refine wpList_plain rfl ?_
            intro K hK
            go_simp
            refine (Search_own w13 N g1 o1 n1 c1 x _ L13.out.v.o1 (by omega) (setL_lt _ _)).mono ?_; rintro e w14 ⟨rfl, q14, hw14⟩; rw [HIC.out]
            first | with_reducible refine hK _ _ ?_ | refine hK _ _ ?_
            clear hK K
            (try simp only [Act.put, nA, nB, nC])
            have L14 : Hid (LI w N LC (N + 1) N T hb lb most tv (.slice cad chain.length ccap) P (.slice (some ⟨g1, o1, none⟩) n1 c1) (.slice (some ⟨g2, o5, none⟩) (n2 - 1) (c2 - 1)) (.slice a3 m c3) ⟨s.L, (dropS s x).C⟩ op pg2 bs w14) := by rw [hw14]; exact L13.out.drewN q14
            clear hw14 cL L13
            (with_reducible refine wpList_plain rfl ?_); intro K hK; go_simp; (with_reducible refine hK _ _ ?_); clear hK K; try simp only [Act.put, nA, nB, nC]
            (with_reducible refine wpList_plain rfl ?_); intro K hK; go_simp; (with_reducible refine hK _ _ ?_); clear hK K; try simp only [Act.put, nA, nB, nC]
            (with_reducible refine wpList_plain rfl ?_); intro K hK; go_simp; (with_reducible refine hK _ _ ?_); clear hK K; try simp only [Act.put, nA, nB, nC]
            have cL := heap_cell L14.out.v.c1 (o := 0)
            have fL := heap_free L14.out.v.c1 0
            obtain ⟨i2, hi2⟩ : ∃ i2 : Nat, i2 = i + 1 := ⟨_, rfl⟩
            have ew1 : (i : Int) + 1 = (i2 : Int) := by omega
            have ew2 : IntKind.i64.wrap (i2 : Int) = (i2 : Int) := IntWalk.i64_in _ (by omega)
            have hDel := Delete_own w14 N g1 o1 n1 c1 i _ L14.out.v.o1 (by rw [HN1.out]; exact hi1)
            rw [ew1] at hDel
            have HDel := Lib.hid hDel
            clear hi2 hDel
            go_upto_region 18 with fail
            with_reducible refine wp_region_list ?_
            (with_reducible refine wpList_plain rfl ?_); intro K hK; go_simp; (with_reducible refine hK _ _ ?_); clear hK K; try simp only [Act.put, nA, nB, nC]
            (with_reducible refine wpList_plain rfl ?_); intro K hK; go_simp; (with_reducible refine hK _ _ ?_); clear hK K; try simp only [Act.put, nA, nB, nC]
            (with_reducible refine wpList_plain rfl ?_); intro K hK; go_simp; (with_reducible refine hK _ _ ?_); clear hK K; try simp only [Act.put, nA, nB, nC]
            (with_reducible refine wpList_plain rfl ?_); intro K hK; go_simp; (with_reducible refine hK _ _ ?_); clear hK K; try simp only [Act.put, nA, nB, nC]
            with_reducible refine wpList_plain rfl ?_
            intro K hK
            go_simp
            refine HDel.out.mono ?_; rintro e w15 ⟨rfl, O15, M15⟩; rw [HID.out] at O15
            first | with_reducible refine hK _ _ ?_ | refine hK _ _ ?_
            clear hK K
            (try simp only [Act.put, nA, nB, nC])
            have M15' : Mod (fun k => (Value.slice (some ⟨g1, o1, none⟩) n1 c1).ownBlock = some k) w14 w15 := M15.mono (fun k _ e => by rw [e]; rfl)
            obtain ⟨V16, M16⟩ := L14.out.v.put1 O15 M15' (fun g h => .inl h)
            have L16 := Lib.hid (L14.out.turn (s2 := dropS s x) (M16.mono (fun k _ e => e.elim (fun e => .inl e) (fun e => .inr (.inr (.inl e))))) V16 (fun g h => .inl h) (From.refl _ _))
            have cL2 := heap_cell (M15'.heap L14.out.v.c1 (fun e => (L14.out.v.a1 LC e).1 rfl)) 0
            have fL2 := heap_free (M15'.heap L14.out.v.c1 (fun e => (L14.out.v.a1 LC e).1 rfl)) 0
            clear ew1 ew2 HDel
            (with_reducible refine wpList_plain rfl ?_); intro K hK; go_simp; (with_reducible refine hK _ _ ?_); clear hK K; try simp only [Act.put, nA, nB, nC]
            obtain ⟨w16, hw16⟩ : ∃ W, w15.setCell ⟨LC, 0, none⟩ (.slice (some ⟨g1, o1, none⟩) (n1 - 1) c1) = W := ⟨_, rfl⟩
            rw [hw16] at L16
            rw [hw16]
            clear hw16 V16 M16 M15 M15' O15 cL cL2 fL fL2 L14
            have hbs : bs.length ≤ 1000000 := by rw [HBL.out]; omega
            go_upto_region 23 with fail
            refine wp_region_T (S := fun W => W.cell? ⟨N, 0, none⟩ = some (.pointer (some ⟨T, 0, none⟩)) ∧ W.cell? ⟨T, 1, none⟩ = some (.slice a3 m c3)) 13 (by kernel_rfl) ⟨heap_cell L16.out.drew.v.ct 0, heap_cell L16.out.drew.t 1⟩ (fun hHeld => ?_)
            refine' wpAnyT_take (i := 0) (oi := ⟨some 117, .load 126 (.tmp 3), 126, "free.go:192", #[], none⟩) rfl (by kernel_rfl) (by kernel_rfl) (by kernel_rfl) (by kernel_rfl) (by kernel_rfl) (fun _ _ _ h => h) (Or.inl ⟨by rfl, _⟩) (by assumption) _
            rotate_left
            · (intro wS hSw; (try dsimp only at hSw); go_simp; try with_reducible rfl)
            try simp only [Act.put, nA, nB, nC]
            refine' wpAnyT_take (i := 1) (oi := ⟨some 118, .load 126 (.tmp 3), 126, "free.go:192", #[], none⟩) rfl (by kernel_rfl) (by kernel_rfl) (by kernel_rfl) (by kernel_rfl) (by kernel_rfl) (fun _ _ _ h => h) (Or.inl ⟨by rfl, _⟩) (by assumption) _
            rotate_left
            · (intro wS hSw; (try dsimp only at hSw); go_simp; try with_reducible rfl)
            try simp only [Act.put, nA, nB, nC]
            refine' wpAnyT_pure (i := 2) (oi := ⟨some 119, .nilCheck (.tmp 118), 0, "free.go:192", #[⟨1, .data⟩], none⟩) rfl (by decide) (by kernel_rfl) (by kernel_rfl) (by kernel_rfl) (fun _ _ _ h => h) (Or.inl ⟨by rfl, _⟩) (by assumption) _
            rotate_left
            · (intro wS hSw; (try dsimp only at hSw); go_simp; try with_reducible rfl)
            try simp only [Act.put, nA, nB, nC]
            refine' wpAnyT_pure (i := 3) (oi := ⟨some 120, .fieldAddr 128 (.tmp 119) 0, 0, "free.go:192", #[⟨2, .data⟩], none⟩) rfl (by decide) (by kernel_rfl) (by kernel_rfl) (by kernel_rfl) (fun _ _ _ h => h) (Or.inl ⟨by rfl, _⟩) (by assumption) _
            rotate_left
            · (intro wS hSw; (try dsimp only at hSw); go_simp; try with_reducible rfl)
            try simp only [Act.put, nA, nB, nC]
            refine' wpAnyT_pure (i := 4) (oi := ⟨some 121, .fieldAddr 48 (.tmp 120) 1, 0, "free.go:192", #[⟨3, .data⟩], none⟩) rfl (by decide) (by kernel_rfl) (by kernel_rfl) (by kernel_rfl) (fun _ _ _ h => h) (Or.inl ⟨by rfl, _⟩) (by assumption) _
            rotate_left
            · (intro wS hSw; (try dsimp only at hSw); go_simp; try with_reducible rfl)
            try simp only [Act.put, nA, nB, nC]
            refine' wpAnyT_take (i := 5) (oi := ⟨some 122, .load 44 (.tmp 121), 44, "free.go:192", #[⟨4, .data⟩], none⟩) rfl (by kernel_rfl) (by kernel_rfl) (by kernel_rfl) (by kernel_rfl) (by kernel_rfl) (fun _ _ _ h => h) (Or.inl ⟨by rfl, _⟩) (by assumption) _
            rotate_left
            · (intro wS hSw; (try dsimp only at hSw); go_simp; try with_reducible rfl)
            try simp only [Act.put, nA, nB, nC]
            refine' wpAnyT_pure (i := 6) (oi := ⟨some 123, .move (.tmp 12), 27, "free.go:192", #[], none⟩) rfl (by decide) (by kernel_rfl) (by kernel_rfl) (by kernel_rfl) (fun _ _ _ h => h) (Or.inl ⟨by rfl, _⟩) (by assumption) _
            rotate_left
            · (intro wS hSw; (try dsimp only at hSw); go_simp; try with_reducible rfl)
            try simp only [Act.put, nA, nB, nC]
            refine' wpAnyT_pure (i := 7) (oi := ⟨some 124, .build 64 #[(0, .tmp 123)], 64, "free.go:192", #[⟨6, .data⟩], none⟩) rfl (by decide) (by kernel_rfl) (by kernel_rfl) (by kernel_rfl) (fun _ _ _ h => h) (Or.inl ⟨by rfl, _⟩) (by assumption) _
            rotate_left
            · (intro wS hSw; (try dsimp only at hSw); go_simp; try with_reducible rfl)
            try simp only [Act.put, nA, nB, nC]
            refine wpAnyT_one (i := 8) (oi := ⟨some 125, .buildSlice 44 1 #[(0, .tmp 124)], 44, "free.go:192", #[⟨7, .data⟩], none⟩) rfl (by kernel_rfl) (fun K hK => ?_)
            go_simp
            skip
            refine hK.out _ _ ?_ (fun hHeld => ?_)
            · exact ⟨heap_cell (L16.out.drew.low ((Below.refl _ _).alloc (Nat.le_refl _) _)).v.ct 0, heap_cell (L16.out.drew.low ((Below.refl _ _).alloc (Nat.le_refl _) _)).t 1⟩
            clear hK K
            try simp only [Act.put, nA, nB, nC]
            obtain ⟨wa17, hwa17⟩ : ∃ W, (w16.alloc (.cells #[.int .u32 (x : Int), .slice none 0 0] 64)).drew = W := ⟨_, rfl⟩
            have La17 : Hid (LI w N LC (N + 1) N T hb lb most tv (.slice cad chain.length ccap) P (.slice (some ⟨g1, o1, none⟩) (n1 - 1) c1) (.slice (some ⟨g2, o5, none⟩) (n2 - 1) (c2 - 1)) (.slice a3 m c3) (dropS s x) op pg2 bs wa17) := by rw [← hwa17]; exact (L16.out.low ((Below.refl _ _).alloc (Nat.le_refl _) _)).drew
            have ha17 : wa17.heap[w16.heap.size]? = some (.cells (bpair (x, .slice none 0 0)).toArray 64 (0, 0)) := by rw [← hwa17]; exact heap_alloc_new w16 _
            rw [hwa17]
            refine wpAnyT_one (i := 9) (oi := ⟨some 126, .call ⟨.builtin .append, #[.tmp 122, .tmp 125], #[44, 44]⟩, 44, "free.go:192", #[⟨5, .data⟩, ⟨8, .data⟩], none⟩) rfl (by kernel_rfl) (fun K hK => ?_)
            refine step_of rfl (wp_appC wa17 (x, .slice none 0 0) rfl _ _ rfl N (.slice a3 m c3) bs rfl La17.out.c w16.heap.size 1 rfl ha17 (by omega) La17.out.size ?_); intro v17 wb17 O17 M17 F17; obtain ⟨ad17, cp17, hv17, hy1, hy2, hy3⟩ := O17.shape; clear hy1 hy2 hy3; rw [List.length_append, List.length_singleton] at hv17; subst hv17; have tc17 := heap_cell (M17.heap La17.out.v.ct (fun e => (La17.out.a N e).2.2.1 rfl)) 0; have t117 := heap_cell (M17.heap La17.out.t (fun e => by have := (La17.out.c.lt T e).1; omega)) 1; have ff17 := heap_free (M17.heap La17.out.t (fun e => by have := (La17.out.c.lt T e).1; omega)) 1
            refine hK.out _ _ ?_ (fun hHeld => ?_)
            · exact ⟨tc17, t117⟩
            clear hK K
            try simp only [Act.put, nA, nB, nC]
            refine' wpAnyT_pure (i := 10) (oi := ⟨some 127, .nilCheck (.tmp 117), 0, "free.go:192", #[⟨0, .data⟩, ⟨0, .phase⟩, ⟨1, .phase⟩, ⟨2, .phase⟩, ⟨3, .phase⟩, ⟨4, .phase⟩, ⟨5, .phase⟩, ⟨6, .phase⟩, ⟨7, .phase⟩, ⟨8, .phase⟩, ⟨9, .phase⟩], none⟩) rfl (by decide) (by kernel_rfl) (by kernel_rfl) (by kernel_rfl) (fun _ _ _ h => h) (Or.inl ⟨by rfl, _⟩) (by assumption) _
            rotate_left
            · (intro wS hSw; (try dsimp only at hSw); go_simp; try with_reducible rfl)
            try simp only [Act.put, nA, nB, nC]
            refine' wpAnyT_pure (i := 11) (oi := ⟨some 128, .fieldAddr 128 (.tmp 127) 0, 0, "free.go:192", #[⟨10, .data⟩, ⟨0, .phase⟩, ⟨1, .phase⟩, ⟨2, .phase⟩, ⟨3, .phase⟩, ⟨4, .phase⟩, ⟨5, .phase⟩, ⟨6, .phase⟩, ⟨7, .phase⟩, ⟨8, .phase⟩, ⟨9, .phase⟩], none⟩) rfl (by decide) (by kernel_rfl) (by kernel_rfl) (by kernel_rfl) (fun _ _ _ h => h) (Or.inl ⟨by rfl, _⟩) (by assumption) _
            rotate_left
            · (intro wS hSw; (try dsimp only at hSw); go_simp; try with_reducible rfl)
            try simp only [Act.put, nA, nB, nC]
            refine' wpAnyT_pure (i := 12) (oi := ⟨some 129, .fieldAddr 48 (.tmp 128) 1, 0, "free.go:192", #[⟨11, .data⟩, ⟨0, .phase⟩, ⟨1, .phase⟩, ⟨2, .phase⟩, ⟨3, .phase⟩, ⟨4, .phase⟩, ⟨5, .phase⟩, ⟨6, .phase⟩, ⟨7, .phase⟩, ⟨8, .phase⟩, ⟨9, .phase⟩], none⟩) rfl (by decide) (by kernel_rfl) (by kernel_rfl) (by kernel_rfl) (fun _ _ _ h => h) (Or.inl ⟨by rfl, _⟩) (by assumption) _
            rotate_left
            · (intro wS hSw; (try dsimp only at hSw); go_simp; try with_reducible rfl)
            try simp only [Act.put, nA, nB, nC]
            refine wpAnyT_last (oi := ⟨none, .store 44 (.tmp 129) (.tmp 126), 0, "free.go:192", #[⟨12, .data⟩, ⟨9, .data⟩, ⟨9, .chain⟩, ⟨0, .phase⟩, ⟨1, .phase⟩, ⟨2, .phase⟩, ⟨3, .phase⟩, ⟨4, .phase⟩, ⟨5, .phase⟩, ⟨6, .phase⟩, ⟨7, .phase⟩, ⟨8, .phase⟩, ⟨9, .phase⟩], none⟩) rfl (by kernel_rfl) (by kernel_rfl) (fun K hK => ?_)
            go_simp
            refine hK.out _ _ ?_
            clear hK K
            try simp only [Act.put, nA, nB, nC]
            have L17 := Lib.hid (La17.out.put O17 M17 F17)
            refine wpAnyT_done (by kernel_rfl) ?_ _
            obtain ⟨wc17, hwc17⟩ : ∃ W, wb17.setCell ⟨T, 1, none⟩ (.slice ad17 (bs.length + 1) cp17) = W := ⟨_, rfl⟩
            rw [hwc17] at L17
            rw [hwc17]
            clear hwc17 hwa17 ha17 La17 O17 M17 F17 tc17 t117 ff17 hHeld
            have HB17 : Hid (bs ++ [(x, Value.slice none 0 0)] = (ls ++ [x]).map fun p => (p, Value.slice none 0 0)) := by
              show _ = _
              rw [List.map_append, HB.out]
              rfl
            go_wp2_with fail
            go_roundg (muL P chain ⟨dropS s x, op, pg2, ls ++ [x]⟩)
            case measure =>
              have h1 := HME.out
              unfold muL at hmu ⊢
              simp only [List.length_append, List.length_singleton] at hmu ⊢
              omega
            case rel => exact ⟨⟨dropS s x, op, pg2, ls ++ [x]⟩, _, _, _, _, Nat.le_refl _, HF3, ho2, by simp only [List.length_append, List.length_singleton]; rw [HME.out]; omega, HS.out.drop x, hp2, HB17, L17⟩
          | nil =>
            have hn2' : n2 = 0 := by rw [← HN2.out, hC]; rfl
            have HC := Lib.hid hC
            clear hC
            subst hn2'
            have cF := heap_cell L11.out.v.c2 (o := 0)
            have cT := heap_cell L11.out.v.ct (o := 0)
            have c7 := heap_cell L11.out.t (o := 7)
            have c2 := heap_cell L11.out.t (o := 2)
            by_cases hop3 : op < chain.length
            case pos =>
              have iop3 : (op : Int) < (chain.length : Int) := by omega
              have iop4 : decide ((op : Int) < (chain.length : Int)) = true := decide_eq_true iop3
              have iop5 : decide (op < chain.length) = true := decide_eq_true hop3
              have hS2 : stepL left held most P chain ⟨s, op, pg2, ls⟩ = some ⟨openB left held s chain[op], op + 1, pg2, ls⟩ := by
                unfold stepL
                simp only [HC.out, List.getElem?_eq_getElem hop3]
              have HF3 : Hid (listF left held most n P chain ⟨openB left held s chain[op], op + 1, pg2, ls⟩ = r) := (listF_step HMO.out hS2 (by unfold muL; simp only; omega)).symm.trans HF2.out
              clear hS2
              go_upto_region 11 with fail
              go_quiet (fail)
              have L12 := Lib.hid (L11.out.drewN nq).drew
              have L12b := Lib.hid (L11.out.drewN nq)
              obtain ⟨w12, hw12⟩ : ∃ W, w11.drewN nq = W := ⟨_, rfl⟩
              rw [hw12] at L12 L12b
              rw [hw12]
              clear hw12 L11 cF cT c7 c2 iop4 iop5
              obtain ⟨cb, co, nad, nc, hca, hr, hu, hcb, hnb, hpg0⟩ := chain_at hrow.out (HCN.out w12 L12b.out.m) hop3
              have hxl := hg.out.len hop3
              have hoL := open_L hg.out HS.out left held hop3
              have hoC := open_C hg.out HS.out left held hop3
              have HS2 : Hid (SInv chain rel (op + 1) (openB left held s chain[op])) := SInv.open (P := P) HS.out left held hop3
              obtain ⟨⟨pg0, xs⟩, hcx⟩ : ∃ c, chain[op] = c := ⟨_, rfl⟩
              rw [hcx] at hr hu hxl hoL hoC hpg0 hnb HF3 HS2
              simp only at hr hu hxl hoL hoC hpg0 hnb
              subst hca
              have HR := Lib.hid hr
              have HU := Lib.hid hu
              have HOL := Lib.hid hoL
              have HOC := Lib.hid hoC
              have HNB := Lib.hid hnb
              clear hr hu hcx hoL hoC hnb
              have HH9 : Hid (SetM w12.drew hb nh held) := hh.out.mod L12.out.m (by omega)
              have HL9 : Hid (SetM w12.drew lb nl left) := hl.out.mod L12.out.m (by omega)
              have HU9 : Hid (URow w12.drew (.slice nad xs.length nc) xs) := HU.out
              go_upto_region 12 with fail
              refine wp_region_held_drew (S := fun W => W.cell? ⟨N, 0, none⟩ = some (.pointer (some ⟨T, 0, none⟩)) ∧ W.cell? ⟨T, 7, none⟩ = some (.slice (some ⟨cb, co, none⟩) chain.length ccap) ∧ W.cell? ⟨T, 2, none⟩ = some (.int .i64 (op : Int)) ∧ W.rangeAt cb (co + op * 2) [uN pg0, .slice nad xs.length nc]) (by kernel_rfl) ⟨heap_cell L12.out.v.ct 0, heap_cell L12.out.t 7, heap_cell L12.out.t 2, HR.out⟩ (fun hHeld => ?_)
              refine' wpAnyH_take (i := 0) (oi := ⟨some 69, .move (.tmp 9), 154, "free.go:176", #[], none⟩) rfl (by kernel_rfl) (by kernel_rfl) (by kernel_rfl) (fun _ _ _ h => h) (Or.inl ⟨by rfl, _⟩) (by assumption) _
              rotate_left
              · (intro wS hSw; (try dsimp only at hSw); go_simp; try with_reducible rfl)
              try simp only [Act.put, nA, nB, nC]
              refine' wpAnyH_take (i := 1) (oi := ⟨some 70, .load 126 (.tmp 3), 126, "free.go:176", #[], none⟩) rfl (by kernel_rfl) (by kernel_rfl) (by kernel_rfl) (fun _ _ _ h => h) (Or.inl ⟨by rfl, _⟩) (by assumption) _
              rotate_left
              · (intro wS hSw; (try dsimp only at hSw); go_simp; try with_reducible rfl)
              try simp only [Act.put, nA, nB, nC]
              refine' wpAnyH_take (i := 2) (oi := ⟨some 71, .nilCheck (.tmp 70), 0, "free.go:176", #[⟨1, .data⟩], none⟩) rfl (by kernel_rfl) (by kernel_rfl) (by kernel_rfl) (fun _ _ _ h => h) (Or.inl ⟨by rfl, _⟩) (by assumption) _
              rotate_left
              · (intro wS hSw; (try dsimp only at hSw); go_simp; try with_reducible rfl)
              try simp only [Act.put, nA, nB, nC]
              refine' wpAnyH_take (i := 3) (oi := ⟨some 72, .fieldAddr 128 (.tmp 71) 4, 0, "free.go:176", #[⟨2, .data⟩], none⟩) rfl (by kernel_rfl) (by kernel_rfl) (by kernel_rfl) (fun _ _ _ h => h) (Or.inl ⟨by rfl, _⟩) (by assumption) _
              rotate_left
              · (intro wS hSw; (try dsimp only at hSw); go_simp; try with_reducible rfl)
              try simp only [Act.put, nA, nB, nC]
              refine' wpAnyH_take (i := 4) (oi := ⟨some 73, .load 44 (.tmp 72), 44, "free.go:176", #[⟨3, .data⟩], none⟩) rfl (by kernel_rfl) (by kernel_rfl) (by kernel_rfl) (fun _ _ _ h => h) (Or.inl ⟨by rfl, _⟩) (by assumption) _
              rotate_left
              · (intro wS hSw; (try dsimp only at hSw); go_simp; try with_reducible rfl)
              try simp only [Act.put, nA, nB, nC]
              refine' wpAnyH_take (i := 5) (oi := ⟨some 74, .load 126 (.tmp 3), 126, "free.go:176", #[], none⟩) rfl (by kernel_rfl) (by kernel_rfl) (by kernel_rfl) (fun _ _ _ h => h) (Or.inl ⟨by rfl, _⟩) (by assumption) _
              rotate_left
              · (intro wS hSw; (try dsimp only at hSw); go_simp; try with_reducible rfl)
              try simp only [Act.put, nA, nB, nC]
              refine' wpAnyH_take (i := 6) (oi := ⟨some 75, .nilCheck (.tmp 74), 0, "free.go:176", #[⟨5, .data⟩], none⟩) rfl (by kernel_rfl) (by kernel_rfl) (by kernel_rfl) (fun _ _ _ h => h) (Or.inl ⟨by rfl, _⟩) (by assumption) _
              rotate_left
              · (intro wS hSw; (try dsimp only at hSw); go_simp; try with_reducible rfl)
              try simp only [Act.put, nA, nB, nC]
              refine' wpAnyH_take (i := 7) (oi := ⟨some 76, .fieldAddr 128 (.tmp 75) 0, 0, "free.go:176", #[⟨6, .data⟩], none⟩) rfl (by kernel_rfl) (by kernel_rfl) (by kernel_rfl) (fun _ _ _ h => h) (Or.inl ⟨by rfl, _⟩) (by assumption) _
              rotate_left
              · (intro wS hSw; (try dsimp only at hSw); go_simp; try with_reducible rfl)
              try simp only [Act.put, nA, nB, nC]
              refine' wpAnyH_take (i := 8) (oi := ⟨some 77, .fieldAddr 48 (.tmp 76) 2, 0, "free.go:176", #[⟨7, .data⟩], none⟩) rfl (by kernel_rfl) (by kernel_rfl) (by kernel_rfl) (fun _ _ _ h => h) (Or.inl ⟨by rfl, _⟩) (by assumption) _
              rotate_left
              · (intro wS hSw; (try dsimp only at hSw); go_simp; try with_reducible rfl)
              try simp only [Act.put, nA, nB, nC]
              refine' wpAnyH_take (i := 9) (oi := ⟨some 78, .load 3 (.tmp 77), 3, "free.go:176", #[⟨8, .data⟩], none⟩) rfl (by kernel_rfl) (by kernel_rfl) (by kernel_rfl) (fun _ _ _ h => h) (Or.inl ⟨by rfl, _⟩) (by assumption) _
              rotate_left
              · (intro wS hSw; (try dsimp only at hSw); go_simp; try with_reducible rfl)
              try simp only [Act.put, nA, nB, nC]
              refine' wpAnyH_take (i := 10) (oi := ⟨some 79, .indexAddr 44 (.tmp 73) (.tmp 78), 0, "free.go:176", #[⟨4, .data⟩, ⟨9, .data⟩], none⟩) rfl (by kernel_rfl) (by kernel_rfl) (by kernel_rfl) (fun _ _ _ h => h) (Or.inl ⟨by rfl, _⟩) (by assumption) _
              rotate_left
              · (intro wS hSw; (try dsimp only at hSw); go_simp; try with_reducible rfl)
              try simp only [Act.put, nA, nB, nC]
              refine' wpAnyH_take (i := 11) (oi := ⟨some 80, .load 64 (.tmp 79), 64, "free.go:176", #[⟨10, .data⟩], none⟩) rfl (by kernel_rfl) (by kernel_rfl) (by kernel_rfl) (fun _ _ _ h => h) (yieldsIf_load_mid (by rfl) 64 _ rfl cb (co + op * 2) rfl [uN pg0, .slice nad xs.length nc] _ (fun W hW => hW.2.2.2) Try.underlying64 rfl info_B) (by assumption) _
              try simp only [Act.put, nA, nB, nC]
              refine wpAnyH_ready (rs := [12]) (by kernel_rfl) (by simp) ?_
              refine AllReadyH.cons (o := ⟨some 81, .call ⟨.value (.tmp 69), #[.tmp 80], #[64]⟩, 0, "free.go:176", #[⟨0, .data⟩, ⟨11, .data⟩], none⟩) rfl (fun K hK => ?_) AllReadyH.nil
              go_simp
              (go_at_call 89; refine (open_any LC (N + 1) N T N hb lb op pg2 most nh nl pg0 tv _ _ _ _ _ held left xs _ _ w12.drew (Lib.hid L12.out.v) (Lib.hid L12.out.t) HH9 HL9 HU9 hpg0 L12.out.size (L12.out.ls T hTN) (L12.out.ls hb hhN) (L12.out.ls lb hlN) (fun hp k hk => L12.out.ls k (by have := HNB.out hp k hk; omega)) (by have := setL_le P s.L; omega) (by have := setL_le P s.C; omega) (by omega)).mono ?_; rintro e w13 ⟨rfl, m13, u3, u4, v13, f3, f4⟩; rw [HOL.out, HOC.out] at v13; have L13 := Lib.hid (L12.out.turn m13 v13 f3 f4))
              refine hK.out _ _ ?_ (fun hHeld => ?_)
              · exact ⟨heap_cell L13.out.v.ct 0, heap_cell L13.out.t 7, heap_cell L13.out.t 2, range_block HR.out (m13.block cb (by have := L12.out.size; omega) (L12.out.ls cb (by omega)))⟩
              clear hK K
              try simp only [Act.put, nA, nB, nC]
              refine wpAnyH_done (by kernel_rfl) ?_ _
              clear m13 v13 f3 f4 hHeld L12 L12b HR HU HU9 HH9 HL9
              have cT := heap_cell L13.out.v.ct (o := 0)
              have c2 := heap_cell L13.out.t (o := 2)
              have f2 := heap_free L13.out.t 2
              obtain ⟨j2, hj2⟩ : ∃ j2 : Nat, j2 = op + 1 := ⟨_, rfl⟩
              have ew1 : (op : Int) + 1 = (j2 : Int) := by omega
              have ew2 : IntKind.i64.wrap (j2 : Int) = (j2 : Int) := IntWalk.i64_in _ (by omega)
              have HJ2 := Lib.hid hj2
              clear hj2
              go_upto_region 13 with fail
              with_reducible refine wp_region_list ?_
              (with_reducible refine wpList_plain rfl ?_); intro K hK; go_simp; (with_reducible refine hK _ _ ?_); clear hK K; try simp only [Act.put, nA, nB, nC]
              (with_reducible refine wpList_plain rfl ?_); intro K hK; go_simp; (with_reducible refine hK _ _ ?_); clear hK K; try simp only [Act.put, nA, nB, nC]
              (with_reducible refine wpList_plain rfl ?_); intro K hK; go_simp; (with_reducible refine hK _ _ ?_); clear hK K; try simp only [Act.put, nA, nB, nC]
              (with_reducible refine wpList_plain rfl ?_); intro K hK; go_simp; (with_reducible refine hK _ _ ?_); clear hK K; try simp only [Act.put, nA, nB, nC]
              (with_reducible refine wpList_plain rfl ?_); intro K hK; go_simp; (with_reducible refine hK _ _ ?_); clear hK K; try simp only [Act.put, nA, nB, nC]
              (with_reducible refine wpList_plain rfl ?_); intro K hK; go_simp; (with_reducible refine hK _ _ ?_); clear hK K; try simp only [Act.put, nA, nB, nC]
              (with_reducible refine wpList_plain rfl ?_); intro K hK; go_simp; (with_reducible refine hK _ _ ?_); clear hK K; try simp only [Act.put, nA, nB, nC]
              (with_reducible refine wpList_plain rfl ?_); intro K hK; go_simp; (with_reducible refine hK _ _ ?_); clear hK K; try simp only [Act.put, nA, nB, nC]
              (with_reducible refine wpList_plain rfl ?_); intro K hK; go_simp; (with_reducible refine hK _ _ ?_); clear hK K; try simp only [Act.put, nA, nB, nC]
              (with_reducible refine wpList_plain rfl ?_); intro K hK; go_simp; (with_reducible refine hK _ _ ?_); clear hK K; try simp only [Act.put, nA, nB, nC]
              have L14 := Lib.hid (L13.out.opened (op + 1) (.int .i64 (j2 : Int)) (by rw [HJ2.out]))
              obtain ⟨w14, hw14⟩ : ∃ W, w13.setCell ⟨T, 2, none⟩ (.int .i64 (j2 : Int)) = W := ⟨_, rfl⟩
              rw [hw14] at L14
              rw [hw14]
              clear hw14 L13 cT c2 f2 ew1 ew2
              go_wp2_with fail
              go_roundg (muL P chain ⟨openB left held s (pg0, xs), op + 1, pg2, ls⟩)
              case measure =>
                unfold muL at hmu ⊢
                simp only at hmu ⊢
                omega
              case rel => exact ⟨⟨openB left held s (pg0, xs), op + 1, pg2, ls⟩, _, _, _, _, Nat.le_refl _, HF3, by show op + 1 ≤ chain.length; omega, by show ls.length ≤ P; rw [HME.out]; omega, HS2, hp2, HB, L14⟩
            case neg =>
              obtain rfl : op = chain.length := by omega
              have hS2 : stepL left held most P chain ⟨s, chain.length, pg2, ls⟩ = if pg2 < most then some ⟨s, chain.length, pg2 + 1, ls ++ [pg2]⟩ else none := by
                unfold stepL
                simp only [HC.out, List.getElem?_eq_none (Nat.le_refl _)]
              go_upto_region 11 with fail
              go_quiet (fail)
              have L12 := Lib.hid (L11.out.drewN nq)
              obtain ⟨w12, hw12⟩ : ∃ W, w11.drewN nq = W := ⟨_, rfl⟩
              rw [hw12] at L12
              rw [hw12]
              clear hw12 L11 cF cT c7 c2
              have cF := heap_cell L12.out.v.c2 (o := 0)
              have cT := heap_cell L12.out.v.ct (o := 0)
              go_upto_region 20 with fail
              by_cases hpm : pg2 < most
              case neg =>
                rw [if_neg hpm] at hS2
                have HF3 : Hid (r = none) := HF2.out.symm.trans (listF_none HMO.out hS2)
                with_reducible refine wp_region_list ?_
                (with_reducible refine wpList_plain rfl ?_); intro K hK; go_simp; (with_reducible refine hK _ _ ?_); clear hK K; try simp only [Act.put, nA, nB, nC]
                with_reducible refine wpList_plain rfl ?_
                intro K hK
                go_simp
                refine (end_no T tv _ _ pg2 hb lb most _ w12 (Lib.hid L12.out.t) hpm).mono ?_; rintro e w13 ⟨rfl, b13⟩
                first | with_reducible refine hK _ _ ?_ | refine hK _ _ ?_
                clear hK K
                (try simp only [Act.put, nA, nB, nC])
                have hR := HNo.out w13 HF3.out (L12.out.m.then (Mod.of _ b13))
                have HR := Lib.hid hR
                clear hR b13 cF cT hS2
                go_wp2_with fail
                exact HR.out
              case pos =>
                rw [if_pos hpm] at hS2
                have HF3 : Hid (listF left held most n P chain ⟨s, chain.length, pg2 + 1, ls ++ [pg2]⟩ = r) := (listF_step HMO.out hS2 (by unfold muL; simp only [List.length_append, List.length_singleton]; rw [HME.out]; omega)).symm.trans HF2.out
                with_reducible refine wp_region_list ?_
                (with_reducible refine wpList_plain rfl ?_); intro K hK; go_simp; (with_reducible refine hK _ _ ?_); clear hK K; try simp only [Act.put, nA, nB, nC]
                with_reducible refine wpList_plain rfl ?_
                intro K hK
                go_simp
                refine (end_yes T tv _ _ pg2 hb lb most _ w12 (Lib.hid L12.out.t) hpm hm).mono ?_; rintro e w16 ⟨rfl, t16, m16⟩
                first | with_reducible refine hK _ _ ?_ | refine hK _ _ ?_
                clear hK K
                (try simp only [Act.put, nA, nB, nC])
                have L16 := Lib.hid (L12.out.ended m16 t16)
                clear t16 m16 cF cT hS2 L12
                have hbs : bs.length ≤ 1000000 := by rw [HBL.out]; omega
                go_upto_region 23 with fail
                refine wp_region_T (S := fun W => W.cell? ⟨N, 0, none⟩ = some (.pointer (some ⟨T, 0, none⟩)) ∧ W.cell? ⟨T, 1, none⟩ = some (.slice a3 m c3)) 13 (by kernel_rfl) ⟨heap_cell L16.out.drew.v.ct 0, heap_cell L16.out.drew.t 1⟩ (fun hHeld => ?_)
                refine' wpAnyT_take (i := 0) (oi := ⟨some 117, .load 126 (.tmp 3), 126, "free.go:192", #[], none⟩) rfl (by kernel_rfl) (by kernel_rfl) (by kernel_rfl) (by kernel_rfl) (by kernel_rfl) (fun _ _ _ h => h) (Or.inl ⟨by rfl, _⟩) (by assumption) _
                rotate_left
                · (intro wS hSw; (try dsimp only at hSw); go_simp; try with_reducible rfl)
                try simp only [Act.put, nA, nB, nC]
                refine' wpAnyT_take (i := 1) (oi := ⟨some 118, .load 126 (.tmp 3), 126, "free.go:192", #[], none⟩) rfl (by kernel_rfl) (by kernel_rfl) (by kernel_rfl) (by kernel_rfl) (by kernel_rfl) (fun _ _ _ h => h) (Or.inl ⟨by rfl, _⟩) (by assumption) _
                rotate_left
                · (intro wS hSw; (try dsimp only at hSw); go_simp; try with_reducible rfl)
                try simp only [Act.put, nA, nB, nC]
                refine' wpAnyT_pure (i := 2) (oi := ⟨some 119, .nilCheck (.tmp 118), 0, "free.go:192", #[⟨1, .data⟩], none⟩) rfl (by decide) (by kernel_rfl) (by kernel_rfl) (by kernel_rfl) (fun _ _ _ h => h) (Or.inl ⟨by rfl, _⟩) (by assumption) _
                rotate_left
                · (intro wS hSw; (try dsimp only at hSw); go_simp; try with_reducible rfl)
                try simp only [Act.put, nA, nB, nC]
                refine' wpAnyT_pure (i := 3) (oi := ⟨some 120, .fieldAddr 128 (.tmp 119) 0, 0, "free.go:192", #[⟨2, .data⟩], none⟩) rfl (by decide) (by kernel_rfl) (by kernel_rfl) (by kernel_rfl) (fun _ _ _ h => h) (Or.inl ⟨by rfl, _⟩) (by assumption) _
                rotate_left
                · (intro wS hSw; (try dsimp only at hSw); go_simp; try with_reducible rfl)
                try simp only [Act.put, nA, nB, nC]
                refine' wpAnyT_pure (i := 4) (oi := ⟨some 121, .fieldAddr 48 (.tmp 120) 1, 0, "free.go:192", #[⟨3, .data⟩], none⟩) rfl (by decide) (by kernel_rfl) (by kernel_rfl) (by kernel_rfl) (fun _ _ _ h => h) (Or.inl ⟨by rfl, _⟩) (by assumption) _
                rotate_left
                · (intro wS hSw; (try dsimp only at hSw); go_simp; try with_reducible rfl)
                try simp only [Act.put, nA, nB, nC]
                refine' wpAnyT_take (i := 5) (oi := ⟨some 122, .load 44 (.tmp 121), 44, "free.go:192", #[⟨4, .data⟩], none⟩) rfl (by kernel_rfl) (by kernel_rfl) (by kernel_rfl) (by kernel_rfl) (by kernel_rfl) (fun _ _ _ h => h) (Or.inl ⟨by rfl, _⟩) (by assumption) _
                rotate_left
                · (intro wS hSw; (try dsimp only at hSw); go_simp; try with_reducible rfl)
                try simp only [Act.put, nA, nB, nC]
                refine' wpAnyT_pure (i := 6) (oi := ⟨some 123, .move (.tmp 12), 27, "free.go:192", #[], none⟩) rfl (by decide) (by kernel_rfl) (by kernel_rfl) (by kernel_rfl) (fun _ _ _ h => h) (Or.inl ⟨by rfl, _⟩) (by assumption) _
                rotate_left
                · (intro wS hSw; (try dsimp only at hSw); go_simp; try with_reducible rfl)
                try simp only [Act.put, nA, nB, nC]
                refine' wpAnyT_pure (i := 7) (oi := ⟨some 124, .build 64 #[(0, .tmp 123)], 64, "free.go:192", #[⟨6, .data⟩], none⟩) rfl (by decide) (by kernel_rfl) (by kernel_rfl) (by kernel_rfl) (fun _ _ _ h => h) (Or.inl ⟨by rfl, _⟩) (by assumption) _
                rotate_left
                · (intro wS hSw; (try dsimp only at hSw); go_simp; try with_reducible rfl)
                try simp only [Act.put, nA, nB, nC]
                refine wpAnyT_one (i := 8) (oi := ⟨some 125, .buildSlice 44 1 #[(0, .tmp 124)], 44, "free.go:192", #[⟨7, .data⟩], none⟩) rfl (by kernel_rfl) (fun K hK => ?_)
                go_simp
                skip
                refine hK.out _ _ ?_ (fun hHeld => ?_)
                · exact ⟨heap_cell (L16.out.drew.low ((Below.refl _ _).alloc (Nat.le_refl _) _)).v.ct 0, heap_cell (L16.out.drew.low ((Below.refl _ _).alloc (Nat.le_refl _) _)).t 1⟩
                clear hK K
                try simp only [Act.put, nA, nB, nC]
                obtain ⟨wa17, hwa17⟩ : ∃ W, (w16.alloc (.cells #[.int .u32 (pg2 : Int), .slice none 0 0] 64)).drew = W := ⟨_, rfl⟩
                have La17 : Hid (LI w N LC (N + 1) N T hb lb most tv (.slice cad chain.length ccap) P (.slice a1 n1 c1) (.slice a2 0 c2) (.slice a3 m c3) s chain.length (pg2 + 1) bs wa17) := by rw [← hwa17]; exact (L16.out.low ((Below.refl _ _).alloc (Nat.le_refl _) _)).drew
                have ha17 : wa17.heap[w16.heap.size]? = some (.cells (bpair (pg2, .slice none 0 0)).toArray 64 (0, 0)) := by rw [← hwa17]; exact heap_alloc_new w16 _
                rw [hwa17]
                refine wpAnyT_one (i := 9) (oi := ⟨some 126, .call ⟨.builtin .append, #[.tmp 122, .tmp 125], #[44, 44]⟩, 44, "free.go:192", #[⟨5, .data⟩, ⟨8, .data⟩], none⟩) rfl (by kernel_rfl) (fun K hK => ?_)
                refine step_of rfl (wp_appC wa17 (pg2, .slice none 0 0) rfl _ _ rfl N (.slice a3 m c3) bs rfl La17.out.c w16.heap.size 1 rfl ha17 (by omega) La17.out.size ?_); intro v17 wb17 O17 M17 F17; obtain ⟨ad17, cp17, hv17, hy1, hy2, hy3⟩ := O17.shape; clear hy1 hy2 hy3; rw [List.length_append, List.length_singleton] at hv17; subst hv17; have tc17 := heap_cell (M17.heap La17.out.v.ct (fun e => (La17.out.a N e).2.2.1 rfl)) 0; have t117 := heap_cell (M17.heap La17.out.t (fun e => by have := (La17.out.c.lt T e).1; omega)) 1; have ff17 := heap_free (M17.heap La17.out.t (fun e => by have := (La17.out.c.lt T e).1; omega)) 1
                refine hK.out _ _ ?_ (fun hHeld => ?_)
                · exact ⟨tc17, t117⟩
                clear hK K
                try simp only [Act.put, nA, nB, nC]
                refine' wpAnyT_pure (i := 10) (oi := ⟨some 127, .nilCheck (.tmp 117), 0, "free.go:192", #[⟨0, .data⟩, ⟨0, .phase⟩, ⟨1, .phase⟩, ⟨2, .phase⟩, ⟨3, .phase⟩, ⟨4, .phase⟩, ⟨5, .phase⟩, ⟨6, .phase⟩, ⟨7, .phase⟩, ⟨8, .phase⟩, ⟨9, .phase⟩], none⟩) rfl (by decide) (by kernel_rfl) (by kernel_rfl) (by kernel_rfl) (fun _ _ _ h => h) (Or.inl ⟨by rfl, _⟩) (by assumption) _
                rotate_left
                · (intro wS hSw; (try dsimp only at hSw); go_simp; try with_reducible rfl)
                try simp only [Act.put, nA, nB, nC]
                refine' wpAnyT_pure (i := 11) (oi := ⟨some 128, .fieldAddr 128 (.tmp 127) 0, 0, "free.go:192", #[⟨10, .data⟩, ⟨0, .phase⟩, ⟨1, .phase⟩, ⟨2, .phase⟩, ⟨3, .phase⟩, ⟨4, .phase⟩, ⟨5, .phase⟩, ⟨6, .phase⟩, ⟨7, .phase⟩, ⟨8, .phase⟩, ⟨9, .phase⟩], none⟩) rfl (by decide) (by kernel_rfl) (by kernel_rfl) (by kernel_rfl) (fun _ _ _ h => h) (Or.inl ⟨by rfl, _⟩) (by assumption) _
                rotate_left
                · (intro wS hSw; (try dsimp only at hSw); go_simp; try with_reducible rfl)
                try simp only [Act.put, nA, nB, nC]
                refine' wpAnyT_pure (i := 12) (oi := ⟨some 129, .fieldAddr 48 (.tmp 128) 1, 0, "free.go:192", #[⟨11, .data⟩, ⟨0, .phase⟩, ⟨1, .phase⟩, ⟨2, .phase⟩, ⟨3, .phase⟩, ⟨4, .phase⟩, ⟨5, .phase⟩, ⟨6, .phase⟩, ⟨7, .phase⟩, ⟨8, .phase⟩, ⟨9, .phase⟩], none⟩) rfl (by decide) (by kernel_rfl) (by kernel_rfl) (by kernel_rfl) (fun _ _ _ h => h) (Or.inl ⟨by rfl, _⟩) (by assumption) _
                rotate_left
                · (intro wS hSw; (try dsimp only at hSw); go_simp; try with_reducible rfl)
                try simp only [Act.put, nA, nB, nC]
                refine wpAnyT_last (oi := ⟨none, .store 44 (.tmp 129) (.tmp 126), 0, "free.go:192", #[⟨12, .data⟩, ⟨9, .data⟩, ⟨9, .chain⟩, ⟨0, .phase⟩, ⟨1, .phase⟩, ⟨2, .phase⟩, ⟨3, .phase⟩, ⟨4, .phase⟩, ⟨5, .phase⟩, ⟨6, .phase⟩, ⟨7, .phase⟩, ⟨8, .phase⟩, ⟨9, .phase⟩], none⟩) rfl (by kernel_rfl) (by kernel_rfl) (fun K hK => ?_)
                go_simp
                refine hK.out _ _ ?_
                clear hK K
                try simp only [Act.put, nA, nB, nC]
                have L17 := Lib.hid (La17.out.put O17 M17 F17)
                refine wpAnyT_done (by kernel_rfl) ?_ _
                obtain ⟨wc17, hwc17⟩ : ∃ W, wb17.setCell ⟨T, 1, none⟩ (.slice ad17 (bs.length + 1) cp17) = W := ⟨_, rfl⟩
                rw [hwc17] at L17
                rw [hwc17]
                clear hwc17 hwa17 ha17 La17 O17 M17 F17 tc17 t117 ff17 hHeld
                have HB17 : Hid (bs ++ [(pg2, Value.slice none 0 0)] = (ls ++ [pg2]).map fun p => (p, Value.slice none 0 0)) := by
                  show _ = _
                  rw [List.map_append, HB.out]
                  rfl
                go_wp2_with fail
                go_roundg (muL P chain ⟨s, chain.length, pg2 + 1, ls ++ [pg2]⟩)
                case measure =>
                  have h1 := HME.out
                  unfold muL at hmu ⊢
                  simp only [List.length_append, List.length_singleton] at hmu ⊢
                  omega
                case rel => exact ⟨⟨s, chain.length, pg2 + 1, ls ++ [pg2]⟩, _, _, _, _, Nat.le_refl _, HF3, Nat.le_refl _, by simp only [List.length_append, List.length_singleton]; rw [HME.out]; omega, HS, by show pg2 + 1 ≤ most; omega, HB17, L17⟩
end Go.Proofs.Ytkngmnfgdlnddaa

