/-
  Pages by their numbers: Find and the law's Book.
-/
import Derived.Test.YtkngmnfgdlnddaaGO
set_option linter.unusedSimpArgs false
set_option linter.unusedVariables false
namespace Go.Proofs.Ytkngmnfgdlnddaa
open Go.RowKit Go.Lib Hw Go.Maps
set_option linter.unusedSimpArgs false
set_option linter.unusedVariables false

structure Pg where
  kind : Nat
  no : Nat
  ver : Nat
  body : ByteArray
def Pg.cells (p : Pg) : List Value := [.int .u8 (p.kind : Int), .int .u32 (p.no : Int), .int .u64 (p.ver : Int), .string p.body]
def pgs (ps : List Pg) : List Value := ps.flatMap Pg.cells
def Pg.zero : Pg := ⟨0, 0, 0, ⟨#[]⟩⟩
theorem pgs_len : ∀ ps : List Pg, (pgs ps).length = ps.length * 4
  | [] => rfl
  | p :: r => by
    show (p.cells ++ pgs r).length = _
    rw [List.length_append, pgs_len r, List.length_cons]
    show 4 + _ = _
    omega
theorem pgs_at : ∀ (ps : List Pg) (i j : Nat) (h : i < ps.length) (u : Value), (ps[i]).cells[j]? = some u → (pgs ps)[i * 4 + j]? = some u
  | p :: r, 0, j, h, u, hu => by
    have hj : j < p.cells.length := (List.getElem?_eq_some_iff.1 hu).1
    show (p.cells ++ pgs r)[0 * 4 + j]? = some u
    rw [Nat.zero_mul, Nat.zero_add, List.getElem?_append_left hj]
    exact hu
  | p :: r, i + 1, j, h, u, hu => by
    have h1 := pgs_at r i j (by simpa using h) u hu
    show (p.cells ++ pgs r)[(i + 1) * 4 + j]? = some u
    have e : (i + 1) * 4 + j = p.cells.length + (i * 4 + j) := by show _ = 4 + _; omega
    rw [e, List.getElem?_append_right (by omega), Nat.add_sub_cancel_left]
    exact h1
/-- a row of pages that can be read -/
def PRow (w : World) (v : Value) (ps : List Pg) : Prop := ReadR 4 w v ps.length (pgs ps)
theorem PRow.below {w w' : World} {v : Value} {ps : List Pg} (h : PRow w v ps) (hb : Below w.heap.size w w') : PRow w' v ps := ReadR.below h hb
theorem PRow.at {w : World} {ad : Option Addr} {n c : Nat} {ps : List Pg} (h : PRow w (.slice ad n c) ps) {i : Nat} (hi : i < ps.length) : ∃ g o, ad = some ⟨g, o, none⟩ ∧ g < w.heap.size ∧ w.rangeAt g (o + i * 4) (ps[i]).cells := by
  obtain ⟨g, o, e, hl, hc⟩ := ReadR.at h (by omega)
  refine ⟨g, o, e, hl, fun j u hu => ?_⟩
  have h1 := pgs_at ps i j hi u hu
  obtain ⟨h2, h3⟩ := List.getElem?_eq_some_iff.1 h1
  have h4 := hc _ h2
  rw [h3] at h4
  rw [show o + i * 4 + j = o + (i * 4 + j) by omega]
  exact h4
def findP (ps : List Pg) (no : Nat) : Option Pg := ps.find? (fun p => decide (p.no = no))
theorem findP_drop {ps : List Pg} {no i : Nat} (h : i < ps.length) : (ps.drop i).find? (fun p => decide (p.no = no)) = if ps[i].no = no then some ps[i] else (ps.drop (i + 1)).find? (fun p => decide (p.no = no)) := by
  rw [List.drop_eq_getElem_cons h, List.find?_cons]
  by_cases e : ps[i].no = no
  · rw [if_pos e]; simp [e]
  · rw [if_neg e]; simp [e]
/-- what Find tells -/
def foundV (o : Option Pg) : Value := match o with | some p => .tuple #[.agg p.cells.toArray, .bool true] | none => .tuple #[.agg Pg.zero.cells.toArray, .bool false]
set_option maxRecDepth 5000 in
set_option maxHeartbeats 8000000 in
theorem Find_any (v : Value) (ps : List Pg) (no : Nat) (w : World) (hv : Hid (PRow w v ps)) (hno : no < 4294967296) (hps : Hid (∀ p ∈ ps, p.no < 4294967296)) :
    Calls Try.prog 77 #[v, .int .u32 (no : Int)] w fun e w' => e = .returned (foundV (findP ps no)) ∧ Below w.heap.size w w' := by
  obtain ⟨ad, c, hv1, hx1⟩ := ReadR.form hv.out
  subst hv1
  obtain ⟨N, hN⟩ : ∃ N, w.heap.size = N := ⟨_, rfl⟩
  have HN := Lib.hid hN
  rw [hN]
  clear hN
  obtain ⟨n, hn⟩ : ∃ n, ps.length = n := ⟨_, rfl⟩
  have HL := Lib.hid hn
  rw [hn] at hx1 ⊢
  have HV : Hid (PRow w (.slice ad n c) ps) := by rw [← hn]; exact hv
  clear hn hv
  go_enter Try.func77, Try.ntmps77
  go_upto_region 0 with fail
  with_reducible refine wp_region_list ?_
  refine wpList_allocB rfl 97 rfl N HN.out (.agg #[.int .u8 0, .int .u32 0, .int .u64 0, .string ⟨#[]⟩]) (fun _ => by kernel_rfl) ?_
  intro w1 e1 b1 z1
  (try simp only [Act.put, nA, nB, nC])
  (with_reducible refine wpList_plain rfl ?_); intro K hK; go_simp; (with_reducible refine hK _ _ ?_); clear hK K; try simp only [Act.put, nA, nB, nC]
  have E1 := Lib.hid e1
  have B1 := Lib.hid b1
  clear e1 b1 z1
  go_upto_region 2 with fail
  go_loopw [6] (fun iv wr => ∃ (i : Nat), i ≤ n ∧ Hid (findP ps no = (ps.drop i).find? (fun p => decide (p.no = no))) ∧ wr = w1 ∧ iv = .int .i64 (i : Int)) (fun iv _ => n - (intOf iv).toNat)
  case atStart => exact ⟨0, Nat.zero_le _, rfl, rfl, rfl⟩
  case round =>
    obtain ⟨i, hi, HF, hwr, rfl⟩ := hrel
    subst hwr
    by_cases hlt : i < n
    case pos =>
      have ii : (i : Int) < (n : Int) := by omega
      have hix : i < ps.length := by have := HL.out; omega
      obtain ⟨i9, hi9⟩ : ∃ k9 : Nat, k9 = i + 1 := ⟨_, rfl⟩
      have ew1 : (i : Int) + 1 = (i9 : Int) := by omega
      have ew2 : IntKind.i64.wrap (i9 : Int) = (i9 : Int) := IntWalk.i64_in _ (by omega)
      have hi3 : i9 ≤ n := by omega
      have hi4 : n - i9 < n - i := by omega
      have hrow : PRow wr (.slice ad n c) ps := HV.out.below (by rw [HN.out]; exact B1.out)
      obtain ⟨g, o, hga, hgl, hr⟩ := hrow.at hix
      subst hga
      have hfd := HF.out
      rw [findP_drop hix] at hfd
      have hpn := hps.out _ (List.getElem_mem hix)
      obtain ⟨p, hp⟩ : ∃ p, ps[i] = p := ⟨_, rfl⟩
      rw [hp] at hr hfd hpn
      have HR := Lib.hid hr
      have f1 : wr.cell? ⟨g, o + i * 4 + 1, none⟩ = some (.int .u32 (p.no : Int)) := hr 1 _ rfl
      obtain ⟨pn, hpn2⟩ : ∃ k, p.no = k := ⟨_, rfl⟩
      rw [hpn2] at f1 hfd
      have HFD := Lib.hid hfd
      have HPN := Lib.hid hpn2
      have HI9 := Lib.hid hi9
      clear hrow hr hp hfd hpn hpn2 hi9 hlt hgl
      by_cases he : pn = no
      case neg =>
        have y1 : ((pn : Int) == (no : Int)) = false := by simp; omega
        have y2 : (pn == no) = false := by simp [he]
        have HF2 : Hid (findP ps no = (ps.drop i9).find? (fun p => decide (p.no = no))) := by
          show _ = _
          rw [HFD.out, if_neg he, HI9.out]
        clear he HF HFD
        go_wp2_with fail
        exact ⟨⟨i9, hi3, HF2, (by first | rfl | trivial), rfl⟩, by simp only [intOf, Int.toNat_natCast]; exact hi4⟩
      case pos =>
        have y1 : ((pn : Int) == (no : Int)) = true := by simp [he]
        have y2 : (pn == no) = true := by simp [he]
        have HF2 : Hid (foundV (findP ps no) = .tuple #[.agg p.cells.toArray, .bool true]) := by
          show _ = _
          rw [HFD.out, if_pos he]
          rfl
        clear he HF HFD hix
        go_upto_region 5 with fail
        clear y1 y2 f1
        with_reducible refine wp_region_list ?_
        (with_reducible refine wpList_plain rfl ?_); intro K hK; go_simp; (with_reducible refine hK _ _ ?_); clear hK K; try simp only [Act.put, nA, nB, nC]
        (with_reducible refine wpList_plain rfl ?_); intro K hK; go_simp; (with_reducible refine hK _ _ ?_); clear hK K; try simp only [Act.put, nA, nB, nC]
        (with_reducible refine wpList_plain rfl ?_); intro K hK; go_simp; (with_reducible refine hK _ _ ?_); clear hK K; try simp only [Act.put, nA, nB, nC]
        refine wpList_load_mid rfl 97 _ rfl g (o + i * 4) rfl p.cells _ HR.out Try.underlying97 rfl (by kernel_rfl) ?_
        (try simp only [Act.put, nA, nB, nC])
        refine wpList_storeB rfl 97 _ _ rfl N p.cells.toArray rfl rfl 97 _ E1.out (by kernel_rfl) rfl (by simp [Pg.cells, Value.oneCell']) ?_
        intro w2 e2 m2
        (try simp only [Act.put, nA, nB, nC])
        (with_reducible refine wpList_plain rfl ?_); intro K hK; go_simp; (with_reducible refine hK _ _ ?_); clear hK K; try simp only [Act.put, nA, nB, nC]
        have hbz : Hid (Below N w w2) := B1.out.trans (m2.below (n := N) (fun q hq hs => by omega) (by have := heap_lt E1.out; omega))
        have d0 := heap_cell e2 (o := 0)
        have d1 := heap_cell e2 (o := 1)
        have d2 := heap_cell e2 (o := 2)
        have d3 := heap_cell e2 (o := 3)
        simp only [Pg.cells] at d0 d1 d2 d3
        clear e2 m2
        go_wp2_with fail
        refine bodyPost_ret (v := .tuple #[.agg p.cells.toArray, .bool true]) (by simp [results, Try.results77, go_sem, d0, d1, d2, d3, Pg.cells]) rfl ⟨by rw [HF2.out], hbz.out⟩
    case neg =>
      have ii : ¬ (i : Int) < (n : Int) := by omega
      have HF2 : Hid (foundV (findP ps no) = .tuple #[.agg Pg.zero.cells.toArray, .bool false]) := by
        show _ = _
        rw [HF.out, List.drop_of_length_le (by rw [HL.out]; omega)]
        rfl
      clear hlt hi HF
      go_upto_region 6 with fail
      clear ii
      with_reducible refine wp_region_list ?_
      (with_reducible refine wpList_plain rfl ?_); intro K hK; go_simp; (with_reducible refine hK _ _ ?_); clear hK K; try simp only [Act.put, nA, nB, nC]
      refine wpList_storeB rfl 97 _ _ rfl N Pg.zero.cells.toArray rfl rfl 97 _ E1.out (by kernel_rfl) rfl (by simp [Pg.cells, Pg.zero, Value.oneCell']) ?_
      intro w2 e2 m2
      (try simp only [Act.put, nA, nB, nC])
      (with_reducible refine wpList_plain rfl ?_); intro K hK; go_simp; (with_reducible refine hK _ _ ?_); clear hK K; try simp only [Act.put, nA, nB, nC]
      have hbz : Hid (Below N w w2) := B1.out.trans (m2.below (n := N) (fun q hq hs => by omega) (by have := heap_lt E1.out; omega))
      have d0 := heap_cell e2 (o := 0)
      have d1 := heap_cell e2 (o := 1)
      have d2 := heap_cell e2 (o := 2)
      have d3 := heap_cell e2 (o := 3)
      simp only [Pg.cells, Pg.zero] at d0 d1 d2 d3
      clear e2 m2
      go_wp2_with fail
      refine bodyPost_ret (v := .tuple #[.agg Pg.zero.cells.toArray, .bool false]) (by simp [results, Try.results77, go_sem, d0, d1, d2, d3, Pg.cells, Pg.zero]) rfl ⟨by rw [HF2.out], hbz.out⟩
theorem wp_storeP {P : Program} {o : Oper} {a : Act} {w : World} {K : Act → World → Prop} {Q : Exit → Act → World → Prop} (ty : TypeId) (x y : Operand) (ho : o.op = .store ty x y)
    (g : Nat) (cells : Array Value) (hx : a.eval x = .pointer (some ⟨g, 0, none⟩)) (hy : a.eval y = .agg cells)
    (t : TypeId) (old : Array Value) (hg : w.heap[g]? = some (.cells old t (0, 0))) (hi : (P.info? ty).map (·.size) = some cells.size)
    (hold : old.size = cells.size) (h1 : cells.all (·.oneCell') = true)
    (h : ∀ W, W.heap[g]? = some (.cells cells t (0, 0)) → Mod (fun k => k = g) w W → K (a.put o.dst undef) W) : o.wp P a w K Q :=
  wp_store_row ty x y ho g cells hx hy t old hg hi hold h1 (h _ (setRow_heap w g old _ t _ hg) ⟨rfl, rfl, rfl, by simp, fun k hk hn => setRow_other w g k _ hn⟩)
/-- what a Book tells -/
def bookV (o : Option Pg) (err : Int) : Value := match o with | some p => .tuple #[.agg p.cells.toArray, .int .i64 0] | none => .tuple #[.agg Pg.zero.cells.toArray, .int .i64 err]
set_option maxRecDepth 5000 in
set_option maxHeartbeats 8000000 in
theorem BookPage_any (p : Nat) (v : Value) (ps : List Pg) (err : Int) (no : Nat) (w : World) (hb : Hid (w.heap[p]? = some (.cells #[v, .int .i64 err] 84 (0, 0)))) (hv : Hid (PRow w v ps)) (hno : no < 4294967296) (hps : Hid (∀ p ∈ ps, p.no < 4294967296)) :
    Calls Try.prog 133 #[.pointer (some ⟨p, 0, none⟩), .int .u32 (no : Int)] w fun e w' => e = .returned (bookV (findP ps no) err) ∧ Below w.heap.size w w' := by
  obtain ⟨ad, c, hv1, hx1⟩ := ReadR.form hv.out
  subst hv1
  obtain ⟨N, hN⟩ : ∃ N, w.heap.size = N := ⟨_, rfl⟩
  have HN := Lib.hid hN
  rw [hN]
  have hpl : p < N := by rw [← hN]; exact heap_lt hb.out
  clear hN
  obtain ⟨n, hn⟩ : ∃ n, ps.length = n := ⟨_, rfl⟩
  rw [hn] at hb hv
  obtain ⟨fo, hfo⟩ : ∃ o, findP ps no = o := ⟨_, rfl⟩
  have HFO := Lib.hid hfo
  have HFind : Hid (∀ W, Below N w W → Calls Try.prog 77 #[.slice ad n c, .int .u32 (no : Int)] W fun e w' => e = .returned (foundV fo) ∧ Below W.heap.size W w') := fun W hW => by
    have h := Find_any (.slice ad n c) ps no W (PRow.below hv.out (by rw [HN.out]; exact hW)) hno hps
    rw [hfo] at h
    exact h
  clear hn hfo hx1
  go_enter Try.func133, Try.ntmps133
  go_upto_region 0 with fail
  with_reducible refine wp_region_list ?_
  refine wpList_allocB rfl 97 rfl N HN.out (.agg #[.int .u8 0, .int .u32 0, .int .u64 0, .string ⟨#[]⟩]) (fun _ => by kernel_rfl) ?_
  intro w1 e1 b1 z1
  (try simp only [Act.put, nA, nB, nC])
  (with_reducible refine wpList_plain rfl ?_); intro K hK; go_simp; (with_reducible refine hK _ _ ?_); clear hK K; try simp only [Act.put, nA, nB, nC]
  have E1 := Lib.hid e1
  have B1 := Lib.hid b1
  have P1 := Lib.hid (heap_below hb.out b1 hpl)
  have c0 := heap_cell P1.out (o := 0)
  have hz1 : N < w1.heap.size := heap_lt e1
  clear e1 b1 z1
  go_upto_region 1 with fail
  with_reducible refine wp_region_list ?_
  (with_reducible refine wpList_plain rfl ?_); intro K hK; go_simp; (with_reducible refine hK _ _ ?_); clear hK K; try simp only [Act.put, nA, nB, nC]
  (with_reducible refine wpList_plain rfl ?_); intro K hK; go_simp; (with_reducible refine hK _ _ ?_); clear hK K; try simp only [Act.put, nA, nB, nC]
  (with_reducible refine wpList_plain rfl ?_); intro K hK; go_simp; (with_reducible refine hK _ _ ?_); clear hK K; try simp only [Act.put, nA, nB, nC]
  (with_reducible refine wpList_plain rfl ?_); intro K hK; go_simp; (with_reducible refine hK _ _ ?_); clear hK K; try simp only [Act.put, nA, nB, nC]
  (with_reducible refine wpList_plain rfl ?_); intro K hK; go_simp; (with_reducible refine hK _ _ ?_); clear hK K; try simp only [Act.put, nA, nB, nC]
  with_reducible refine wpList_plain rfl ?_
  intro K hK
  go_simp
  refine (HFind.out w1 B1.out).mono ?_; rintro e w2 ⟨rfl, b2⟩
  first | with_reducible refine hK _ _ ?_ | refine hK _ _ ?_
  clear hK K
  (try simp only [Act.put, nA, nB, nC])
  have B2 : Hid (Below N w w2) := B1.out.trans (b2.mono (by omega))
  have E2 := Lib.hid (heap_below E1.out b2 hz1)
  have P2 := Lib.hid (heap_below P1.out b2 (by omega))
  have hz2 : N < w2.heap.size := heap_lt E2.out
  clear b2 c0 B1 E1 P1
  obtain ⟨T, hT⟩ : ∃ k, w2.heap.size = k := ⟨_, rfl⟩
  cases fo with
  | none =>
    simp only [foundV]
    (with_reducible refine wpList_plain rfl ?_); intro K hK; go_simp; (with_reducible refine hK _ _ ?_); clear hK K; try simp only [Act.put, nA, nB, nC]
    (with_reducible refine wpList_plain rfl ?_); intro K hK; go_simp; (with_reducible refine hK _ _ ?_); clear hK K; try simp only [Act.put, nA, nB, nC]
    (with_reducible refine wpList_plain rfl ?_); intro K hK; go_simp; (with_reducible refine hK _ _ ?_); clear hK K; try simp only [Act.put, nA, nB, nC]
    refine wpList_allocB rfl 97 rfl T hT (.agg #[.int .u8 0, .int .u32 0, .int .u64 0, .string ⟨#[]⟩]) (fun _ => by kernel_rfl) ?_
    intro w3 e3 b3 z3
    (try simp only [Act.put, nA, nB, nC])
    refine wpList_storeB rfl 97 _ _ rfl T Pg.zero.cells.toArray rfl rfl 97 _ e3 (by kernel_rfl) rfl (by simp [Pg.cells, Pg.zero, Value.oneCell']) ?_
    intro w4 e4 m4
    (try simp only [Act.put, nA, nB, nC])
    (with_reducible refine wpList_plain rfl ?_); intro K hK; go_simp; (with_reducible refine hK _ _ ?_); clear hK K; try simp only [Act.put, nA, nB, nC]
    have b4 : Below T w2 w4 := b3.trans (m4.below (n := T) (fun q hq hs => by omega) (by omega))
    have E4 := Lib.hid (heap_below E2.out b4 (by omega))
    have P4 := Lib.hid (heap_below P2.out b4 (by omega))
    have B4 : Hid (Below N w w4) := B2.out.trans (b4.mono (by omega))
    have c1 := heap_cell P4.out (o := 1)
    have hz4 : N < w4.heap.size := heap_lt E4.out
    clear e3 b3 z3 e4 m4 b4 E2 P2 B2 hT
    go_upto_region 3 with fail
    refine wp_region_held_drew (S := fun W => W.cell? ⟨p, 1, none⟩ = some (.int .i64 err)) (by kernel_rfl) c1 (fun hHeld => ?_)
    refine' wpAnyH_take (i := 0) (oi := ⟨some 19, .build 97 #[], 97, "law.go:139", #[], none⟩) rfl (by kernel_rfl) (by kernel_rfl) (by kernel_rfl) (fun _ _ _ h => h) (Or.inl ⟨by rfl, _⟩) (by assumption) _
    rotate_left
    · (intro wS hSw; (try dsimp only at hSw); go_simp; try with_reducible rfl)
    try simp only [Act.put, nA, nB, nC]
    refine' wpAnyH_take (i := 1) (oi := { dst := Option.some 20, op := Op.move (Operand.tmp 0), type := 88, pos := "law.go:139", after := #[{ on := 5, ground := Ground.gcOnly Departure.lateStores }], guard := Option.none }) rfl (by kernel_rfl) (by kernel_rfl) (by kernel_rfl) (fun _ _ _ h => h) (Or.inl ⟨by rfl, _⟩) (by assumption) _
    rotate_left
    · (intro wS hSw; (try dsimp only at hSw); go_simp; try with_reducible rfl)
    try simp only [Act.put, nA, nB, nC]
    refine' wpAnyH_take (i := 2) (oi := { dst := Option.some 21, op := Op.nilCheck (Operand.tmp 20), type := 0, pos := "law.go:139", after := #[{ on := 1, ground := Ground.data }, { on := 5, ground := Ground.gcOnly Departure.lateStores }], guard := Option.none }) rfl (by kernel_rfl) (by kernel_rfl) (by kernel_rfl) (fun _ _ _ h => h) (Or.inl ⟨by rfl, _⟩) (by assumption) _
    rotate_left
    · (intro wS hSw; (try dsimp only at hSw); go_simp; try with_reducible rfl)
    try simp only [Act.put, nA, nB, nC]
    refine' wpAnyH_take (i := 3) (oi := { dst := Option.some 22, op := Op.fieldAddr 84 (Operand.tmp 21) 1, type := 0, pos := "law.go:139", after := #[{ on := 2, ground := Ground.data }, { on := 5, ground := Ground.gcOnly Departure.lateStores }], guard := Option.none }) rfl (by kernel_rfl) (by kernel_rfl) (by kernel_rfl) (fun _ _ _ h => h) (Or.inl ⟨by rfl, _⟩) (by assumption) _
    rotate_left
    · (intro wS hSw; (try dsimp only at hSw); go_simp; try with_reducible rfl)
    try simp only [Act.put, nA, nB, nC]
    refine' wpAnyH_take (i := 4) (oi := { dst := Option.some 23, op := Op.load 32 (Operand.tmp 22), type := 32, pos := "law.go:139", after := #[{ on := 3, ground := Ground.data }, { on := 5, ground := Ground.gcOnly Departure.lateStores }], guard := Option.none }) rfl (by kernel_rfl) (by kernel_rfl) (by kernel_rfl) (fun _ _ _ h => h) (Or.inl ⟨by rfl, _⟩) (by assumption) _
    rotate_left
    · (intro wS hSw; (try dsimp only at hSw); go_simp; try with_reducible rfl)
    try simp only [Act.put, nA, nB, nC]
    refine wpAnyH_ready (rs := [5]) (by kernel_rfl) (by simp) ?_
    refine AllReadyH.cons (o := { dst := Option.none, op := Op.store 97 (Operand.tmp 4) (Operand.tmp 19), type := 0, pos := "law.go:139", after := #[{ on := 0, ground := Ground.data }, { on := 0, ground := Ground.phase }, { on := 1, ground := Ground.textOnly Departure.lateStores }, { on := 2, ground := Ground.textOnly Departure.lateStores }, { on := 3, ground := Ground.textOnly Departure.lateStores }, { on := 4, ground := Ground.textOnly Departure.lateStores }], guard := Option.none }) rfl (fun K hK => ?_) AllReadyH.nil
    refine step_of rfl (wp_storeP 97 _ _ rfl N Pg.zero.cells.toArray rfl rfl 97 _ E4.out (by kernel_rfl) rfl (by simp [Pg.cells, Pg.zero, Value.oneCell']) ?_); intro w5 e5 m5
    refine hK.out _ _ ?_ (fun hHeld => ?_)
    · exact (m5.heapc (by show p < w4.heap.size; omega) (fun e => by have e2 : p = N := e; omega)).trans hHeld
    clear hK K
    try simp only [Act.put, nA, nB, nC]
    refine' wpAnyH_take (i := 6) (oi := ⟨some 5, .assign (.tmp 23), 32, "law.go:139", #[⟨4, .data⟩, ⟨5, .chain⟩, ⟨0, .phase⟩, ⟨1, .phase⟩, ⟨2, .phase⟩, ⟨3, .phase⟩, ⟨4, .phase⟩, ⟨5, .phase⟩], none⟩) rfl (by kernel_rfl) (by kernel_rfl) (by kernel_rfl) (fun _ _ _ h => h) (Or.inl ⟨by rfl, _⟩) (by assumption) _
    rotate_left
    · (intro wS hSw; (try dsimp only at hSw); go_simp; try with_reducible rfl)
    try simp only [Act.put, nA, nB, nC]
    refine wpAnyH_done (by kernel_rfl) ?_ _
    have hbz : Hid (Below N w w5) := B4.out.trans ((Below.refl _ _).drew.trans (m5.below (n := N) (fun q hq hs => by omega) (by show N ≤ w4.heap.size; omega)))
    have d0 := heap_cell e5 (o := 0)
    have d1 := heap_cell e5 (o := 1)
    have d2 := heap_cell e5 (o := 2)
    have d3 := heap_cell e5 (o := 3)
    simp only [Pg.cells, Pg.zero] at d0 d1 d2 d3
    clear e5 m5 c1 hHeld
    go_wp2_with fail
    refine bodyPost_ret (v := .tuple #[.agg Pg.zero.cells.toArray, .int .i64 err]) (by simp [results, Try.results133, go_sem, d0, d1, d2, d3, Pg.cells, Pg.zero]) rfl ⟨by rw [HFO.out]; rfl, hbz.out⟩
  | some pg =>
    simp only [foundV]
    (with_reducible refine wpList_plain rfl ?_); intro K hK; go_simp; (with_reducible refine hK _ _ ?_); clear hK K; try simp only [Act.put, nA, nB, nC]
    (with_reducible refine wpList_plain rfl ?_); intro K hK; go_simp; (with_reducible refine hK _ _ ?_); clear hK K; try simp only [Act.put, nA, nB, nC]
    (with_reducible refine wpList_plain rfl ?_); intro K hK; go_simp; (with_reducible refine hK _ _ ?_); clear hK K; try simp only [Act.put, nA, nB, nC]
    refine wpList_allocB rfl 97 rfl T hT (.agg #[.int .u8 0, .int .u32 0, .int .u64 0, .string ⟨#[]⟩]) (fun _ => by kernel_rfl) ?_
    intro w3 e3 b3 z3
    (try simp only [Act.put, nA, nB, nC])
    refine wpList_storeB rfl 97 _ _ rfl T pg.cells.toArray rfl rfl 97 _ e3 (by kernel_rfl) rfl (by simp [Pg.cells, Value.oneCell']) ?_
    intro w4 e4 m4
    (try simp only [Act.put, nA, nB, nC])
    (with_reducible refine wpList_plain rfl ?_); intro K hK; go_simp; (with_reducible refine hK _ _ ?_); clear hK K; try simp only [Act.put, nA, nB, nC]
    have b4 : Below T w2 w4 := b3.trans (m4.below (n := T) (fun q hq hs => by omega) (by omega))
    have E4 := Lib.hid (heap_below E2.out b4 (by omega))
    have B4 : Hid (Below N w w4) := B2.out.trans (b4.mono (by omega))
    have hz4 : N < w4.heap.size := heap_lt E4.out
    have T4 := Lib.hid e4
    have HR : Hid (w4.rangeAt T 0 pg.cells) := fun j u hu => by
      rw [Nat.zero_add, heap_cell e4, List.getElem?_toArray]
      exact hu
    clear e3 b3 z3 e4 m4 b4 E2 P2 B2
    go_upto_region 4 with fail
    with_reducible refine wp_region_list ?_
    refine wpList_load_mid rfl 97 _ rfl T 0 rfl pg.cells _ HR.out Try.underlying97 rfl (by kernel_rfl) ?_
    (try simp only [Act.put, nA, nB, nC])
    refine wpList_storeB rfl 97 _ _ rfl N pg.cells.toArray rfl rfl 97 _ E4.out (by kernel_rfl) rfl (by simp [Pg.cells, Value.oneCell']) ?_
    intro w5 e5 m5
    (try simp only [Act.put, nA, nB, nC])
    (with_reducible refine wpList_plain rfl ?_); intro K hK; go_simp; (with_reducible refine hK _ _ ?_); clear hK K; try simp only [Act.put, nA, nB, nC]
    have hbz : Hid (Below N w w5) := B4.out.trans (m5.below (n := N) (fun q hq hs => by omega) (by omega))
    have d0 := heap_cell e5 (o := 0)
    have d1 := heap_cell e5 (o := 1)
    have d2 := heap_cell e5 (o := 2)
    have d3 := heap_cell e5 (o := 3)
    simp only [Pg.cells] at d0 d1 d2 d3
    clear e5 m5
    go_wp2_with fail
    refine bodyPost_ret (v := .tuple #[.agg pg.cells.toArray, .int .i64 0]) (by simp [results, Try.results133, go_sem, d0, d1, d2, d3, Pg.cells]) rfl ⟨by rw [HFO.out]; rfl, hbz.out⟩
end Go.Proofs.Ytkngmnfgdlnddaa

