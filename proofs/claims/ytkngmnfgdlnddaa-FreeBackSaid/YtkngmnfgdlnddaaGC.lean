/-
  Chains of batches; the walk of seen. Two lists, two chains, two plans, compared; the law's own frame. The walks of free.Check, of a plan's taking: its end, may, IndexFunc with may. The plain law of a plan's tree pages; the walk of trees.
-/
import Derived.Test.YtkngmnfgdlnddaaGB
import Derived.WalkMore
set_option linter.unusedSimpArgs false
set_option linter.unusedVariables false
namespace Go.Proofs.Ytkngmnfgdlnddaa
open Go.RowKit Go.Lib Hw Go.Maps
set_option linter.unusedSimpArgs false
set_option linter.unusedVariables false

theorem range_block {w w' : World} {b o : Nat} {cs : List Value} (h : w.rangeAt b o cs) (e : w'.heap[b]? = w.heap[b]?) : w'.rangeAt b o cs := fun j v hv => (World.cell?_of_block (a := ⟨b, o + j, none⟩) e).trans (h j v hv)
theorem nodup_le {α : Type} [DecidableEq α] : ∀ (l m : List α), l.Nodup → (∀ x ∈ l, x ∈ m) → l.length ≤ m.length
  | [], m, _, _ => Nat.zero_le _
  | a :: l, m, hn, hs => by
    have ha := hs a (List.mem_cons_self ..)
    rw [List.nodup_cons] at hn
    have h := nodup_le l (m.erase a) hn.2 (fun x hx => (List.mem_erase_of_ne (fun e => hn.1 (by rw [← e]; exact hx))).2 (hs x (List.mem_cons_of_mem _ hx)))
    rw [List.length_erase_of_mem ha] at h
    have := List.length_pos_of_mem ha
    rw [List.length_cons]
    omega
/-- numbers that were met: each once, below a bound -/
def Met (pages : Nat) (acc : List Nat) : Prop := acc.Nodup ∧ ∀ x ∈ acc, x < pages
theorem Met.le {pages : Nat} {acc : List Nat} (h : Met pages acc) : acc.length ≤ pages := by
  have := nodup_le acc (List.range pages) h.1 (fun x hx => List.mem_range.2 (h.2 x hx))
  rwa [List.length_range] at this
theorem Met.cons {pages x : Nat} {acc : List Nat} (h : Met pages acc) (hf : freshB (fun z => acc.contains z) pages x = true) : Met pages (x :: acc) := by
  unfold freshB at hf
  simp only [Bool.and_eq_true, Bool.not_eq_true', decide_eq_true_eq] at hf
  refine ⟨List.nodup_cons.2 ⟨fun hm => ?_, h.1⟩, fun y hy => ?_⟩
  · have := List.contains_iff_mem.2 hm
    rw [hf.1] at this
    cases this
  · rcases List.mem_cons.1 hy with rfl | hy
    · exact hf.2.2
    · exact h.2 y hy
theorem info_B : (Try.prog.info? 64).map (·.size) = some 2 := by kernel_rfl
theorem Mod.heapc {S : Nat → Prop} {w w' : World} {b o : Nat} (h : Mod S w w') (hb : b < w.heap.size) (hn : ¬ S b) : w'.cell? ⟨b, o, none⟩ = w.cell? ⟨b, o, none⟩ := World.cell?_of_block (a := ⟨b, o, none⟩) (h.block b hb hn)
/-- a store of a whole variable of several cells -/
theorem wpList_storeB {P : Program} {ops : Array Oper} {rest : List Oper} {o : Oper} {a : Act} {w : World} {Q : Exit → Act → World → Prop} (hgd : o.guard = none) (ty : TypeId) (x y : Operand) (ho : o.op = .store ty x y)
    (g : Nat) (cells : Array Value) (hx : a.eval x = .pointer (some ⟨g, 0, none⟩)) (hy : a.eval y = .agg cells)
    (t : TypeId) (old : Array Value) (hg : w.heap[g]? = some (.cells old t (0, 0))) (hi : (P.info? ty).map (·.size) = some cells.size)
    (hold : old.size = cells.size) (h1 : cells.all (·.oneCell') = true)
    (h : ∀ W, W.heap[g]? = some (.cells cells t (0, 0)) → Mod (fun k => k = g) w W → wpList P ops Q rest (a.put o.dst undef) W) : wpList P ops Q (o :: rest) a w :=
  wpList_store_row hgd ty x y ho g cells hx hy t old hg hi hold h1 (h _ (setRow_heap w g old _ t _ hg) ⟨rfl, rfl, rfl, by simp, fun k hk hn => setRow_other w g k _ hn⟩)
/-- a chain that can be read -/
def CRow (w : World) (v : Value) (cs : List (Nat × List Nat)) : Prop :=
  (∀ c ∈ cs, c.1 < 4294967296) ∧ ∃ ad c, v = .slice ad cs.length c ∧ cs.length ≤ c ∧ c ≤ 9223372036854775807 ∧ (0 < cs.length → ∃ b o, ad = some ⟨b, o, none⟩ ∧ b < w.heap.size ∧ ∀ i (h : i < cs.length), ∃ nv, w.rangeAt b (o + i * 2) [uN cs[i].1, nv] ∧ URow w nv cs[i].2)
theorem CRow.below {w w' : World} {v : Value} {cs : List (Nat × List Nat)} (h : CRow w v cs) (hb : Below w.heap.size w w') : CRow w' v cs := by
  obtain ⟨h0, ad, c, rfl, h1, h2, h3⟩ := h
  refine ⟨h0, ad, c, rfl, h1, h2, fun hp => ?_⟩
  obtain ⟨b, o, rfl, hlt, hc⟩ := h3 hp
  refine ⟨b, o, rfl, Nat.lt_of_lt_of_le hlt hb.size, fun i hi => ?_⟩
  obtain ⟨nv, h4, h5⟩ := hc i hi
  exact ⟨nv, range_block h4 (hb.block b hlt), h5.below hb⟩
/-- the numbers of a batch, one behind the other -/
def numsGo (pages : Nat) : List Nat → List Nat → Option (List Nat)
  | [], acc => some acc
  | x :: r, acc => if freshB (fun z => acc.contains z) pages x = true then numsGo pages r (x :: acc) else none
def batchOk (E : Int) (pages : Nat) (c : Nat × List Nat) (acc : List Nat) : Bool := freshB (fun z => acc.contains z) pages c.1 && (decide ((c.2.length : Int) ≤ E) && risB c.2)
/-- all batches: what was met; none: it isn't right -/
def seenGo (E : Int) (pages : Nat) : List (Nat × List Nat) → List Nat → Option (List Nat)
  | [], acc => some acc
  | c :: r, acc => if batchOk E pages c acc = true then (match numsGo pages c.2 (c.1 :: acc) with | some a => seenGo E pages r a | none => none) else none
theorem numsGo_drop {pages : Nat} {xs acc : List Nat} {k : Nat} (h : k < xs.length) : numsGo pages (xs.drop k) acc = if freshB (fun z => acc.contains z) pages xs[k] = true then numsGo pages (xs.drop (k + 1)) (xs[k] :: acc) else none := by
  rw [List.drop_eq_getElem_cons h, numsGo]
theorem seenGo_drop {E : Int} {pages : Nat} {cs : List (Nat × List Nat)} {acc : List Nat} {k : Nat} (h : k < cs.length) : seenGo E pages (cs.drop k) acc = if batchOk E pages cs[k] acc = true then (match numsGo pages cs[k].2 (cs[k].1 :: acc) with | some a => seenGo E pages (cs.drop (k + 1)) a | none => none) else none := by
  rw [List.drop_eq_getElem_cons h, seenGo]
theorem SetM.cons {w : World} {b n y : Nat} {acc : List Nat} (h : SetM w b n (fun z => decide (z = y) || acc.contains z)) : SetM w b n (fun z => (y :: acc).contains z) := by
  obtain ⟨D, h1, h2, h3⟩ := h
  refine ⟨D, h1, h2, fun x hx => ?_⟩
  rw [h3 x hx]
  show (decide (x = y) || acc.contains x) = (y :: acc).contains x
  rw [List.contains_cons]
  rfl
def SeenPost (a b : Int) (pages : Nat) (cs : List (Nat × List Nat)) (w : World) (e : Ending) (w' : World) : Prop :=
  Below w.heap.size w w' ∧ ((∃ acc g n, seenGo (entI a b) pages cs [] = some acc ∧ e = .returned (.tuple #[.map (some g), .bool true]) ∧ w.heap.size ≤ g ∧ SetM w' g n (fun z => acc.contains z) ∧ n = acc.length) ∨ (seenGo (entI a b) pages cs [] = none ∧ e = .returned (.tuple #[.map none, .bool false])))
set_option maxRecDepth 5000 in
set_option maxHeartbeats 8000000 in
theorem seen_any (a b : Int) (pages : Nat) (v : Value) (cs : List (Nat × List Nat)) (w : World) (hp : pages < 4294967296) (hv : Hid (CRow w v cs)) :
    Calls Try.prog 71 #[.agg #[.int .i64 a, .int .i64 b], v, .int .u32 (pages : Int)] w (SeenPost a b pages cs w) := by
  obtain ⟨_, ad, c, hv1, _, _, _⟩ := hv.out
  subst hv1
  obtain ⟨N, hN⟩ : ∃ N, w.heap.size = N := ⟨_, rfl⟩
  have HN := Lib.hid hN
  have hmm := @run_makeMap Try.prog
  obtain ⟨R, hR⟩ : ∃ R, SeenPost a b pages cs w = R := ⟨_, rfl⟩
  rw [hR]
  have HNo : Hid (∀ W, seenGo (entI a b) pages cs [] = none → Below N w W → R (.returned (.tuple #[.map none, .bool false])) W) := fun W h1 h2 => by
    rw [← hR]
    exact ⟨by rw [hN]; exact h2, .inr ⟨h1, rfl⟩⟩
  have HYes : Hid (∀ W acc g, seenGo (entI a b) pages cs [] = some acc → N ≤ g → SetM W g acc.length (fun z => acc.contains z) → Below N w W → R (.returned (.tuple #[.map (some g), .bool true])) W) := fun W acc g h1 h2 h3 h4 => by
    rw [← hR]
    exact ⟨by rw [hN]; exact h4, .inl ⟨acc, g, acc.length, h1, rfl, by rw [hN]; exact h2, h3, rfl⟩⟩
  clear hN hR
  go_enter Try.func71, Try.ntmps71
  go_upto_region 0 with fail
  with_reducible refine wp_region_list ?_
  refine wpList_boxB rfl _ _ rfl N HN.out #[.int .i64 a, .int .i64 b] rfl ?_
  intro w0 e0 b0 z0
  (try simp only [Act.put, nA, nB, nC])
  refine wpList_boxB rfl _ _ rfl (N + 1) z0 #[.int .u32 (pages : Int)] rfl ?_
  intro w1 e1 b1 z1
  (try simp only [Act.put, nA, nB, nC])
  (with_reducible refine wpList_plain rfl ?_); intro K hK; go_simp; (with_reducible refine hK _ _ ?_); clear hK K; try simp only [Act.put, nA, nB, nC]
  (with_reducible refine wpList_plain rfl ?_); intro K hK; go_simp; (with_reducible refine hK _ _ ?_); clear hK K; try simp only [Act.put, nA, nB, nC]
  have F1 : Hid (w1.heap[N]? = some (.cells #[.int .i64 a, .int .i64 b] 23 (0, 0))) := heap_below e0 b1 (by omega)
  have P1 := Lib.hid e1
  have B1 : Hid (Below N w w1) := b0.trans (b1.mono (by omega))
  have Z1 := Lib.hid z1
  clear e0 b0 z0 e1 b1 z1
  go_upto_region 1 with fail
  with_reducible refine wp_region_list ?_
  (with_reducible refine wpList_plain rfl ?_); intro K hK; go_simp; (with_reducible refine hK _ _ ?_); clear hK K; try simp only [Act.put, nA, nB, nC]
  (with_reducible refine wpList_plain rfl ?_); intro K hK; go_simp; (with_reducible refine hK _ _ ?_); clear hK K; try simp only [Act.put, nA, nB, nC]
  (with_reducible refine wpList_plain rfl ?_); intro K hK; go_simp; (with_reducible refine hK _ _ ?_); clear hK K; try simp only [Act.put, nA, nB, nC]
  obtain ⟨g, hg⟩ : ∃ g, w1.heap.size = g := ⟨_, rfl⟩
  obtain ⟨w2, hw2⟩ : ∃ W, (w1.alloc (.map #[] 0)).alloc (.cells #[.map (some w1.heap.size)] 60) = W := ⟨_, rfl⟩
  have S2 : Hid (SetM w2 g 0 (fun _ => false)) := by
    have h1 := SetM.made w1
    rw [← hw2, ← hg]
    exact h1.mod (Mod.of (fun _ => False) ((Below.refl _ _).alloc (Nat.le_refl _) _)) (fun h => h)
  have V2 : Hid (w2.heap[g + 1]? = some (.cells #[.map (some g)] 60 (0, 0))) := by
    have h1 := heap_alloc_new (w1.alloc (.map #[] 0)) (.cells #[.map (some w1.heap.size)] 60)
    rw [World.size_alloc, hg] at h1
    rw [← hw2, hg]
    exact h1
  have b2 : Below w1.heap.size w1 w2 := by rw [← hw2]; exact ((Below.refl _ _).alloc (Nat.le_refl _) _).alloc (by simp only [World.size_alloc]; omega) _
  have z2 : w2.heap.size = g + 2 := by rw [← hw2]; simp only [World.size_alloc]; omega
  have F2 : Hid (w2.heap[N]? = some (.cells #[.int .i64 a, .int .i64 b] 23 (0, 0))) := heap_below F1.out b2 (heap_lt F1.out)
  have P2 : Hid (w2.heap[N + 1]? = some (.cells #[.int .u32 (pages : Int)] 27 (0, 0))) := heap_below P1.out b2 (heap_lt P1.out)
  have B2 := Lib.hid (B1.out.trans (b2.mono (by have := Z1.out; omega)))
  have hgN : N + 1 < g := by have := Z1.out; omega
  have Hg := Lib.hid hg
  have Z2 := Lib.hid z2
  rw [hw2, hg]
  clear hw2 b2 F1 P1 B1 Z1 hmm hg z2
  have hmf : ∀ (fn : Fn) (first cap : Array Value) (w : World), (Instr.makeFunc fn first cap).run Try.prog w = .ok (.func fn first cap) w := fun _ _ _ _ => rfl
  go_upto_region 4 with fail
  clear hmf
  go_loopw [18] (fun iv wr => ∃ (k : Nat) (acc : List Nat), k ≤ cs.length ∧ Hid (seenGo (entI a b) pages cs [] = seenGo (entI a b) pages (cs.drop k) acc) ∧ Hid (SetM wr g acc.length (fun z => acc.contains z)) ∧ Hid (Met pages acc) ∧ Hid (Mod (fun j => j = g) w2 wr) ∧ iv = .int .i64 (k : Int)) (fun iv _ => cs.length - (intOf iv).toNat)
  case atStart => exact ⟨0, [], Nat.zero_le _, rfl, S2, ⟨List.nodup_nil, fun x h => by simp at h⟩, Mod.refl _ _, rfl⟩
  case round =>
    obtain ⟨k, acc, hk, HS, SM, MT, MW, rfl⟩ := hrel
    by_cases hlt : k < cs.length
    case pos =>
      have dk : decide (k < cs.length) = true := decide_eq_true hlt
      have dk2 : decide ((k : Int) < (cs.length : Int)) = true := decide_eq_true (by omega)
      have ik : (k : Int) < (cs.length : Int) := by omega
      have B3 : Hid (Below N w wr) := B2.out.trans (MW.out.below (n := N) (fun j hj e => by omega) (by have := Z2.out; omega))
      have hpg := hv.out.1 _ (List.getElem_mem hlt)
      obtain ⟨_, _, _, e9, _, _, hc⟩ := hv.out
      obtain ⟨vb, vo, e8, hvb, hcs⟩ := hc (by omega)
      have e7 := (Value.slice.inj e9).1
      rw [e8] at e7
      subst e7
      obtain ⟨nv, hr, hu⟩ := hcs k hlt
      have hs2 := HS.out
      rw [seenGo_drop hlt] at hs2
      obtain ⟨⟨pg, xs⟩, hcx⟩ : ∃ c, cs[k] = c := ⟨_, rfl⟩
      rw [hcx] at hr hu hs2 hpg
      have HR := Lib.hid (range_block hr (B3.out.block vb (by rw [← HN.out]; exact hvb)))
      have HU := Lib.hid hu
      have HS2 := Lib.hid hs2
      obtain ⟨nad, nc, hnv, hnl, _⟩ := hu.form
      subst hnv
      simp only at hpg
      clear hr hu hs2 hcx hcs hc e8 e9 HS
      go_upto_region 5 with fail
      clear dk dk2
      with_reducible refine wp_region_list ?_
      (with_reducible refine wpList_plain rfl ?_); intro K hK; go_simp; (with_reducible refine hK _ _ ?_); clear hK K; try simp only [Act.put, nA, nB, nC]
      refine wpList_load_mid rfl 64 _ rfl vb (vo + k * 2) rfl [uN pg, .slice nad xs.length nc] _ HR.out Try.underlying64 rfl info_B ?_
      (try simp only [Act.put, nA, nB, nC])
      obtain ⟨bb, hbb⟩ : ∃ b, wr.heap.size = b := ⟨_, rfl⟩
      refine wpList_allocB rfl 64 rfl bb hbb (.agg #[.int .u32 0, .slice none 0 0]) (fun _ => by kernel_rfl) ?_
      intro w3 e3 b3 z3
      (try simp only [Act.put, nA, nB, nC])
      refine wpList_storeB rfl 64 _ _ rfl bb #[.int .u32 (pg : Int), .slice nad xs.length nc] rfl rfl 64 _ e3 info_B rfl (by simp [Value.oneCell']) ?_
      intro w4 e4 m4
      (try simp only [Act.put, nA, nB, nC])
      have hb4 : Below bb wr w4 := b3.trans (m4.below (n := bb) (fun k hk e => by omega) (by omega))
      have hgl : g < bb := by rw [← hbb]; exact SM.out.lt
      have hg1 : g + 1 < bb := by rw [← hbb]; have := MW.out.size; have := Z2.out; omega
      have SM4 : Hid (SetM w4.drew g acc.length (fun z => acc.contains z)) := SM.out.heap (hb4.block g hgl)
      have F4 : Hid (w4.heap[N]? = some (.cells #[.int .i64 a, .int .i64 b] 23 (0, 0))) := heap_below (MW.out.heap F2.out (by omega)) hb4 (by omega)
      have P4 : Hid (w4.drew.heap[N + 1]? = some (.cells #[.int .u32 (pages : Int)] 27 (0, 0))) := heap_below (MW.out.heap P2.out (by omega)) hb4.drew (by omega)
      have V4 : Hid (w4.drew.heap[g + 1]? = some (.cells #[.map (some g)] 60 (0, 0))) := heap_below (MW.out.heap V2.out (by omega)) hb4.drew (by omega)
      have M4 : Hid (Mod (fun j => j = g) w2 w4) := MW.out.trans (Mod.of (S := fun j => j = g) (by rw [hbb]; exact hb4)) (fun i _ h => h)
      have E4 := Lib.hid e4
      have Hbb := Lib.hid hbb
      have hz4 : bb < w4.heap.size := heap_lt e4
      have hzd : bb < w4.drew.heap.size := hz4
      have f0 := heap_cell F4.out (o := 0)
      have f1 := heap_cell F4.out (o := 1)
      have c0 := heap_cell E4.out (o := 0)
      have c1 := heap_cell E4.out (o := 1)
      obtain ⟨q1, hq1⟩ : ∃ q, freshB (fun z => acc.contains z) pages pg = q := ⟨_, rfl⟩
      have H1 := Lib.hid hq1
      obtain ⟨E, hE⟩ : ∃ E, entI a b = E := ⟨_, rfl⟩
      have HE := Lib.hid hE
      have hml := MT.out.le
      clear hq1 hE HR e3 b3 z3 e4 m4 hb4 hbb SM MW
      have B4 : Hid (Below N w w4) := B2.out.trans (M4.out.below (n := N) (fun j hj e => by omega) (by have := Z2.out; omega))
      cases q1
      case false =>
        go_upto_region 6 with fail
        refine wp_region_held_drew (S := fun W => W.cell? ⟨bb, 0, none⟩ = some (.int .u32 (pg : Int)) ∧ W.cell? ⟨bb, 1, none⟩ = some (.slice nad xs.length nc) ∧ W.cell? ⟨N, 0, none⟩ = some (.int .i64 a) ∧ W.cell? ⟨N, 1, none⟩ = some (.int .i64 b) ∧ Below N w W) (by kernel_rfl) ⟨c0, c1, f0, f1, B4.out.drew⟩ (fun hHeld => ?_)
        refine' wpAnyH_take (i := 0) (oi := ⟨some 22, .move (.tmp 9), 103, "free.go:79", #[], none⟩) rfl (by kernel_rfl) (by kernel_rfl) (by kernel_rfl) (fun _ _ _ h => h) (Or.inl ⟨by rfl, _⟩) (by assumption) _
        rotate_left
        · (intro wS hSw; (try dsimp only at hSw); go_simp; try with_reducible rfl)
        try simp only [Act.put, nA, nB, nC]
        refine' wpAnyH_take (i := 1) (oi := ⟨some 23, .fieldAddr 64 (.tmp 11) 0, 0, "free.go:79", #[], none⟩) rfl (by kernel_rfl) (by kernel_rfl) (by kernel_rfl) (fun _ _ _ h => h) (Or.inl ⟨by rfl, _⟩) (by assumption) _
        rotate_left
        · (intro wS hSw; (try dsimp only at hSw); go_simp; try with_reducible rfl)
        try simp only [Act.put, nA, nB, nC]
        refine' wpAnyH_take (i := 2) (oi := ⟨some 24, .load 27 (.tmp 23), 27, "free.go:79", #[⟨1, .data⟩], none⟩) rfl (by kernel_rfl) (by kernel_rfl) (by kernel_rfl) (fun _ _ _ h => h) (Or.inl ⟨by rfl, _⟩) (by assumption) _
        rotate_left
        · (intro wS hSw; (try dsimp only at hSw); go_simp; try with_reducible rfl)
        try simp only [Act.put, nA, nB, nC]
        refine wpAnyH_ready (rs := [3]) (by kernel_rfl) (by simp) ?_
        refine AllReadyH.cons (o := ⟨some 25, .call ⟨.value (.tmp 22), #[.tmp 24], #[27]⟩, 4, "free.go:79", #[⟨0, .data⟩, ⟨2, .data⟩], none⟩) rfl (fun K hK => ?_) AllReadyH.nil
        go_simp
        (go_at_call 86; refine (put_any _ g (g + 1) (N + 1) acc.length (fun z => acc.contains z) pages pg SM4 (by omega) hpg V4 P4 (by omega)).mono ?_; rintro e w5 ⟨rfl, _, m5⟩; rw [H1.out])
        refine hK.out _ _ ?_ (fun hHeld => ?_)
        · exact ⟨(m5.heapc (by omega) (by omega)).trans hHeld.1, (m5.heapc (by omega) (by omega)).trans hHeld.2.1, (m5.heapc (by omega) (by omega)).trans hHeld.2.2.1, (m5.heapc (by omega) (by omega)).trans hHeld.2.2.2.1, hHeld.2.2.2.2.trans (m5.below (n := N) (fun j hj e => by omega) (by omega))⟩
        clear hK K
        try simp only [Act.put, nA, nB, nC]
        refine' wpAnyH_take (i := 4) (oi := ⟨some 26, .unOp .not 4 (.tmp 25), 4, "free.go:79", #[⟨3, .data⟩], none⟩) rfl (by kernel_rfl) (by kernel_rfl) (by kernel_rfl) (fun _ _ _ h => h) (Or.inl ⟨by rfl, _⟩) (by assumption) _
        rotate_left
        · (intro wS hSw; (try dsimp only at hSw); go_simp; try with_reducible rfl)
        try simp only [Act.put, nA, nB, nC]
        refine' wpAnyH_take (i := 5) (oi := ⟨some 27, .move (.tmp 26), 4, "free.go:79", #[⟨4, .data⟩, ⟨3, .chain⟩], none⟩) rfl (by kernel_rfl) (by kernel_rfl) (by kernel_rfl) (fun _ _ _ h => h) (Or.inl ⟨by rfl, _⟩) (by assumption) _
        rotate_left
        · (intro wS hSw; (try dsimp only at hSw); go_simp; try with_reducible rfl)
        try simp only [Act.put, nA, nB, nC]
        refine' wpAnyH_take (i := 6) (oi := ⟨some 28, .fieldAddr 64 (.tmp 11) 1, 0, "free.go:79", #[⟨5, .guard⟩], some (5, false)⟩) rfl (by kernel_rfl) (by kernel_rfl) (by kernel_rfl) (fun _ _ _ h => h) (Or.inr ⟨by rfl, rfl⟩) (by assumption) _
        try simp only [Act.put, nA, nB, nC]
        refine' wpAnyH_take (i := 7) (oi := ⟨some 29, .load 28 (.tmp 28), 28, "free.go:79", #[⟨6, .data⟩, ⟨5, .guard⟩], some (5, false)⟩) rfl (by kernel_rfl) (by kernel_rfl) (by kernel_rfl) (fun _ _ _ h => h) (Or.inr ⟨by rfl, rfl⟩) (by assumption) _
        try simp only [Act.put, nA, nB, nC]
        refine' wpAnyH_take (i := 8) (oi := ⟨some 30, .call ⟨.builtin .len, #[.tmp 29], #[28]⟩, 3, "free.go:79", #[⟨7, .data⟩, ⟨5, .guard⟩], some (5, false)⟩) rfl (by kernel_rfl) (by kernel_rfl) (by kernel_rfl) (fun _ _ _ h => h) (Or.inr ⟨by rfl, rfl⟩) (by assumption) _
        try simp only [Act.put, nA, nB, nC]
        refine' wpAnyH_take (i := 9) (oi := ⟨some 31, .load 23 (.tmp 3), 23, "free.go:79", #[⟨5, .guard⟩], some (5, false)⟩) rfl (by kernel_rfl) (by kernel_rfl) (by kernel_rfl) (fun _ _ _ h => h) (Or.inr ⟨by rfl, rfl⟩) (by assumption) _
        try simp only [Act.put, nA, nB, nC]
        refine' wpAnyH_take (i := 10) (oi := ⟨some 32, .call ⟨.value (.func 18), #[.tmp 31], #[23]⟩, 3, "free.go:79", #[⟨9, .data⟩, ⟨5, .chain⟩, ⟨5, .guard⟩], some (5, false)⟩) rfl (by kernel_rfl) (by kernel_rfl) (by kernel_rfl) (fun _ _ _ h => h) (Or.inr ⟨by rfl, rfl⟩) (by assumption) _
        try simp only [Act.put, nA, nB, nC]
        refine' wpAnyH_take (i := 11) (oi := ⟨some 33, .binOp .gtr 3 (.tmp 30) (.tmp 32) 3, 4, "free.go:79", #[⟨8, .data⟩, ⟨10, .data⟩, ⟨5, .guard⟩], some (5, false)⟩) rfl (by kernel_rfl) (by kernel_rfl) (by kernel_rfl) (fun _ _ _ h => h) (Or.inr ⟨by rfl, rfl⟩) (by assumption) _
        try simp only [Act.put, nA, nB, nC]
        refine' wpAnyH_take (i := 12) (oi := ⟨some 34, .pick (.tmp 27) (.const (.bool true)) (.tmp 33), 4, "free.go:79", #[⟨5, .data⟩, ⟨11, .data⟩], none⟩) rfl (by kernel_rfl) (by kernel_rfl) (by kernel_rfl) (fun _ _ _ h => h) (Or.inl ⟨by rfl, _⟩) (by assumption) _
        rotate_left
        · (intro wS hSw; (try dsimp only at hSw); go_simp; try with_reducible rfl)
        try simp only [Act.put, nA, nB, nC]
        refine' wpAnyH_take (i := 13) (oi := ⟨some 35, .move (.tmp 34), 4, "free.go:79", #[⟨12, .data⟩, ⟨10, .chain⟩], none⟩) rfl (by kernel_rfl) (by kernel_rfl) (by kernel_rfl) (fun _ _ _ h => h) (Or.inl ⟨by rfl, _⟩) (by assumption) _
        rotate_left
        · (intro wS hSw; (try dsimp only at hSw); go_simp; try with_reducible rfl)
        try simp only [Act.put, nA, nB, nC]
        refine' wpAnyH_take (i := 14) (oi := ⟨some 36, .fieldAddr 64 (.tmp 11) 1, 0, "free.go:79", #[⟨13, .guard⟩], some (13, false)⟩) rfl (by kernel_rfl) (by kernel_rfl) (by kernel_rfl) (fun _ _ _ h => h) (Or.inr ⟨by rfl, rfl⟩) (by assumption) _
        try simp only [Act.put, nA, nB, nC]
        refine' wpAnyH_take (i := 15) (oi := ⟨some 37, .load 28 (.tmp 36), 28, "free.go:79", #[⟨14, .data⟩, ⟨13, .guard⟩], some (13, false)⟩) rfl (by kernel_rfl) (by kernel_rfl) (by kernel_rfl) (fun _ _ _ h => h) (Or.inr ⟨by rfl, rfl⟩) (by assumption) _
        try simp only [Act.put, nA, nB, nC]
        refine' wpAnyH_take (i := 16) (oi := ⟨some 38, .call ⟨.value (.func 59), #[.tmp 37], #[28]⟩, 4, "free.go:79", #[⟨15, .data⟩, ⟨13, .chain⟩, ⟨13, .guard⟩], some (13, false)⟩) rfl (by kernel_rfl) (by kernel_rfl) (by kernel_rfl) (fun _ _ _ h => h) (Or.inr ⟨by rfl, rfl⟩) (by assumption) _
        try simp only [Act.put, nA, nB, nC]
        refine' wpAnyH_take (i := 17) (oi := ⟨some 39, .unOp .not 4 (.tmp 38), 4, "free.go:79", #[⟨16, .data⟩, ⟨13, .guard⟩], some (13, false)⟩) rfl (by kernel_rfl) (by kernel_rfl) (by kernel_rfl) (fun _ _ _ h => h) (Or.inr ⟨by rfl, rfl⟩) (by assumption) _
        try simp only [Act.put, nA, nB, nC]
        refine' wpAnyH_take (i := 18) (oi := ⟨some 40, .pick (.tmp 35) (.const (.bool true)) (.tmp 39), 4, "free.go:79", #[⟨13, .data⟩, ⟨17, .data⟩], none⟩) rfl (by kernel_rfl) (by kernel_rfl) (by kernel_rfl) (fun _ _ _ h => h) (Or.inl ⟨by rfl, _⟩) (by assumption) _
        rotate_left
        · (intro wS hSw; (try dsimp only at hSw); go_simp; try with_reducible rfl)
        try simp only [Act.put, nA, nB, nC]
        refine wpAnyH_done (by kernel_rfl) ?_ _
        have hR := HNo.out _ (by rw [HS2.out]; exact if_neg (by unfold batchOk; rw [H1.out]; simp)) hHeld.2.2.2.2
        have HRR := Lib.hid hR
        clear hR hHeld
        go_wp2_with fail
        exact HRR.out
      case true =>
        obtain ⟨q2, hq2⟩ : ∃ q, decide ((xs.length : Int) ≤ E) = q := ⟨_, rfl⟩
        have H2 := Lib.hid hq2
        have hq2' : decide (E < (xs.length : Int)) = !q2 := by rw [← hq2, ← decide_not]; exact decide_eq_decide.2 (by omega)
        clear hq2
        cases q2
        case false =>
          go_upto_region 6 with fail
          refine wp_region_held_drew (S := fun W => W.cell? ⟨bb, 0, none⟩ = some (.int .u32 (pg : Int)) ∧ W.cell? ⟨bb, 1, none⟩ = some (.slice nad xs.length nc) ∧ W.cell? ⟨N, 0, none⟩ = some (.int .i64 a) ∧ W.cell? ⟨N, 1, none⟩ = some (.int .i64 b) ∧ Below N w W) (by kernel_rfl) ⟨c0, c1, f0, f1, B4.out.drew⟩ (fun hHeld => ?_)
          refine' wpAnyH_take (i := 0) (oi := ⟨some 22, .move (.tmp 9), 103, "free.go:79", #[], none⟩) rfl (by kernel_rfl) (by kernel_rfl) (by kernel_rfl) (fun _ _ _ h => h) (Or.inl ⟨by rfl, _⟩) (by assumption) _
          rotate_left
          · (intro wS hSw; (try dsimp only at hSw); go_simp; try with_reducible rfl)
          try simp only [Act.put, nA, nB, nC]
          refine' wpAnyH_take (i := 1) (oi := ⟨some 23, .fieldAddr 64 (.tmp 11) 0, 0, "free.go:79", #[], none⟩) rfl (by kernel_rfl) (by kernel_rfl) (by kernel_rfl) (fun _ _ _ h => h) (Or.inl ⟨by rfl, _⟩) (by assumption) _
          rotate_left
          · (intro wS hSw; (try dsimp only at hSw); go_simp; try with_reducible rfl)
          try simp only [Act.put, nA, nB, nC]
          refine' wpAnyH_take (i := 2) (oi := ⟨some 24, .load 27 (.tmp 23), 27, "free.go:79", #[⟨1, .data⟩], none⟩) rfl (by kernel_rfl) (by kernel_rfl) (by kernel_rfl) (fun _ _ _ h => h) (Or.inl ⟨by rfl, _⟩) (by assumption) _
          rotate_left
          · (intro wS hSw; (try dsimp only at hSw); go_simp; try with_reducible rfl)
          try simp only [Act.put, nA, nB, nC]
          refine wpAnyH_ready (rs := [3]) (by kernel_rfl) (by simp) ?_
          refine AllReadyH.cons (o := ⟨some 25, .call ⟨.value (.tmp 22), #[.tmp 24], #[27]⟩, 4, "free.go:79", #[⟨0, .data⟩, ⟨2, .data⟩], none⟩) rfl (fun K hK => ?_) AllReadyH.nil
          go_simp
          (go_at_call 86; refine (put_any _ g (g + 1) (N + 1) acc.length (fun z => acc.contains z) pages pg SM4 (by omega) hpg V4 P4 (by omega)).mono ?_; rintro e w5 ⟨rfl, s5, m5⟩; rw [H1.out]; have S5 := Lib.hid (SetM.cons s5); have M5 : Hid (Mod (fun j => j = g) w2 w5) := M4.out.drew.then m5; have hz5 : bb < w5.heap.size := (by have := m5.size; omega); clear s5)
          refine hK.out _ _ ?_ (fun hHeld => ?_)
          · exact ⟨(m5.heapc (by omega) (by omega)).trans hHeld.1, (m5.heapc (by omega) (by omega)).trans hHeld.2.1, (m5.heapc (by omega) (by omega)).trans hHeld.2.2.1, (m5.heapc (by omega) (by omega)).trans hHeld.2.2.2.1, hHeld.2.2.2.2.trans (m5.below (n := N) (fun j hj e => by omega) (by omega))⟩
          clear hK K
          try simp only [Act.put, nA, nB, nC]
          refine' wpAnyH_take (i := 4) (oi := ⟨some 26, .unOp .not 4 (.tmp 25), 4, "free.go:79", #[⟨3, .data⟩], none⟩) rfl (by kernel_rfl) (by kernel_rfl) (by kernel_rfl) (fun _ _ _ h => h) (Or.inl ⟨by rfl, _⟩) (by assumption) _
          rotate_left
          · (intro wS hSw; (try dsimp only at hSw); go_simp; try with_reducible rfl)
          try simp only [Act.put, nA, nB, nC]
          refine' wpAnyH_take (i := 5) (oi := ⟨some 27, .move (.tmp 26), 4, "free.go:79", #[⟨4, .data⟩, ⟨3, .chain⟩], none⟩) rfl (by kernel_rfl) (by kernel_rfl) (by kernel_rfl) (fun _ _ _ h => h) (Or.inl ⟨by rfl, _⟩) (by assumption) _
          rotate_left
          · (intro wS hSw; (try dsimp only at hSw); go_simp; try with_reducible rfl)
          try simp only [Act.put, nA, nB, nC]
          refine' wpAnyH_take (i := 6) (oi := ⟨some 28, .fieldAddr 64 (.tmp 11) 1, 0, "free.go:79", #[⟨5, .guard⟩], some (5, false)⟩) rfl (by kernel_rfl) (by kernel_rfl) (by kernel_rfl) (fun _ _ _ h => h) (Or.inl ⟨by rfl, _⟩) (by assumption) _
          rotate_left
          · (intro wS hSw; (try dsimp only at hSw); go_simp; try with_reducible rfl)
          try simp only [Act.put, nA, nB, nC]
          refine' wpAnyH_take (i := 7) (oi := ⟨some 29, .load 28 (.tmp 28), 28, "free.go:79", #[⟨6, .data⟩, ⟨5, .guard⟩], some (5, false)⟩) rfl (by kernel_rfl) (by kernel_rfl) (by kernel_rfl) (fun _ _ _ h => h) (Or.inl ⟨by rfl, _⟩) (by assumption) _
          rotate_left
          · (intro wS hSw; (try dsimp only at hSw); go_simp; try with_reducible rfl)
          try simp only [Act.put, nA, nB, nC]
          refine' wpAnyH_take (i := 8) (oi := ⟨some 30, .call ⟨.builtin .len, #[.tmp 29], #[28]⟩, 3, "free.go:79", #[⟨7, .data⟩, ⟨5, .guard⟩], some (5, false)⟩) rfl (by kernel_rfl) (by kernel_rfl) (by kernel_rfl) (fun _ _ _ h => h) (Or.inl ⟨by rfl, _⟩) (by assumption) _
          rotate_left
          · (intro wS hSw; (try dsimp only at hSw); go_simp; try with_reducible rfl)
          try simp only [Act.put, nA, nB, nC]
          refine' wpAnyH_take (i := 9) (oi := ⟨some 31, .load 23 (.tmp 3), 23, "free.go:79", #[⟨5, .guard⟩], some (5, false)⟩) rfl (by kernel_rfl) (by kernel_rfl) (by kernel_rfl) (fun _ _ _ h => h) (Or.inl ⟨by rfl, _⟩) (by assumption) _
          rotate_left
          · (intro wS hSw; (try dsimp only at hSw); go_simp; try with_reducible rfl)
          try simp only [Act.put, nA, nB, nC]
          refine wpAnyH_ready (rs := [10]) (by kernel_rfl) (by simp) ?_
          refine AllReadyH.cons (o := ⟨some 32, .call ⟨.value (.func 18), #[.tmp 31], #[23]⟩, 3, "free.go:79", #[⟨9, .data⟩, ⟨5, .chain⟩, ⟨5, .guard⟩], some (5, false)⟩) rfl (fun K hK => ?_) AllReadyH.nil
          go_simp
          (go_at_call 18; refine (Entries_any a b _).mono ?_; rintro e w6 ⟨rfl, b6⟩; rw [HE.out]; have M6 : Hid (Mod (fun j => j = g) w2 w6) := M5.out.then (Mod.of _ b6); have S6 : Hid (SetM w6 g (acc.length + 1) (fun z => (pg :: acc).contains z)) := S5.out.heap (b6.block g (by omega)); have hz6 : bb < w6.heap.size := by have := b6.size; omega)
          refine hK.out _ _ ?_ (fun hHeld => ?_)
          · exact ⟨(World.cell?_of_block (a := ⟨bb, 0, none⟩) (b6.block bb (by omega))).trans hHeld.1, (World.cell?_of_block (a := ⟨bb, 1, none⟩) (b6.block bb (by omega))).trans hHeld.2.1, (World.cell?_of_block (a := ⟨N, 0, none⟩) (b6.block N (by omega))).trans hHeld.2.2.1, (World.cell?_of_block (a := ⟨N, 1, none⟩) (b6.block N (by omega))).trans hHeld.2.2.2.1, hHeld.2.2.2.2.trans (b6.mono (by omega))⟩
          clear hK K
          try simp only [Act.put, nA, nB, nC]
          refine' wpAnyH_take (i := 11) (oi := ⟨some 33, .binOp .gtr 3 (.tmp 30) (.tmp 32) 3, 4, "free.go:79", #[⟨8, .data⟩, ⟨10, .data⟩, ⟨5, .guard⟩], some (5, false)⟩) rfl (by kernel_rfl) (by kernel_rfl) (by kernel_rfl) (fun _ _ _ h => h) (Or.inl ⟨by rfl, _⟩) (by assumption) _
          rotate_left
          · (intro wS hSw; (try dsimp only at hSw); go_simp; try with_reducible rfl)
          try simp only [Act.put, nA, nB, nC]
          refine' wpAnyH_take (i := 12) (oi := ⟨some 34, .pick (.tmp 27) (.const (.bool true)) (.tmp 33), 4, "free.go:79", #[⟨5, .data⟩, ⟨11, .data⟩], none⟩) rfl (by kernel_rfl) (by kernel_rfl) (by kernel_rfl) (fun _ _ _ h => h) (Or.inl ⟨by rfl, _⟩) (by assumption) _
          rotate_left
          · (intro wS hSw; (try dsimp only at hSw); go_simp; try with_reducible rfl)
          try simp only [Act.put, nA, nB, nC]
          refine' wpAnyH_take (i := 13) (oi := ⟨some 35, .move (.tmp 34), 4, "free.go:79", #[⟨12, .data⟩, ⟨10, .chain⟩], none⟩) rfl (by kernel_rfl) (by kernel_rfl) (by kernel_rfl) (fun _ _ _ h => h) (Or.inl ⟨by rfl, _⟩) (by assumption) _
          rotate_left
          · (intro wS hSw; (try dsimp only at hSw); go_simp; try with_reducible rfl)
          try simp only [Act.put, nA, nB, nC]
          refine' wpAnyH_take (i := 14) (oi := ⟨some 36, .fieldAddr 64 (.tmp 11) 1, 0, "free.go:79", #[⟨13, .guard⟩], some (13, false)⟩) rfl (by kernel_rfl) (by kernel_rfl) (by kernel_rfl) (fun _ _ _ h => h) (Or.inr ⟨by rfl, rfl⟩) (by assumption) _
          try simp only [Act.put, nA, nB, nC]
          refine' wpAnyH_take (i := 15) (oi := ⟨some 37, .load 28 (.tmp 36), 28, "free.go:79", #[⟨14, .data⟩, ⟨13, .guard⟩], some (13, false)⟩) rfl (by kernel_rfl) (by kernel_rfl) (by kernel_rfl) (fun _ _ _ h => h) (Or.inr ⟨by rfl, rfl⟩) (by assumption) _
          try simp only [Act.put, nA, nB, nC]
          refine' wpAnyH_take (i := 16) (oi := ⟨some 38, .call ⟨.value (.func 59), #[.tmp 37], #[28]⟩, 4, "free.go:79", #[⟨15, .data⟩, ⟨13, .chain⟩, ⟨13, .guard⟩], some (13, false)⟩) rfl (by kernel_rfl) (by kernel_rfl) (by kernel_rfl) (fun _ _ _ h => h) (Or.inr ⟨by rfl, rfl⟩) (by assumption) _
          try simp only [Act.put, nA, nB, nC]
          refine' wpAnyH_take (i := 17) (oi := ⟨some 39, .unOp .not 4 (.tmp 38), 4, "free.go:79", #[⟨16, .data⟩, ⟨13, .guard⟩], some (13, false)⟩) rfl (by kernel_rfl) (by kernel_rfl) (by kernel_rfl) (fun _ _ _ h => h) (Or.inr ⟨by rfl, rfl⟩) (by assumption) _
          try simp only [Act.put, nA, nB, nC]
          refine' wpAnyH_take (i := 18) (oi := ⟨some 40, .pick (.tmp 35) (.const (.bool true)) (.tmp 39), 4, "free.go:79", #[⟨13, .data⟩, ⟨17, .data⟩], none⟩) rfl (by kernel_rfl) (by kernel_rfl) (by kernel_rfl) (fun _ _ _ h => h) (Or.inl ⟨by rfl, _⟩) (by assumption) _
          rotate_left
          · (intro wS hSw; (try dsimp only at hSw); go_simp; try with_reducible rfl)
          try simp only [Act.put, nA, nB, nC]
          refine wpAnyH_done (by kernel_rfl) ?_ _
          have hR := HNo.out _ (by rw [HS2.out]; exact if_neg (by unfold batchOk; rw [H1.out, HE.out, H2.out]; simp)) hHeld.2.2.2.2
          have HRR := Lib.hid hR
          clear hR hHeld
          go_wp2_with fail
          exact HRR.out
        case true =>
          obtain ⟨q3, hq3⟩ : ∃ q, risB xs = q := ⟨_, rfl⟩
          have H3 := Lib.hid hq3
          clear hq3
          cases q3
          case false =>
            go_upto_region 6 with fail
            refine wp_region_held_drew (S := fun W => W.cell? ⟨bb, 0, none⟩ = some (.int .u32 (pg : Int)) ∧ W.cell? ⟨bb, 1, none⟩ = some (.slice nad xs.length nc) ∧ W.cell? ⟨N, 0, none⟩ = some (.int .i64 a) ∧ W.cell? ⟨N, 1, none⟩ = some (.int .i64 b) ∧ Below N w W) (by kernel_rfl) ⟨c0, c1, f0, f1, B4.out.drew⟩ (fun hHeld => ?_)
            refine' wpAnyH_take (i := 0) (oi := ⟨some 22, .move (.tmp 9), 103, "free.go:79", #[], none⟩) rfl (by kernel_rfl) (by kernel_rfl) (by kernel_rfl) (fun _ _ _ h => h) (Or.inl ⟨by rfl, _⟩) (by assumption) _
            rotate_left
            · (intro wS hSw; (try dsimp only at hSw); go_simp; try with_reducible rfl)
            try simp only [Act.put, nA, nB, nC]
            refine' wpAnyH_take (i := 1) (oi := ⟨some 23, .fieldAddr 64 (.tmp 11) 0, 0, "free.go:79", #[], none⟩) rfl (by kernel_rfl) (by kernel_rfl) (by kernel_rfl) (fun _ _ _ h => h) (Or.inl ⟨by rfl, _⟩) (by assumption) _
            rotate_left
            · (intro wS hSw; (try dsimp only at hSw); go_simp; try with_reducible rfl)
            try simp only [Act.put, nA, nB, nC]
            refine' wpAnyH_take (i := 2) (oi := ⟨some 24, .load 27 (.tmp 23), 27, "free.go:79", #[⟨1, .data⟩], none⟩) rfl (by kernel_rfl) (by kernel_rfl) (by kernel_rfl) (fun _ _ _ h => h) (Or.inl ⟨by rfl, _⟩) (by assumption) _
            rotate_left
            · (intro wS hSw; (try dsimp only at hSw); go_simp; try with_reducible rfl)
            try simp only [Act.put, nA, nB, nC]
            refine wpAnyH_ready (rs := [3]) (by kernel_rfl) (by simp) ?_
            refine AllReadyH.cons (o := ⟨some 25, .call ⟨.value (.tmp 22), #[.tmp 24], #[27]⟩, 4, "free.go:79", #[⟨0, .data⟩, ⟨2, .data⟩], none⟩) rfl (fun K hK => ?_) AllReadyH.nil
            go_simp
            (go_at_call 86; refine (put_any _ g (g + 1) (N + 1) acc.length (fun z => acc.contains z) pages pg SM4 (by omega) hpg V4 P4 (by omega)).mono ?_; rintro e w5 ⟨rfl, s5, m5⟩; rw [H1.out]; have S5 := Lib.hid (SetM.cons s5); have M5 : Hid (Mod (fun j => j = g) w2 w5) := M4.out.drew.then m5; have hz5 : bb < w5.heap.size := (by have := m5.size; omega); clear s5)
            refine hK.out _ _ ?_ (fun hHeld => ?_)
            · exact ⟨(m5.heapc (by omega) (by omega)).trans hHeld.1, (m5.heapc (by omega) (by omega)).trans hHeld.2.1, (m5.heapc (by omega) (by omega)).trans hHeld.2.2.1, (m5.heapc (by omega) (by omega)).trans hHeld.2.2.2.1, hHeld.2.2.2.2.trans (m5.below (n := N) (fun j hj e => by omega) (by omega))⟩
            clear hK K
            try simp only [Act.put, nA, nB, nC]
            refine' wpAnyH_take (i := 4) (oi := ⟨some 26, .unOp .not 4 (.tmp 25), 4, "free.go:79", #[⟨3, .data⟩], none⟩) rfl (by kernel_rfl) (by kernel_rfl) (by kernel_rfl) (fun _ _ _ h => h) (Or.inl ⟨by rfl, _⟩) (by assumption) _
            rotate_left
            · (intro wS hSw; (try dsimp only at hSw); go_simp; try with_reducible rfl)
            try simp only [Act.put, nA, nB, nC]
            refine' wpAnyH_take (i := 5) (oi := ⟨some 27, .move (.tmp 26), 4, "free.go:79", #[⟨4, .data⟩, ⟨3, .chain⟩], none⟩) rfl (by kernel_rfl) (by kernel_rfl) (by kernel_rfl) (fun _ _ _ h => h) (Or.inl ⟨by rfl, _⟩) (by assumption) _
            rotate_left
            · (intro wS hSw; (try dsimp only at hSw); go_simp; try with_reducible rfl)
            try simp only [Act.put, nA, nB, nC]
            refine' wpAnyH_take (i := 6) (oi := ⟨some 28, .fieldAddr 64 (.tmp 11) 1, 0, "free.go:79", #[⟨5, .guard⟩], some (5, false)⟩) rfl (by kernel_rfl) (by kernel_rfl) (by kernel_rfl) (fun _ _ _ h => h) (Or.inl ⟨by rfl, _⟩) (by assumption) _
            rotate_left
            · (intro wS hSw; (try dsimp only at hSw); go_simp; try with_reducible rfl)
            try simp only [Act.put, nA, nB, nC]
            refine' wpAnyH_take (i := 7) (oi := ⟨some 29, .load 28 (.tmp 28), 28, "free.go:79", #[⟨6, .data⟩, ⟨5, .guard⟩], some (5, false)⟩) rfl (by kernel_rfl) (by kernel_rfl) (by kernel_rfl) (fun _ _ _ h => h) (Or.inl ⟨by rfl, _⟩) (by assumption) _
            rotate_left
            · (intro wS hSw; (try dsimp only at hSw); go_simp; try with_reducible rfl)
            try simp only [Act.put, nA, nB, nC]
            refine' wpAnyH_take (i := 8) (oi := ⟨some 30, .call ⟨.builtin .len, #[.tmp 29], #[28]⟩, 3, "free.go:79", #[⟨7, .data⟩, ⟨5, .guard⟩], some (5, false)⟩) rfl (by kernel_rfl) (by kernel_rfl) (by kernel_rfl) (fun _ _ _ h => h) (Or.inl ⟨by rfl, _⟩) (by assumption) _
            rotate_left
            · (intro wS hSw; (try dsimp only at hSw); go_simp; try with_reducible rfl)
            try simp only [Act.put, nA, nB, nC]
            refine' wpAnyH_take (i := 9) (oi := ⟨some 31, .load 23 (.tmp 3), 23, "free.go:79", #[⟨5, .guard⟩], some (5, false)⟩) rfl (by kernel_rfl) (by kernel_rfl) (by kernel_rfl) (fun _ _ _ h => h) (Or.inl ⟨by rfl, _⟩) (by assumption) _
            rotate_left
            · (intro wS hSw; (try dsimp only at hSw); go_simp; try with_reducible rfl)
            try simp only [Act.put, nA, nB, nC]
            refine wpAnyH_ready (rs := [10]) (by kernel_rfl) (by simp) ?_
            refine AllReadyH.cons (o := ⟨some 32, .call ⟨.value (.func 18), #[.tmp 31], #[23]⟩, 3, "free.go:79", #[⟨9, .data⟩, ⟨5, .chain⟩, ⟨5, .guard⟩], some (5, false)⟩) rfl (fun K hK => ?_) AllReadyH.nil
            go_simp
            (go_at_call 18; refine (Entries_any a b _).mono ?_; rintro e w6 ⟨rfl, b6⟩; rw [HE.out]; have M6 : Hid (Mod (fun j => j = g) w2 w6) := M5.out.then (Mod.of _ b6); have S6 : Hid (SetM w6 g (acc.length + 1) (fun z => (pg :: acc).contains z)) := S5.out.heap (b6.block g (by omega)); have hz6 : bb < w6.heap.size := by have := b6.size; omega)
            refine hK.out _ _ ?_ (fun hHeld => ?_)
            · exact ⟨(World.cell?_of_block (a := ⟨bb, 0, none⟩) (b6.block bb (by omega))).trans hHeld.1, (World.cell?_of_block (a := ⟨bb, 1, none⟩) (b6.block bb (by omega))).trans hHeld.2.1, (World.cell?_of_block (a := ⟨N, 0, none⟩) (b6.block N (by omega))).trans hHeld.2.2.1, (World.cell?_of_block (a := ⟨N, 1, none⟩) (b6.block N (by omega))).trans hHeld.2.2.2.1, hHeld.2.2.2.2.trans (b6.mono (by omega))⟩
            clear hK K
            try simp only [Act.put, nA, nB, nC]
            refine' wpAnyH_take (i := 11) (oi := ⟨some 33, .binOp .gtr 3 (.tmp 30) (.tmp 32) 3, 4, "free.go:79", #[⟨8, .data⟩, ⟨10, .data⟩, ⟨5, .guard⟩], some (5, false)⟩) rfl (by kernel_rfl) (by kernel_rfl) (by kernel_rfl) (fun _ _ _ h => h) (Or.inl ⟨by rfl, _⟩) (by assumption) _
            rotate_left
            · (intro wS hSw; (try dsimp only at hSw); go_simp; try with_reducible rfl)
            try simp only [Act.put, nA, nB, nC]
            refine' wpAnyH_take (i := 12) (oi := ⟨some 34, .pick (.tmp 27) (.const (.bool true)) (.tmp 33), 4, "free.go:79", #[⟨5, .data⟩, ⟨11, .data⟩], none⟩) rfl (by kernel_rfl) (by kernel_rfl) (by kernel_rfl) (fun _ _ _ h => h) (Or.inl ⟨by rfl, _⟩) (by assumption) _
            rotate_left
            · (intro wS hSw; (try dsimp only at hSw); go_simp; try with_reducible rfl)
            try simp only [Act.put, nA, nB, nC]
            refine' wpAnyH_take (i := 13) (oi := ⟨some 35, .move (.tmp 34), 4, "free.go:79", #[⟨12, .data⟩, ⟨10, .chain⟩], none⟩) rfl (by kernel_rfl) (by kernel_rfl) (by kernel_rfl) (fun _ _ _ h => h) (Or.inl ⟨by rfl, _⟩) (by assumption) _
            rotate_left
            · (intro wS hSw; (try dsimp only at hSw); go_simp; try with_reducible rfl)
            try simp only [Act.put, nA, nB, nC]
            refine' wpAnyH_take (i := 14) (oi := ⟨some 36, .fieldAddr 64 (.tmp 11) 1, 0, "free.go:79", #[⟨13, .guard⟩], some (13, false)⟩) rfl (by kernel_rfl) (by kernel_rfl) (by kernel_rfl) (fun _ _ _ h => h) (Or.inl ⟨by rfl, _⟩) (by assumption) _
            rotate_left
            · (intro wS hSw; (try dsimp only at hSw); go_simp; try with_reducible rfl)
            try simp only [Act.put, nA, nB, nC]
            refine' wpAnyH_take (i := 15) (oi := ⟨some 37, .load 28 (.tmp 36), 28, "free.go:79", #[⟨14, .data⟩, ⟨13, .guard⟩], some (13, false)⟩) rfl (by kernel_rfl) (by kernel_rfl) (by kernel_rfl) (fun _ _ _ h => h) (Or.inl ⟨by rfl, _⟩) (by assumption) _
            rotate_left
            · (intro wS hSw; (try dsimp only at hSw); go_simp; try with_reducible rfl)
            try simp only [Act.put, nA, nB, nC]
            refine wpAnyH_ready (rs := [16]) (by kernel_rfl) (by simp) ?_
            refine AllReadyH.cons (o := ⟨some 38, .call ⟨.value (.func 59), #[.tmp 37], #[28]⟩, 4, "free.go:79", #[⟨15, .data⟩, ⟨13, .chain⟩, ⟨13, .guard⟩], some (13, false)⟩) rfl (fun K hK => ?_) AllReadyH.nil
            go_simp
            (go_at_call 59; refine (rising_any _ xs _ (Lib.hid (HU.out.below (by rw [HN.out]; exact hHeld.2.2.2.2)))).mono ?_; rintro e w7 ⟨rfl, b7⟩; rw [H3.out]; have M7 : Hid (Mod (fun j => j = g) w2 w7) := M6.out.then (Mod.of _ b7); have S7 : Hid (SetM w7 g (acc.length + 1) (fun z => (pg :: acc).contains z)) := S6.out.heap (b7.block g (by omega)); have hz7 : bb < w7.heap.size := (by have := b7.size; omega))
            refine hK.out _ _ ?_ (fun hHeld => ?_)
            · exact ⟨(World.cell?_of_block (a := ⟨bb, 0, none⟩) (b7.block bb (by omega))).trans hHeld.1, (World.cell?_of_block (a := ⟨bb, 1, none⟩) (b7.block bb (by omega))).trans hHeld.2.1, (World.cell?_of_block (a := ⟨N, 0, none⟩) (b7.block N (by omega))).trans hHeld.2.2.1, (World.cell?_of_block (a := ⟨N, 1, none⟩) (b7.block N (by omega))).trans hHeld.2.2.2.1, hHeld.2.2.2.2.trans (b7.mono (by omega))⟩
            clear hK K
            try simp only [Act.put, nA, nB, nC]
            refine' wpAnyH_take (i := 17) (oi := ⟨some 39, .unOp .not 4 (.tmp 38), 4, "free.go:79", #[⟨16, .data⟩, ⟨13, .guard⟩], some (13, false)⟩) rfl (by kernel_rfl) (by kernel_rfl) (by kernel_rfl) (fun _ _ _ h => h) (Or.inl ⟨by rfl, _⟩) (by assumption) _
            rotate_left
            · (intro wS hSw; (try dsimp only at hSw); go_simp; try with_reducible rfl)
            try simp only [Act.put, nA, nB, nC]
            refine' wpAnyH_take (i := 18) (oi := ⟨some 40, .pick (.tmp 35) (.const (.bool true)) (.tmp 39), 4, "free.go:79", #[⟨13, .data⟩, ⟨17, .data⟩], none⟩) rfl (by kernel_rfl) (by kernel_rfl) (by kernel_rfl) (fun _ _ _ h => h) (Or.inl ⟨by rfl, _⟩) (by assumption) _
            rotate_left
            · (intro wS hSw; (try dsimp only at hSw); go_simp; try with_reducible rfl)
            try simp only [Act.put, nA, nB, nC]
            refine wpAnyH_done (by kernel_rfl) ?_ _
            have hR := HNo.out _ (by rw [HS2.out]; exact if_neg (by unfold batchOk; rw [H1.out, HE.out, H2.out, H3.out]; simp)) hHeld.2.2.2.2
            have HRR := Lib.hid hR
            clear hR hHeld
            go_wp2_with fail
            exact HRR.out
          case true =>
            go_upto_region 6 with fail
            refine wp_region_held_drew (S := fun W => W.cell? ⟨bb, 0, none⟩ = some (.int .u32 (pg : Int)) ∧ W.cell? ⟨bb, 1, none⟩ = some (.slice nad xs.length nc) ∧ W.cell? ⟨N, 0, none⟩ = some (.int .i64 a) ∧ W.cell? ⟨N, 1, none⟩ = some (.int .i64 b) ∧ Below N w W) (by kernel_rfl) ⟨c0, c1, f0, f1, B4.out.drew⟩ (fun hHeld => ?_)
            refine' wpAnyH_take (i := 0) (oi := ⟨some 22, .move (.tmp 9), 103, "free.go:79", #[], none⟩) rfl (by kernel_rfl) (by kernel_rfl) (by kernel_rfl) (fun _ _ _ h => h) (Or.inl ⟨by rfl, _⟩) (by assumption) _
            rotate_left
            · (intro wS hSw; (try dsimp only at hSw); go_simp; try with_reducible rfl)
            try simp only [Act.put, nA, nB, nC]
            refine' wpAnyH_take (i := 1) (oi := ⟨some 23, .fieldAddr 64 (.tmp 11) 0, 0, "free.go:79", #[], none⟩) rfl (by kernel_rfl) (by kernel_rfl) (by kernel_rfl) (fun _ _ _ h => h) (Or.inl ⟨by rfl, _⟩) (by assumption) _
            rotate_left
            · (intro wS hSw; (try dsimp only at hSw); go_simp; try with_reducible rfl)
            try simp only [Act.put, nA, nB, nC]
            refine' wpAnyH_take (i := 2) (oi := ⟨some 24, .load 27 (.tmp 23), 27, "free.go:79", #[⟨1, .data⟩], none⟩) rfl (by kernel_rfl) (by kernel_rfl) (by kernel_rfl) (fun _ _ _ h => h) (Or.inl ⟨by rfl, _⟩) (by assumption) _
            rotate_left
            · (intro wS hSw; (try dsimp only at hSw); go_simp; try with_reducible rfl)
            try simp only [Act.put, nA, nB, nC]
            refine wpAnyH_ready (rs := [3]) (by kernel_rfl) (by simp) ?_
            refine AllReadyH.cons (o := ⟨some 25, .call ⟨.value (.tmp 22), #[.tmp 24], #[27]⟩, 4, "free.go:79", #[⟨0, .data⟩, ⟨2, .data⟩], none⟩) rfl (fun K hK => ?_) AllReadyH.nil
            go_simp
            (go_at_call 86; refine (put_any _ g (g + 1) (N + 1) acc.length (fun z => acc.contains z) pages pg SM4 (by omega) hpg V4 P4 (by omega)).mono ?_; rintro e w5 ⟨rfl, s5, m5⟩; rw [H1.out]; have S5 := Lib.hid (SetM.cons s5); have M5 : Hid (Mod (fun j => j = g) w2 w5) := M4.out.drew.then m5; have hz5 : bb < w5.heap.size := (by have := m5.size; omega); clear s5)
            refine hK.out _ _ ?_ (fun hHeld => ?_)
            · exact ⟨(m5.heapc (by omega) (by omega)).trans hHeld.1, (m5.heapc (by omega) (by omega)).trans hHeld.2.1, (m5.heapc (by omega) (by omega)).trans hHeld.2.2.1, (m5.heapc (by omega) (by omega)).trans hHeld.2.2.2.1, hHeld.2.2.2.2.trans (m5.below (n := N) (fun j hj e => by omega) (by omega))⟩
            clear hK K
            try simp only [Act.put, nA, nB, nC]
            refine' wpAnyH_take (i := 4) (oi := ⟨some 26, .unOp .not 4 (.tmp 25), 4, "free.go:79", #[⟨3, .data⟩], none⟩) rfl (by kernel_rfl) (by kernel_rfl) (by kernel_rfl) (fun _ _ _ h => h) (Or.inl ⟨by rfl, _⟩) (by assumption) _
            rotate_left
            · (intro wS hSw; (try dsimp only at hSw); go_simp; try with_reducible rfl)
            try simp only [Act.put, nA, nB, nC]
            refine' wpAnyH_take (i := 5) (oi := ⟨some 27, .move (.tmp 26), 4, "free.go:79", #[⟨4, .data⟩, ⟨3, .chain⟩], none⟩) rfl (by kernel_rfl) (by kernel_rfl) (by kernel_rfl) (fun _ _ _ h => h) (Or.inl ⟨by rfl, _⟩) (by assumption) _
            rotate_left
            · (intro wS hSw; (try dsimp only at hSw); go_simp; try with_reducible rfl)
            try simp only [Act.put, nA, nB, nC]
            refine' wpAnyH_take (i := 6) (oi := ⟨some 28, .fieldAddr 64 (.tmp 11) 1, 0, "free.go:79", #[⟨5, .guard⟩], some (5, false)⟩) rfl (by kernel_rfl) (by kernel_rfl) (by kernel_rfl) (fun _ _ _ h => h) (Or.inl ⟨by rfl, _⟩) (by assumption) _
            rotate_left
            · (intro wS hSw; (try dsimp only at hSw); go_simp; try with_reducible rfl)
            try simp only [Act.put, nA, nB, nC]
            refine' wpAnyH_take (i := 7) (oi := ⟨some 29, .load 28 (.tmp 28), 28, "free.go:79", #[⟨6, .data⟩, ⟨5, .guard⟩], some (5, false)⟩) rfl (by kernel_rfl) (by kernel_rfl) (by kernel_rfl) (fun _ _ _ h => h) (Or.inl ⟨by rfl, _⟩) (by assumption) _
            rotate_left
            · (intro wS hSw; (try dsimp only at hSw); go_simp; try with_reducible rfl)
            try simp only [Act.put, nA, nB, nC]
            refine' wpAnyH_take (i := 8) (oi := ⟨some 30, .call ⟨.builtin .len, #[.tmp 29], #[28]⟩, 3, "free.go:79", #[⟨7, .data⟩, ⟨5, .guard⟩], some (5, false)⟩) rfl (by kernel_rfl) (by kernel_rfl) (by kernel_rfl) (fun _ _ _ h => h) (Or.inl ⟨by rfl, _⟩) (by assumption) _
            rotate_left
            · (intro wS hSw; (try dsimp only at hSw); go_simp; try with_reducible rfl)
            try simp only [Act.put, nA, nB, nC]
            refine' wpAnyH_take (i := 9) (oi := ⟨some 31, .load 23 (.tmp 3), 23, "free.go:79", #[⟨5, .guard⟩], some (5, false)⟩) rfl (by kernel_rfl) (by kernel_rfl) (by kernel_rfl) (fun _ _ _ h => h) (Or.inl ⟨by rfl, _⟩) (by assumption) _
            rotate_left
            · (intro wS hSw; (try dsimp only at hSw); go_simp; try with_reducible rfl)
            try simp only [Act.put, nA, nB, nC]
            refine wpAnyH_ready (rs := [10]) (by kernel_rfl) (by simp) ?_
            refine AllReadyH.cons (o := ⟨some 32, .call ⟨.value (.func 18), #[.tmp 31], #[23]⟩, 3, "free.go:79", #[⟨9, .data⟩, ⟨5, .chain⟩, ⟨5, .guard⟩], some (5, false)⟩) rfl (fun K hK => ?_) AllReadyH.nil
            go_simp
            (go_at_call 18; refine (Entries_any a b _).mono ?_; rintro e w6 ⟨rfl, b6⟩; rw [HE.out]; have M6 : Hid (Mod (fun j => j = g) w2 w6) := M5.out.then (Mod.of _ b6); have S6 : Hid (SetM w6 g (acc.length + 1) (fun z => (pg :: acc).contains z)) := S5.out.heap (b6.block g (by omega)); have hz6 : bb < w6.heap.size := by have := b6.size; omega)
            refine hK.out _ _ ?_ (fun hHeld => ?_)
            · exact ⟨(World.cell?_of_block (a := ⟨bb, 0, none⟩) (b6.block bb (by omega))).trans hHeld.1, (World.cell?_of_block (a := ⟨bb, 1, none⟩) (b6.block bb (by omega))).trans hHeld.2.1, (World.cell?_of_block (a := ⟨N, 0, none⟩) (b6.block N (by omega))).trans hHeld.2.2.1, (World.cell?_of_block (a := ⟨N, 1, none⟩) (b6.block N (by omega))).trans hHeld.2.2.2.1, hHeld.2.2.2.2.trans (b6.mono (by omega))⟩
            clear hK K
            try simp only [Act.put, nA, nB, nC]
            refine' wpAnyH_take (i := 11) (oi := ⟨some 33, .binOp .gtr 3 (.tmp 30) (.tmp 32) 3, 4, "free.go:79", #[⟨8, .data⟩, ⟨10, .data⟩, ⟨5, .guard⟩], some (5, false)⟩) rfl (by kernel_rfl) (by kernel_rfl) (by kernel_rfl) (fun _ _ _ h => h) (Or.inl ⟨by rfl, _⟩) (by assumption) _
            rotate_left
            · (intro wS hSw; (try dsimp only at hSw); go_simp; try with_reducible rfl)
            try simp only [Act.put, nA, nB, nC]
            refine' wpAnyH_take (i := 12) (oi := ⟨some 34, .pick (.tmp 27) (.const (.bool true)) (.tmp 33), 4, "free.go:79", #[⟨5, .data⟩, ⟨11, .data⟩], none⟩) rfl (by kernel_rfl) (by kernel_rfl) (by kernel_rfl) (fun _ _ _ h => h) (Or.inl ⟨by rfl, _⟩) (by assumption) _
            rotate_left
            · (intro wS hSw; (try dsimp only at hSw); go_simp; try with_reducible rfl)
            try simp only [Act.put, nA, nB, nC]
            refine' wpAnyH_take (i := 13) (oi := ⟨some 35, .move (.tmp 34), 4, "free.go:79", #[⟨12, .data⟩, ⟨10, .chain⟩], none⟩) rfl (by kernel_rfl) (by kernel_rfl) (by kernel_rfl) (fun _ _ _ h => h) (Or.inl ⟨by rfl, _⟩) (by assumption) _
            rotate_left
            · (intro wS hSw; (try dsimp only at hSw); go_simp; try with_reducible rfl)
            try simp only [Act.put, nA, nB, nC]
            refine' wpAnyH_take (i := 14) (oi := ⟨some 36, .fieldAddr 64 (.tmp 11) 1, 0, "free.go:79", #[⟨13, .guard⟩], some (13, false)⟩) rfl (by kernel_rfl) (by kernel_rfl) (by kernel_rfl) (fun _ _ _ h => h) (Or.inl ⟨by rfl, _⟩) (by assumption) _
            rotate_left
            · (intro wS hSw; (try dsimp only at hSw); go_simp; try with_reducible rfl)
            try simp only [Act.put, nA, nB, nC]
            refine' wpAnyH_take (i := 15) (oi := ⟨some 37, .load 28 (.tmp 36), 28, "free.go:79", #[⟨14, .data⟩, ⟨13, .guard⟩], some (13, false)⟩) rfl (by kernel_rfl) (by kernel_rfl) (by kernel_rfl) (fun _ _ _ h => h) (Or.inl ⟨by rfl, _⟩) (by assumption) _
            rotate_left
            · (intro wS hSw; (try dsimp only at hSw); go_simp; try with_reducible rfl)
            try simp only [Act.put, nA, nB, nC]
            refine wpAnyH_ready (rs := [16]) (by kernel_rfl) (by simp) ?_
            refine AllReadyH.cons (o := ⟨some 38, .call ⟨.value (.func 59), #[.tmp 37], #[28]⟩, 4, "free.go:79", #[⟨15, .data⟩, ⟨13, .chain⟩, ⟨13, .guard⟩], some (13, false)⟩) rfl (fun K hK => ?_) AllReadyH.nil
            go_simp
            (go_at_call 59; refine (rising_any _ xs _ (Lib.hid (HU.out.below (by rw [HN.out]; exact hHeld.2.2.2.2)))).mono ?_; rintro e w7 ⟨rfl, b7⟩; rw [H3.out]; have M7 : Hid (Mod (fun j => j = g) w2 w7) := M6.out.then (Mod.of _ b7); have S7 : Hid (SetM w7 g (acc.length + 1) (fun z => (pg :: acc).contains z)) := S6.out.heap (b7.block g (by omega)); have hz7 : bb < w7.heap.size := (by have := b7.size; omega))
            refine hK.out _ _ ?_ (fun hHeld => ?_)
            · exact ⟨(World.cell?_of_block (a := ⟨bb, 0, none⟩) (b7.block bb (by omega))).trans hHeld.1, (World.cell?_of_block (a := ⟨bb, 1, none⟩) (b7.block bb (by omega))).trans hHeld.2.1, (World.cell?_of_block (a := ⟨N, 0, none⟩) (b7.block N (by omega))).trans hHeld.2.2.1, (World.cell?_of_block (a := ⟨N, 1, none⟩) (b7.block N (by omega))).trans hHeld.2.2.2.1, hHeld.2.2.2.2.trans (b7.mono (by omega))⟩
            clear hK K
            try simp only [Act.put, nA, nB, nC]
            refine' wpAnyH_take (i := 17) (oi := ⟨some 39, .unOp .not 4 (.tmp 38), 4, "free.go:79", #[⟨16, .data⟩, ⟨13, .guard⟩], some (13, false)⟩) rfl (by kernel_rfl) (by kernel_rfl) (by kernel_rfl) (fun _ _ _ h => h) (Or.inl ⟨by rfl, _⟩) (by assumption) _
            rotate_left
            · (intro wS hSw; (try dsimp only at hSw); go_simp; try with_reducible rfl)
            try simp only [Act.put, nA, nB, nC]
            refine' wpAnyH_take (i := 18) (oi := ⟨some 40, .pick (.tmp 35) (.const (.bool true)) (.tmp 39), 4, "free.go:79", #[⟨13, .data⟩, ⟨17, .data⟩], none⟩) rfl (by kernel_rfl) (by kernel_rfl) (by kernel_rfl) (fun _ _ _ h => h) (Or.inl ⟨by rfl, _⟩) (by assumption) _
            rotate_left
            · (intro wS hSw; (try dsimp only at hSw); go_simp; try with_reducible rfl)
            try simp only [Act.put, nA, nB, nC]
            refine wpAnyH_done (by kernel_rfl) ?_ _
            have hs3 := HS2.out
            rw [if_pos (by unfold batchOk; rw [H1.out, HE.out, H2.out, H3.out]; rfl)] at hs3
            have HS3 := Lib.hid hs3
            have MT7 : Hid (Met pages (pg :: acc)) := MT.out.cons H1.out
            have n1 := hHeld.2.1
            have B7 := Lib.hid hHeld.2.2.2.2
            clear hs3 hHeld HS2 S5 S6 M5 M6 c0 c1 f0 f1
            go_upto_region 9 with fail
            clear n1
            obtain ⟨wo, hwo⟩ : ∃ W, wr = W := ⟨_, rfl⟩
            go_loopw [44] (fun iv wr => ∃ (j : Nat) (ac : List Nat), j ≤ xs.length ∧ Hid (numsGo pages xs (pg :: acc) = numsGo pages (xs.drop j) ac) ∧ Hid (SetM wr g ac.length (fun z => ac.contains z)) ∧ Hid (Met pages ac) ∧ Hid (Mod (fun j => j = g) w7 wr) ∧ iv = .int .i64 (j : Int)) (fun iv _ => xs.length - (intOf iv).toNat)
            case atStart => exact ⟨0, pg :: acc, Nat.zero_le _, rfl, S7, MT7, Mod.refl _ _, rfl⟩
            case round =>
              obtain ⟨j, ac, hj, HG2, SJ, MJ, MB, rfl⟩ := hrel
              have hz8 : bb < wr.heap.size := by have := MB.out.size; omega
              have MA : Hid (Mod (fun j => j = g) w2 wr) := M7.out.then MB.out
              by_cases hjx : j < xs.length
              case pos =>
                have ij : (j : Int) < (xs.length : Int) := by omega
                have BJ : Hid (Below N w wr) := B7.out.trans (MB.out.below (n := N) (fun j hj e => by omega) (by omega))
                have hu2 := HU.out.below (by rw [HN.out]; exact BJ.out)
                obtain ⟨ad9, c9, e9, _, hx9⟩ := hu2.form
                obtain ⟨nb, no, e8, hcs⟩ := hx9 (by omega)
                have e7 := (Value.slice.inj e9).1
                rw [e8] at e7
                subst e7
                have hc := hcs j hjx
                have hxl := HU.out.1 _ (List.getElem_mem hjx)
                have hg3 := HG2.out
                rw [numsGo_drop hjx] at hg3
                obtain ⟨y, hy⟩ : ∃ y, xs[j] = y := ⟨_, rfl⟩
                rw [hy] at hc hxl hg3
                unfold uN at hc
                have HG3 := Lib.hid hg3
                have PJ : Hid (wr.heap[N + 1]? = some (.cells #[.int .u32 (pages : Int)] 27 (0, 0))) := MA.out.heap P2.out (by omega)
                have VJ : Hid (wr.heap[g + 1]? = some (.cells #[.map (some g)] 60 (0, 0))) := MA.out.heap V2.out (by omega)
                have hmj := MJ.out.le
                obtain ⟨q4, hq4⟩ : ∃ q, freshB (fun z => ac.contains z) pages y = q := ⟨_, rfl⟩
                have H4 := Lib.hid hq4
                clear hq4 hg3 hy hcs e9 e8 hu2 hx9
                go_upto_region 11 with fail
                clear hc
                with_reducible refine wp_region_list ?_
                (with_reducible refine wpList_plain rfl ?_); intro K hK; go_simp; (with_reducible refine hK _ _ ?_); clear hK K; try simp only [Act.put, nA, nB, nC]
                (with_reducible refine wpList_plain rfl ?_); intro K hK; go_simp; (with_reducible refine hK _ _ ?_); clear hK K; try simp only [Act.put, nA, nB, nC]
                with_reducible refine wpList_plain rfl ?_
                intro K hK
                go_simp
                (go_at_call 86; refine (put_any _ g (g + 1) (N + 1) ac.length (fun z => ac.contains z) pages y SJ (by omega) hxl VJ PJ (by omega)).mono ?_; rintro e w9 ⟨rfl, s9, m9⟩; rw [H4.out]; have S9 := Lib.hid (SetM.cons s9); have M9 : Hid (Mod (fun j => j = g) w7 w9) := MB.out.then m9; clear s9 m9)
                first | with_reducible refine hK _ _ ?_ | refine hK _ _ ?_
                clear hK K
                (try simp only [Act.put, nA, nB, nC])
                (with_reducible refine wpList_plain rfl ?_); intro K hK; go_simp; (with_reducible refine hK _ _ ?_); clear hK K; try simp only [Act.put, nA, nB, nC]
                cases q4
                case false =>
                  have hR := HNo.out w9 (by rw [HS3.out, HG3.out, if_neg (by rw [H4.out]; simp)]) (B7.out.trans (M9.out.below (n := N) (fun j hj e => by omega) (by omega)))
                  have HRR := Lib.hid hR
                  clear hR
                  go_wp2_with fail
                  exact HRR.out
                case true =>
                  have HG4 := HG3.out
                  rw [if_pos H4.out] at HG4
                  have HG5 : Hid (numsGo pages xs (pg :: acc) = numsGo pages (xs.drop (j + 1)) (y :: ac)) := HG4
                  have MJ5 : Hid (Met pages (y :: ac)) := MJ.out.cons H4.out
                  clear HG4 HG2 HG3
                  go_wp2_with fail
                  exact ⟨⟨j + 1, y :: ac, by omega, HG5, S9, MJ5, M9, by go_num⟩, by simp [intOf]; omega⟩
              case neg =>
                have ij : ¬ (j : Int) < (xs.length : Int) := by omega
                obtain rfl : j = xs.length := by omega
                have hg3 := HG2.out
                rw [List.drop_length, numsGo] at hg3
                have hs4 := HS3.out
                rw [hg3] at hs4
                have HS4 : Hid (seenGo (entI a b) pages cs [] = seenGo (entI a b) pages (cs.drop (k + 1)) ac) := hs4
                clear hg3 hs4 HS3 HG2
                go_wp2_with fail
                exact ⟨⟨k + 1, ac, by omega, HS4, SJ, MJ, MA, by go_num⟩, by simp [intOf]; omega⟩
    case neg =>
      have dk : decide (k < cs.length) = false := decide_eq_false hlt
      have dk2 : decide ((k : Int) < (cs.length : Int)) = false := decide_eq_false (by omega)
      obtain rfl : k = cs.length := by omega
      have hs3 := HS.out
      rw [List.drop_length, seenGo] at hs3
      have hR := HYes.out wr.drew acc g hs3 (by omega) SM.out (B2.out.trans (MW.out.below (n := N) (fun j hj e => by omega) (by have := Z2.out; omega))).drew
      have hR2 := HYes.out wr acc g hs3 (by omega) SM.out (B2.out.trans (MW.out.below (n := N) (fun j hj e => by omega) (by have := Z2.out; omega)))
      have HRR := Lib.hid hR
      have HRR2 := Lib.hid hR2
      have VW : Hid (wr.heap[g + 1]? = some (.cells #[.map (some g)] 60 (0, 0))) := MW.out.heap V2.out (by omega)
      have v0 := heap_cell VW.out (o := 0)
      clear hR hR2 hs3
      go_wp2_with fail
      first | exact HRR2.out | exact HRR.out
end Go.Proofs.Ytkngmnfgdlnddaa

namespace Go.Proofs.Ytkngmnfgdlnddaa
open Go.RowKit Go.Lib Hw Go.Maps
set_option linter.unusedVariables false

def SamePost (q : Bool) (w : World) (e : Ending) (w' : World) : Prop := e = .returned (.bool q) ∧ Below w.heap.size w w'
theorem below_dN (w : World) (q : Nat) : Below w.heap.size w (w.drewN q) := ⟨rfl, rfl, rfl, Nat.le_refl _, fun _ _ => rfl⟩
set_option maxHeartbeats 4000000 in
theorem SameNumbers_any (u v : Value) (xs ys : List Nat) (w : World) (hu : Hid (URow w u xs)) (hv : Hid (URow w v ys)) :
    Calls Try.prog 27 #[u, v] w (SamePost (decide (xs = ys)) w) := by
  obtain ⟨ad, c, hu1, hl, _⟩ := hu.out.form
  obtain ⟨bd, d, hv1, hm, _⟩ := hv.out.form
  subst hu1 hv1
  obtain ⟨R, hR⟩ : ∃ R, SamePost (decide (xs = ys)) w = R := ⟨_, rfl⟩
  have HNo : Hid (∀ W, xs ≠ ys → Below w.heap.size w W → R (.returned (.bool false)) W) := fun W h1 h2 => by
    rw [← hR, decide_eq_false h1]
    exact ⟨rfl, h2⟩
  have HYes : Hid (∀ W, xs = ys → Below w.heap.size w W → R (.returned (.bool true)) W) := fun W h1 h2 => by
    rw [← hR, decide_eq_true h1]
    exact ⟨rfl, h2⟩
  rw [hR]
  clear hR
  by_cases hlen : xs.length = ys.length
  case neg =>
    have e1 : ((xs.length : Int) != (ys.length : Int)) = true := by simp; omega
    have hR := HNo.out w (fun e => hlen (by rw [e])) (Below.refl _ _)
    have HR := Lib.hid hR
    clear hR hlen
    go_enter Try.func27, Try.ntmps27
    go_wp2_with fail
    exact HR.out
  case pos =>
    obtain ⟨n, hn⟩ : ∃ n, ys.length = n := ⟨_, rfl⟩
    have HN := Lib.hid hn
    have HM : Hid (xs.length = n) := hlen.trans hn
    rw [hn] at hv hm ⊢
    rw [hlen, hn] at hu hl ⊢
    clear hlen hn
    have e1 : ((n : Int) != (n : Int)) = false := by simp
    go_enter Try.func27, Try.ntmps27
    go_upto_region 4 with fail
    clear e1
    go_loopw [5] (fun iv wr => ∃ (k : Nat), k ≤ n ∧ Hid (xs.take k = ys.take k) ∧ Hid (Below w.heap.size w wr) ∧ iv = .int .i64 (k : Int)) (fun iv _ => n - (intOf iv).toNat)
    case atStart => exact ⟨0, Nat.zero_le _, by show _ = _; rw [List.take_zero, List.take_zero], Below.refl _ _, rfl⟩
    case round =>
      obtain ⟨k, hk, HT, HB, rfl⟩ := hrel
      by_cases hlt : k < n
      case neg =>
        have ik : ¬ (k : Int) < (n : Int) := by omega
        have hR := HYes.out wr (by
          have h := HT.out
          rw [List.take_of_length_le (by rw [HM.out]; omega), List.take_of_length_le (by rw [HN.out]; omega)] at h
          exact h) HB.out
        have HR := Lib.hid hR
        clear hR
        go_wp2_with fail
        exact HR.out
      case pos =>
        have ik : (k : Int) < (n : Int) := by omega
        have hkx : k < xs.length := by rw [HM.out]; exact hlt
        have hky : k < ys.length := by rw [HN.out]; exact hlt
        obtain ⟨a1, c1, e1, _, g1⟩ := (hu.out.below HB.out).form
        obtain ⟨b1, o1, e2, hc1⟩ := g1 (by omega)
        have e3 := (Value.slice.inj e1).1
        rw [e2] at e3
        subst e3
        obtain ⟨a2, c2, e4, _, g2⟩ := (hv.out.below HB.out).form
        obtain ⟨b2, o2, e5, hc2⟩ := g2 (by omega)
        have e6 := (Value.slice.inj e4).1
        rw [e5] at e6
        subst e6
        have h1 := hc1 k hkx
        have h2 := hc2 k hky
        have t1 := List.take_succ_eq_append_getElem hkx
        have t2 := List.take_succ_eq_append_getElem hky
        have HK : Hid (k < xs.length ∧ k < ys.length) := ⟨hkx, hky⟩
        obtain ⟨x, hx⟩ : ∃ x, xs[k] = x := ⟨_, rfl⟩
        obtain ⟨y, hy⟩ : ∃ x, ys[k] = x := ⟨_, rfl⟩
        have HX : Hid (∃ h : k < xs.length, xs[k] = x) := ⟨hkx, hx⟩
        have HY : Hid (∃ h : k < ys.length, ys[k] = y) := ⟨hky, hy⟩
        rw [hx] at h1 t1
        rw [hy] at h2 t2
        unfold uN at h1 h2
        have T1 := Lib.hid t1
        have T2 := Lib.hid t2
        clear t1 t2 hx hy hc1 hc2 e1 e2 e4 e5 g1 g2 hkx hky
        by_cases hxy : x = y
        case neg =>
          have en : ((x : Int) != (y : Int)) = true := by simp; omega
          go_upto_region 6 with fail
          go_quiet (fail)
          have hR := HNo.out (wr.drewN nq) (fun e => by
            obtain ⟨p1, q1⟩ := HX.out
            obtain ⟨p2, q2⟩ := HY.out
            subst e
            exact hxy (q1.symm.trans q2)) (HB.out.trans ((below_dN wr nq).mono (by exact HB.out.size)))
          have HR := Lib.hid hR
          clear hR hxy
          go_wp2_with fail
          exact HR.out
        case pos =>
          subst hxy
          have en : ((x : Int) != (x : Int)) = false := by simp
          go_upto_region 6 with fail
          go_quiet (fail)
          have HT2 : Hid (xs.take (k + 1) = ys.take (k + 1)) := by show _ = _; rw [T1.out, T2.out, HT.out]
          have HB2 : Hid (Below w.heap.size w (wr.drewN nq)) := HB.out.trans ((below_dN wr nq).mono (by exact HB.out.size))
          clear en h1 h2
          go_wp2_with fail
          exact ⟨⟨k + 1, by omega, HT2, HB2, by go_num⟩, by simp [intOf]; omega⟩
theorem CRow.form {w : World} {v : Value} {cs : List (Nat × List Nat)} (h : CRow w v cs) : ∃ ad c, v = .slice ad cs.length c ∧ cs.length ≤ 9223372036854775807 := by
  obtain ⟨_, ad, c, rfl, h1, h2, _⟩ := h
  exact ⟨ad, c, rfl, by omega⟩
/-- a batch of a chain -/
theorem CRow.at {wr : World} {ad : Option Addr} {n c : Nat} {cs : List (Nat × List Nat)} (h : CRow wr (.slice ad n c) cs) {j : Nat} (hj : j < cs.length) :
    ∃ b o nad nc, ad = some ⟨b, o, none⟩ ∧ wr.rangeAt b (o + j * 2) [uN cs[j].1, .slice nad cs[j].2.length nc] ∧ URow wr (.slice nad cs[j].2.length nc) cs[j].2 ∧ cs[j].1 < 4294967296 := by
  obtain ⟨hp, ad2, c2, hv, _, _, hc⟩ := h
  obtain ⟨b, o, e, hlt, hcs⟩ := hc (by omega)
  obtain ⟨nv, hr, hu⟩ := hcs j hj
  obtain ⟨nad, nc, hnv, _⟩ := hu.form
  subst hnv
  exact ⟨b, o, nad, nc, (Value.slice.inj hv).1.trans e, hr, hu, hp _ (List.getElem_mem hj)⟩
set_option maxHeartbeats 8000000 in
theorem Same_any (u v : Value) (xs ys : List (Nat × List Nat)) (w : World) (hu : Hid (CRow w u xs)) (hv : Hid (CRow w v ys)) :
    Calls Try.prog 44 #[u, v] w (SamePost (decide (xs = ys)) w) := by
  obtain ⟨ad, c, hu1, hl⟩ := hu.out.form
  obtain ⟨bd, d, hv1, hm⟩ := hv.out.form
  subst hu1 hv1
  obtain ⟨R, hR⟩ : ∃ R, SamePost (decide (xs = ys)) w = R := ⟨_, rfl⟩
  have HNo : Hid (∀ W, xs ≠ ys → Below w.heap.size w W → R (.returned (.bool false)) W) := fun W h1 h2 => by
    rw [← hR, decide_eq_false h1]
    exact ⟨rfl, h2⟩
  have HYes : Hid (∀ W, xs = ys → Below w.heap.size w W → R (.returned (.bool true)) W) := fun W h1 h2 => by
    rw [← hR, decide_eq_true h1]
    exact ⟨rfl, h2⟩
  rw [hR]
  clear hR
  by_cases hlen : xs.length = ys.length
  case neg =>
    have e1 : ((xs.length : Int) != (ys.length : Int)) = true := by simp; omega
    have hR := HNo.out w (fun e => hlen (by rw [e])) (Below.refl _ _)
    have HR := Lib.hid hR
    clear hR hlen
    go_enter Try.func44, Try.ntmps44
    go_wp2_with fail
    exact HR.out
  case pos =>
    obtain ⟨n, hn⟩ : ∃ n, ys.length = n := ⟨_, rfl⟩
    have HN := Lib.hid hn
    have HM : Hid (xs.length = n) := hlen.trans hn
    rw [hn] at hv hm ⊢
    rw [hlen, hn] at hu hl ⊢
    clear hlen hn
    have e1 : ((n : Int) != (n : Int)) = false := by simp
    go_enter Try.func44, Try.ntmps44
    go_upto_region 4 with fail
    clear e1
    go_loopw [5] (fun iv wr => ∃ (k : Nat), k ≤ n ∧ Hid (xs.take k = ys.take k) ∧ Hid (Below w.heap.size w wr) ∧ iv = .int .i64 (k : Int)) (fun iv _ => n - (intOf iv).toNat)
    case atStart => exact ⟨0, Nat.zero_le _, by show _ = _; rw [List.take_zero, List.take_zero], Below.refl _ _, rfl⟩
    case round =>
      obtain ⟨k, hk, HT, HB, rfl⟩ := hrel
      by_cases hlt : k < n
      case neg =>
        have ik : ¬ (k : Int) < (n : Int) := by omega
        have hR := HYes.out wr (by
          have h := HT.out
          rw [List.take_of_length_le (by rw [HM.out]; omega), List.take_of_length_le (by rw [HN.out]; omega)] at h
          exact h) HB.out
        have HR := Lib.hid hR
        clear hR
        go_wp2_with fail
        exact HR.out
      case pos =>
        have ik : (k : Int) < (n : Int) := by omega
        have hkx : k < xs.length := by rw [HM.out]; exact hlt
        have hky : k < ys.length := by rw [HN.out]; exact hlt
        obtain ⟨b1, o1, n1, c1, e1, r1, u1, pp1⟩ := (hu.out.below HB.out).at hkx
        obtain ⟨b2, o2, n2, c2, e2, r2, u2, pp2⟩ := (hv.out.below HB.out).at hky
        subst e1 e2
        clear pp1 pp2
        have t1 := List.take_succ_eq_append_getElem hkx
        have t2 := List.take_succ_eq_append_getElem hky
        obtain ⟨⟨x, xl⟩, hx⟩ : ∃ x, xs[k] = x := ⟨_, rfl⟩
        obtain ⟨⟨y, yl⟩, hy⟩ : ∃ x, ys[k] = x := ⟨_, rfl⟩
        have HX : Hid (∃ h : k < xs.length, xs[k] = (x, xl)) := ⟨hkx, hx⟩
        have HY : Hid (∃ h : k < ys.length, ys[k] = (y, yl)) := ⟨hky, hy⟩
        rw [hx] at r1 u1 t1
        rw [hy] at r2 u2 t2
        simp only at r1 u1 r2 u2
        have f1 := r1 0 _ rfl
        have f2 := r1 1 _ rfl
        have f3 := r2 0 _ rfl
        have f4 := r2 1 _ rfl
        unfold uN at f1 f3
        rw [Nat.add_zero] at f1 f3
        have T1 := Lib.hid t1
        have T2 := Lib.hid t2
        have U1 := Lib.hid u1
        have U2 := Lib.hid u2
        clear t1 t2 hx hy r1 r2 u1 u2 hkx hky
        by_cases hxy : x = y
        case neg =>
          have en : ((x : Int) != (y : Int)) = true := by simp; omega
          go_upto_region 6 with fail
          go_quiet (fail)
          have hR := HNo.out (wr.drewN nq) (fun e => by
            obtain ⟨p1, q1⟩ := HX.out
            obtain ⟨p2, q2⟩ := HY.out
            subst e
            rw [q1] at q2
            exact hxy (congrArg Prod.fst q2)) (HB.out.trans ((below_dN wr nq).mono (by exact HB.out.size)))
          have HR := Lib.hid hR
          clear hR hxy
          go_wp2_with fail
          exact HR.out
        case pos =>
          subst hxy
          have en : ((x : Int) != (x : Int)) = false := by simp
          go_upto_region 6 with fail
          refine wp_region_held_drew (S := fun W => W.cell? ⟨b1, o1 + k * 2, none⟩ = some (.int .u32 (x : Int)) ∧ W.cell? ⟨b1, o1 + k * 2 + 1, none⟩ = some (.slice n1 xl.length c1) ∧ W.cell? ⟨b2, o2 + k * 2, none⟩ = some (.int .u32 (x : Int)) ∧ W.cell? ⟨b2, o2 + k * 2 + 1, none⟩ = some (.slice n2 yl.length c2) ∧ Below w.heap.size w W ∧ True) (by kernel_rfl) ⟨f1, f2, f3, f4, HB.out.drew, trivial⟩ (fun hHeld => ?_)
          refine' wpAnyH_take (i := 0) (oi := ⟨some 17, .move (.tmp 0), 44, "ref.go:353", #[], none⟩) rfl (by kernel_rfl) (by kernel_rfl) (by kernel_rfl) (fun _ _ _ h => h) (Or.inl ⟨by rfl, _⟩) (by assumption) _
          rotate_left
          · (intro wS hSw; (try dsimp only at hSw); go_simp; try with_reducible rfl)
          try simp only [Act.put, nA, nB, nC]
          refine' wpAnyH_take (i := 1) (oi := ⟨some 18, .move (.tmp 5), 3, "ref.go:353", #[], none⟩) rfl (by kernel_rfl) (by kernel_rfl) (by kernel_rfl) (fun _ _ _ h => h) (Or.inl ⟨by rfl, _⟩) (by assumption) _
          rotate_left
          · (intro wS hSw; (try dsimp only at hSw); go_simp; try with_reducible rfl)
          try simp only [Act.put, nA, nB, nC]
          refine' wpAnyH_take (i := 2) (oi := ⟨some 19, .indexAddr 44 (.tmp 17) (.tmp 18), 0, "ref.go:353", #[⟨0, .data⟩, ⟨1, .data⟩], none⟩) rfl (by kernel_rfl) (by kernel_rfl) (by kernel_rfl) (fun _ _ _ h => h) (Or.inl ⟨by rfl, _⟩) (by assumption) _
          rotate_left
          · (intro wS hSw; (try dsimp only at hSw); go_simp; try with_reducible rfl)
          try simp only [Act.put, nA, nB, nC]
          refine' wpAnyH_take (i := 3) (oi := ⟨some 20, .fieldAddr 64 (.tmp 19) 0, 0, "ref.go:353", #[⟨2, .data⟩], none⟩) rfl (by kernel_rfl) (by kernel_rfl) (by kernel_rfl) (fun _ _ _ h => h) (Or.inl ⟨by rfl, _⟩) (by assumption) _
          rotate_left
          · (intro wS hSw; (try dsimp only at hSw); go_simp; try with_reducible rfl)
          try simp only [Act.put, nA, nB, nC]
          refine' wpAnyH_take (i := 4) (oi := ⟨some 21, .load 27 (.tmp 20), 27, "ref.go:353", #[⟨3, .data⟩], none⟩) rfl (by kernel_rfl) (by kernel_rfl) (by kernel_rfl) (fun _ _ _ h => h) (Or.inl ⟨by rfl, _⟩) (by assumption) _
          rotate_left
          · (intro wS hSw; (try dsimp only at hSw); go_simp; try with_reducible rfl)
          try simp only [Act.put, nA, nB, nC]
          refine' wpAnyH_take (i := 5) (oi := ⟨some 22, .move (.tmp 1), 44, "ref.go:353", #[], none⟩) rfl (by kernel_rfl) (by kernel_rfl) (by kernel_rfl) (fun _ _ _ h => h) (Or.inl ⟨by rfl, _⟩) (by assumption) _
          rotate_left
          · (intro wS hSw; (try dsimp only at hSw); go_simp; try with_reducible rfl)
          try simp only [Act.put, nA, nB, nC]
          refine' wpAnyH_take (i := 6) (oi := ⟨some 23, .move (.tmp 5), 3, "ref.go:353", #[], none⟩) rfl (by kernel_rfl) (by kernel_rfl) (by kernel_rfl) (fun _ _ _ h => h) (Or.inl ⟨by rfl, _⟩) (by assumption) _
          rotate_left
          · (intro wS hSw; (try dsimp only at hSw); go_simp; try with_reducible rfl)
          try simp only [Act.put, nA, nB, nC]
          refine' wpAnyH_take (i := 7) (oi := ⟨some 24, .indexAddr 44 (.tmp 22) (.tmp 23), 0, "ref.go:353", #[⟨5, .data⟩, ⟨6, .data⟩], none⟩) rfl (by kernel_rfl) (by kernel_rfl) (by kernel_rfl) (fun _ _ _ h => h) (Or.inl ⟨by rfl, _⟩) (by assumption) _
          rotate_left
          · (intro wS hSw; (try dsimp only at hSw); go_simp; try with_reducible rfl)
          try simp only [Act.put, nA, nB, nC]
          refine' wpAnyH_take (i := 8) (oi := ⟨some 25, .fieldAddr 64 (.tmp 24) 0, 0, "ref.go:353", #[⟨7, .data⟩], none⟩) rfl (by kernel_rfl) (by kernel_rfl) (by kernel_rfl) (fun _ _ _ h => h) (Or.inl ⟨by rfl, _⟩) (by assumption) _
          rotate_left
          · (intro wS hSw; (try dsimp only at hSw); go_simp; try with_reducible rfl)
          try simp only [Act.put, nA, nB, nC]
          refine' wpAnyH_take (i := 9) (oi := ⟨some 26, .load 27 (.tmp 25), 27, "ref.go:353", #[⟨8, .data⟩], none⟩) rfl (by kernel_rfl) (by kernel_rfl) (by kernel_rfl) (fun _ _ _ h => h) (Or.inl ⟨by rfl, _⟩) (by assumption) _
          rotate_left
          · (intro wS hSw; (try dsimp only at hSw); go_simp; try with_reducible rfl)
          try simp only [Act.put, nA, nB, nC]
          refine' wpAnyH_take (i := 10) (oi := ⟨some 27, .binOp .neq 27 (.tmp 21) (.tmp 26) 27, 4, "ref.go:353", #[⟨4, .data⟩, ⟨9, .data⟩], none⟩) rfl (by kernel_rfl) (by kernel_rfl) (by kernel_rfl) (fun _ _ _ h => h) (Or.inl ⟨by rfl, _⟩) (by assumption) _
          rotate_left
          · (intro wS hSw; (try dsimp only at hSw); go_simp; try with_reducible rfl)
          try simp only [Act.put, nA, nB, nC]
          refine' wpAnyH_take (i := 11) (oi := ⟨some 28, .move (.tmp 27), 4, "ref.go:353", #[⟨10, .data⟩], none⟩) rfl (by kernel_rfl) (by kernel_rfl) (by kernel_rfl) (fun _ _ _ h => h) (Or.inl ⟨by rfl, _⟩) (by assumption) _
          rotate_left
          · (intro wS hSw; (try dsimp only at hSw); go_simp; try with_reducible rfl)
          try simp only [Act.put, nA, nB, nC]
          refine' wpAnyH_take (i := 12) (oi := ⟨some 29, .move (.tmp 0), 44, "ref.go:353", #[⟨11, .guard⟩], some (11, false)⟩) rfl (by kernel_rfl) (by kernel_rfl) (by kernel_rfl) (fun _ _ _ h => h) (Or.inl ⟨by rfl, _⟩) (by assumption) _
          rotate_left
          · (intro wS hSw; (try dsimp only at hSw); go_simp; try with_reducible rfl)
          try simp only [Act.put, nA, nB, nC]
          refine' wpAnyH_take (i := 13) (oi := ⟨some 30, .move (.tmp 5), 3, "ref.go:353", #[⟨11, .guard⟩], some (11, false)⟩) rfl (by kernel_rfl) (by kernel_rfl) (by kernel_rfl) (fun _ _ _ h => h) (Or.inl ⟨by rfl, _⟩) (by assumption) _
          rotate_left
          · (intro wS hSw; (try dsimp only at hSw); go_simp; try with_reducible rfl)
          try simp only [Act.put, nA, nB, nC]
          refine' wpAnyH_take (i := 14) (oi := ⟨some 31, .indexAddr 44 (.tmp 29) (.tmp 30), 0, "ref.go:353", #[⟨12, .data⟩, ⟨13, .data⟩, ⟨11, .guard⟩], some (11, false)⟩) rfl (by kernel_rfl) (by kernel_rfl) (by kernel_rfl) (fun _ _ _ h => h) (Or.inl ⟨by rfl, _⟩) (by assumption) _
          rotate_left
          · (intro wS hSw; (try dsimp only at hSw); go_simp; try with_reducible rfl)
          try simp only [Act.put, nA, nB, nC]
          refine' wpAnyH_take (i := 15) (oi := ⟨some 32, .fieldAddr 64 (.tmp 31) 1, 0, "ref.go:353", #[⟨14, .data⟩, ⟨11, .guard⟩], some (11, false)⟩) rfl (by kernel_rfl) (by kernel_rfl) (by kernel_rfl) (fun _ _ _ h => h) (Or.inl ⟨by rfl, _⟩) (by assumption) _
          rotate_left
          · (intro wS hSw; (try dsimp only at hSw); go_simp; try with_reducible rfl)
          try simp only [Act.put, nA, nB, nC]
          refine' wpAnyH_take (i := 16) (oi := ⟨some 33, .load 28 (.tmp 32), 28, "ref.go:353", #[⟨15, .data⟩, ⟨11, .guard⟩], some (11, false)⟩) rfl (by kernel_rfl) (by kernel_rfl) (by kernel_rfl) (fun _ _ _ h => h) (Or.inl ⟨by rfl, _⟩) (by assumption) _
          rotate_left
          · (intro wS hSw; (try dsimp only at hSw); go_simp; try with_reducible rfl)
          try simp only [Act.put, nA, nB, nC]
          refine' wpAnyH_take (i := 17) (oi := ⟨some 34, .move (.tmp 1), 44, "ref.go:353", #[⟨11, .guard⟩], some (11, false)⟩) rfl (by kernel_rfl) (by kernel_rfl) (by kernel_rfl) (fun _ _ _ h => h) (Or.inl ⟨by rfl, _⟩) (by assumption) _
          rotate_left
          · (intro wS hSw; (try dsimp only at hSw); go_simp; try with_reducible rfl)
          try simp only [Act.put, nA, nB, nC]
          refine' wpAnyH_take (i := 18) (oi := ⟨some 35, .move (.tmp 5), 3, "ref.go:353", #[⟨11, .guard⟩], some (11, false)⟩) rfl (by kernel_rfl) (by kernel_rfl) (by kernel_rfl) (fun _ _ _ h => h) (Or.inl ⟨by rfl, _⟩) (by assumption) _
          rotate_left
          · (intro wS hSw; (try dsimp only at hSw); go_simp; try with_reducible rfl)
          try simp only [Act.put, nA, nB, nC]
          refine' wpAnyH_take (i := 19) (oi := ⟨some 36, .indexAddr 44 (.tmp 34) (.tmp 35), 0, "ref.go:353", #[⟨17, .data⟩, ⟨18, .data⟩, ⟨11, .guard⟩], some (11, false)⟩) rfl (by kernel_rfl) (by kernel_rfl) (by kernel_rfl) (fun _ _ _ h => h) (Or.inl ⟨by rfl, _⟩) (by assumption) _
          rotate_left
          · (intro wS hSw; (try dsimp only at hSw); go_simp; try with_reducible rfl)
          try simp only [Act.put, nA, nB, nC]
          refine' wpAnyH_take (i := 20) (oi := ⟨some 37, .fieldAddr 64 (.tmp 36) 1, 0, "ref.go:353", #[⟨19, .data⟩, ⟨11, .guard⟩], some (11, false)⟩) rfl (by kernel_rfl) (by kernel_rfl) (by kernel_rfl) (fun _ _ _ h => h) (Or.inl ⟨by rfl, _⟩) (by assumption) _
          rotate_left
          · (intro wS hSw; (try dsimp only at hSw); go_simp; try with_reducible rfl)
          try simp only [Act.put, nA, nB, nC]
          refine' wpAnyH_take (i := 21) (oi := ⟨some 38, .load 28 (.tmp 37), 28, "ref.go:353", #[⟨20, .data⟩, ⟨11, .guard⟩], some (11, false)⟩) rfl (by kernel_rfl) (by kernel_rfl) (by kernel_rfl) (fun _ _ _ h => h) (Or.inl ⟨by rfl, _⟩) (by assumption) _
          rotate_left
          · (intro wS hSw; (try dsimp only at hSw); go_simp; try with_reducible rfl)
          try simp only [Act.put, nA, nB, nC]
          obtain ⟨q, hq⟩ : ∃ q, decide (xl = yl) = q := ⟨_, rfl⟩
          have HQ := Lib.hid hq
          clear hq
          refine wpAnyH_ready (rs := [22]) (by kernel_rfl) (by simp) ?_
          refine AllReadyH.cons (o := ⟨some 39, .call ⟨.value (.func 27), #[.tmp 33, .tmp 38], #[28, 28]⟩, 4, "ref.go:353", #[⟨16, .data⟩, ⟨21, .data⟩, ⟨11, .chain⟩, ⟨11, .guard⟩], some (11, false)⟩) rfl (fun K hK => ?_) AllReadyH.nil
          go_simp
          (refine (SameNumbers_any _ _ xl yl _ (Lib.hid U1.out.drew) (Lib.hid U2.out.drew)).mono ?_; rintro e w2 ⟨rfl, b2'⟩; rw [HQ.out])
          refine hK.out _ _ ?_ (fun hHeld => ?_)
          · exact ⟨(World.cell?_of_block (a := ⟨b1, o1 + k * 2, none⟩) (b2'.block b1 (World.block_lt_of_cell? _ _ f1))).trans f1, (World.cell?_of_block (a := ⟨b1, o1 + k * 2 + 1, none⟩) (b2'.block b1 (World.block_lt_of_cell? _ _ f1))).trans f2, (World.cell?_of_block (a := ⟨b2, o2 + k * 2, none⟩) (b2'.block b2 (World.block_lt_of_cell? _ _ f3))).trans f3, (World.cell?_of_block (a := ⟨b2, o2 + k * 2 + 1, none⟩) (b2'.block b2 (World.block_lt_of_cell? _ _ f3))).trans f4, HB.out.drew.trans (b2'.mono (by have := HB.out.size; exact this)), trivial⟩
          clear hK K
          try simp only [Act.put, nA, nB, nC]
          refine' wpAnyH_take (i := 23) (oi := ⟨some 40, .unOp .not 4 (.tmp 39), 4, "ref.go:353", #[⟨22, .data⟩, ⟨11, .guard⟩], some (11, false)⟩) rfl (by kernel_rfl) (by kernel_rfl) (by kernel_rfl) (fun _ _ _ h => h) (Or.inl ⟨by rfl, _⟩) (by assumption) _
          rotate_left
          · (intro wS hSw; (try dsimp only at hSw); go_simp; try with_reducible rfl)
          try simp only [Act.put, nA, nB, nC]
          refine' wpAnyH_take (i := 24) (oi := ⟨some 41, .pick (.tmp 28) (.const (.bool true)) (.tmp 40), 4, "ref.go:353", #[⟨11, .data⟩, ⟨23, .data⟩], none⟩) rfl (by kernel_rfl) (by kernel_rfl) (by kernel_rfl) (fun _ _ _ h => h) (Or.inl ⟨by rfl, _⟩) (by assumption) _
          rotate_left
          · (intro wS hSw; (try dsimp only at hSw); go_simp; try with_reducible rfl)
          try simp only [Act.put, nA, nB, nC]
          refine wpAnyH_done (by kernel_rfl) ?_ _
          have B2 := Lib.hid hHeld.2.2.2.2.1
          clear hHeld f1 f2 f3 f4 en b2'
          cases q
          case false =>
            have hR := HNo.out w2 (fun e => by
              obtain ⟨p1, q1⟩ := HX.out
              obtain ⟨p2, q2⟩ := HY.out
              subst e
              rw [q1] at q2
              exact of_decide_eq_false HQ.out (congrArg Prod.snd q2)) B2.out
            have HR := Lib.hid hR
            clear hR
            go_wp2_with fail
            exact HR.out
          case true =>
            have hxl : xl = yl := of_decide_eq_true HQ.out
            have HT2 : Hid (xs.take (k + 1) = ys.take (k + 1)) := by show _ = _; rw [T1.out, T2.out, HT.out, hxl]
            clear hxl
            go_wp2_with fail
            exact ⟨⟨k + 1, by omega, HT2, B2, by go_num⟩, by simp [intOf]; omega⟩
set_option maxHeartbeats 4000000 in
theorem SamePlan_any (tv lv tv2 lv2 : Value) (ts ts2 : List Nat) (cs cs2 : List (Nat × List Nat)) (op op2 : Int) (pg pg2 : Nat) (w : World) (ht : Hid (URow w tv ts)) (ht2 : Hid (URow w tv2 ts2)) (hc : Hid (CRow w lv cs)) (hc2 : Hid (CRow w lv2 cs2)) :
    Calls Try.prog 32 #[.agg #[tv, lv, .int .i64 op, .int .u32 (pg : Int)], .agg #[tv2, lv2, .int .i64 op2, .int .u32 (pg2 : Int)]] w (SamePost (decide (op = op2) && (decide (pg = pg2) && (decide (ts = ts2) && decide (cs = cs2)))) w) := by
  obtain ⟨a1, c1, h1, _⟩ := ht.out.form
  obtain ⟨a2, c2, h2, _⟩ := ht2.out.form
  obtain ⟨a3, c3, h3, _⟩ := hc.out.form
  obtain ⟨a4, c4, h4, _⟩ := hc2.out.form
  subst h1 h2 h3 h4
  obtain ⟨N, hN⟩ : ∃ N, w.heap.size = N := ⟨_, rfl⟩
  have HN := Lib.hid hN
  obtain ⟨R, hR⟩ : ∃ R, SamePost (decide (op = op2) && (decide (pg = pg2) && (decide (ts = ts2) && decide (cs = cs2)))) w = R := ⟨_, rfl⟩
  have HR : Hid (∀ W q, (decide (op = op2) && (decide (pg = pg2) && (decide (ts = ts2) && decide (cs = cs2)))) = q → Below N w W → R (.returned (.bool q)) W) := fun W q h1 h2 => by
    rw [← hR, h1]
    exact ⟨rfl, by rw [hN]; exact h2⟩
  rw [hR]
  clear hN hR
  go_enter Try.func32, Try.ntmps32
  go_upto_region 0 with fail
  with_reducible refine wp_region_list ?_
  refine wpList_boxB rfl _ _ rfl N HN.out #[.slice a1 ts.length c1, .slice a3 cs.length c3, .int .i64 op, .int .u32 (pg : Int)] rfl ?_
  intro w1 e1 b1 z1
  (try simp only [Act.put, nA, nB, nC])
  refine wpList_boxB rfl _ _ rfl (N + 1) z1 #[.slice a2 ts2.length c2, .slice a4 cs2.length c4, .int .i64 op2, .int .u32 (pg2 : Int)] rfl ?_
  intro w2 e2 b2 z2
  (try simp only [Act.put, nA, nB, nC])
  (with_reducible refine wpList_plain rfl ?_); intro K hK; go_simp; (with_reducible refine hK _ _ ?_); clear hK K; try simp only [Act.put, nA, nB, nC]
  have E1 := Lib.hid (heap_below e1 b2 (by omega))
  have E2 := Lib.hid e2
  have B2 : Hid (Below N w w2) := b1.trans (b2.mono (by omega))
  have Z2 := Lib.hid z2
  have X1 : Hid (URow w2 (.slice a1 ts.length c1) ts) := ht.out.below (by rw [HN.out]; exact B2.out)
  have X2 : Hid (URow w2 (.slice a2 ts2.length c2) ts2) := ht2.out.below (by rw [HN.out]; exact B2.out)
  have X3 : Hid (CRow w2 (.slice a3 cs.length c3) cs) := hc.out.below (by rw [HN.out]; exact B2.out)
  have X4 : Hid (CRow w2 (.slice a4 cs2.length c4) cs2) := hc2.out.below (by rw [HN.out]; exact B2.out)
  clear e1 b1 z1 e2 b2 z2
  have f0 := heap_cell E1.out (o := 0)
  have f1 := heap_cell E1.out (o := 1)
  have f2 := heap_cell E1.out (o := 2)
  have f3 := heap_cell E1.out (o := 3)
  have g0 := heap_cell E2.out (o := 0)
  have g1 := heap_cell E2.out (o := 1)
  have g2 := heap_cell E2.out (o := 2)
  have g3 := heap_cell E2.out (o := 3)
  by_cases h1 : op = op2
  case neg =>
    have d1 : (op == op2) = false := by simp [h1]
    have hr := HR.out w2 false (by simp [h1]) B2.out
    have HRR := Lib.hid hr
    clear hr h1
    go_wp2_with fail
    exact HRR.out
  case pos =>
    subst h1
    have d1 : (op == op) = true := by simp
    by_cases h2 : pg = pg2
    case neg =>
      have d2 : ((pg : Int) == (pg2 : Int)) = false := by simp; omega
      have hr := HR.out w2 false (by simp [h2]) B2.out
      have HRR := Lib.hid hr
      clear hr h2
      go_wp2_with fail
      exact HRR.out
    case pos =>
      subst h2
      have d2 : ((pg : Int) == (pg : Int)) = true := by simp
      obtain ⟨q, hq⟩ : ∃ q, decide (ts = ts2) = q := ⟨_, rfl⟩
      have HQ := Lib.hid hq
      clear hq
      go_upto_region 1 with fail
      with_reducible refine wp_region_list ?_
      (with_reducible refine wpList_plain rfl ?_); intro K hK; go_simp; (with_reducible refine hK _ _ ?_); clear hK K; try simp only [Act.put, nA, nB, nC]
      (with_reducible refine wpList_plain rfl ?_); intro K hK; go_simp; (with_reducible refine hK _ _ ?_); clear hK K; try simp only [Act.put, nA, nB, nC]
      (with_reducible refine wpList_plain rfl ?_); intro K hK; go_simp; (with_reducible refine hK _ _ ?_); clear hK K; try simp only [Act.put, nA, nB, nC]
      (with_reducible refine wpList_plain rfl ?_); intro K hK; go_simp; (with_reducible refine hK _ _ ?_); clear hK K; try simp only [Act.put, nA, nB, nC]
      (with_reducible refine wpList_plain rfl ?_); intro K hK; go_simp; (with_reducible refine hK _ _ ?_); clear hK K; try simp only [Act.put, nA, nB, nC]
      (with_reducible refine wpList_plain rfl ?_); intro K hK; go_simp; (with_reducible refine hK _ _ ?_); clear hK K; try simp only [Act.put, nA, nB, nC]
      (with_reducible refine wpList_step ?_); intro K hK; rw [if_pos (by rfl)]; go_simp; (with_reducible refine hK _ _ ?_); clear hK K; try simp only [Act.put, nA, nB, nC]
      (with_reducible refine wpList_step ?_); intro K hK; rw [if_pos (by rfl)]; go_simp; (with_reducible refine hK _ _ ?_); clear hK K; try simp only [Act.put, nA, nB, nC]
      (with_reducible refine wpList_step ?_); intro K hK; rw [if_pos (by rfl)]; go_simp; (with_reducible refine hK _ _ ?_); clear hK K; try simp only [Act.put, nA, nB, nC]
      (with_reducible refine wpList_step ?_); intro K hK; rw [if_pos (by rfl)]; go_simp; (with_reducible refine hK _ _ ?_); clear hK K; try simp only [Act.put, nA, nB, nC]
      (with_reducible refine wpList_step ?_); intro K hK; rw [if_pos (by rfl)]; go_simp; (with_reducible refine hK _ _ ?_); clear hK K; try simp only [Act.put, nA, nB, nC]
      (with_reducible refine wpList_plain rfl ?_); intro K hK; go_simp; (with_reducible refine hK _ _ ?_); clear hK K; try simp only [Act.put, nA, nB, nC]
      (with_reducible refine wpList_plain rfl ?_); intro K hK; go_simp; (with_reducible refine hK _ _ ?_); clear hK K; try simp only [Act.put, nA, nB, nC]
      (with_reducible refine wpList_step ?_); intro K hK; rw [if_pos (by rfl)]; go_simp; (with_reducible refine hK _ _ ?_); clear hK K; try simp only [Act.put, nA, nB, nC]
      (with_reducible refine wpList_step ?_); intro K hK; rw [if_pos (by rfl)]; go_simp; (with_reducible refine hK _ _ ?_); clear hK K; try simp only [Act.put, nA, nB, nC]
      (with_reducible refine wpList_step ?_); intro K hK; rw [if_pos (by rfl)]; go_simp; (with_reducible refine hK _ _ ?_); clear hK K; try simp only [Act.put, nA, nB, nC]
      (with_reducible refine wpList_step ?_); intro K hK; rw [if_pos (by rfl)]; go_simp; (with_reducible refine hK _ _ ?_); clear hK K; try simp only [Act.put, nA, nB, nC]
      with_reducible refine wpList_step ?_
      intro K hK
      rw [if_pos (by rfl)]
      go_simp
      refine (SameNumbers_any _ _ ts ts2 w2 X1 X2).mono ?_; rintro e w3 ⟨rfl, b3⟩; rw [HQ.out]
      first | with_reducible refine hK _ _ ?_ | refine hK _ _ ?_
      clear hK K
      (try simp only [Act.put, nA, nB, nC])
      (with_reducible refine wpList_plain rfl ?_); intro K hK; go_simp; (with_reducible refine hK _ _ ?_); clear hK K; try simp only [Act.put, nA, nB, nC]
      (with_reducible refine wpList_plain rfl ?_); intro K hK; go_simp; (with_reducible refine hK _ _ ?_); clear hK K; try simp only [Act.put, nA, nB, nC]
      have hz2 := Z2.out
      have F1 := Lib.hid (heap_below E1.out b3 (by omega))
      have F2 := Lib.hid (heap_below E2.out b3 (by omega))
      have B3 : Hid (Below N w w3) := B2.out.trans (b3.mono (by omega))
      have X5 : Hid (CRow w3 (.slice a3 cs.length c3) cs) := X3.out.below b3
      have X6 : Hid (CRow w3 (.slice a4 cs2.length c4) cs2) := X4.out.below b3
      have hz3 : N + 2 ≤ w3.heap.size := by have := b3.size; omega
      clear f0 f1 f2 f3 g0 g1 g2 g3 b3
      have f1 := heap_cell F1.out (o := 1)
      have g1 := heap_cell F2.out (o := 1)
      cases q
      case false =>
        have hr := HR.out w3 false (by rw [HQ.out]; simp) B3.out
        have HRR := Lib.hid hr
        clear hr
        (with_reducible refine wpList_step ?_); intro K hK; rw [if_neg (Bool.eq_false_iff.1 (by rfl))]; (with_reducible refine hK _ _ ?_); clear hK K; try simp only [Act.put, nA, nB, nC]
        (with_reducible refine wpList_step ?_); intro K hK; rw [if_neg (Bool.eq_false_iff.1 (by rfl))]; (with_reducible refine hK _ _ ?_); clear hK K; try simp only [Act.put, nA, nB, nC]
        (with_reducible refine wpList_step ?_); intro K hK; rw [if_neg (Bool.eq_false_iff.1 (by rfl))]; (with_reducible refine hK _ _ ?_); clear hK K; try simp only [Act.put, nA, nB, nC]
        (with_reducible refine wpList_step ?_); intro K hK; rw [if_neg (Bool.eq_false_iff.1 (by rfl))]; (with_reducible refine hK _ _ ?_); clear hK K; try simp only [Act.put, nA, nB, nC]
        (with_reducible refine wpList_step ?_); intro K hK; rw [if_neg (Bool.eq_false_iff.1 (by rfl))]; (with_reducible refine hK _ _ ?_); clear hK K; try simp only [Act.put, nA, nB, nC]
        (with_reducible refine wpList_plain rfl ?_); intro K hK; go_simp; (with_reducible refine hK _ _ ?_); clear hK K; try simp only [Act.put, nA, nB, nC]
        (with_reducible refine wpList_plain rfl ?_); intro K hK; go_simp; (with_reducible refine hK _ _ ?_); clear hK K; try simp only [Act.put, nA, nB, nC]
        go_wp2_with fail
        exact HRR.out
      case true =>
        obtain ⟨q2, hq2⟩ : ∃ q, decide (cs = cs2) = q := ⟨_, rfl⟩
        have HQ2 := Lib.hid hq2
        clear hq2
        (with_reducible refine wpList_step ?_); intro K hK; rw [if_pos (by rfl)]; go_simp; (with_reducible refine hK _ _ ?_); clear hK K; try simp only [Act.put, nA, nB, nC]
        (with_reducible refine wpList_step ?_); intro K hK; rw [if_pos (by rfl)]; go_simp; (with_reducible refine hK _ _ ?_); clear hK K; try simp only [Act.put, nA, nB, nC]
        (with_reducible refine wpList_step ?_); intro K hK; rw [if_pos (by rfl)]; go_simp; (with_reducible refine hK _ _ ?_); clear hK K; try simp only [Act.put, nA, nB, nC]
        (with_reducible refine wpList_step ?_); intro K hK; rw [if_pos (by rfl)]; go_simp; (with_reducible refine hK _ _ ?_); clear hK K; try simp only [Act.put, nA, nB, nC]
        with_reducible refine wpList_step ?_
        intro K hK
        rw [if_pos (by rfl)]
        go_simp
        refine (Same_any _ _ cs cs2 w3 X5 X6).mono ?_; rintro e w4 ⟨rfl, b4⟩; rw [HQ2.out]
        first | with_reducible refine hK _ _ ?_ | refine hK _ _ ?_
        clear hK K
        (try simp only [Act.put, nA, nB, nC])
        (with_reducible refine wpList_plain rfl ?_); intro K hK; go_simp; (with_reducible refine hK _ _ ?_); clear hK K; try simp only [Act.put, nA, nB, nC]
        (with_reducible refine wpList_plain rfl ?_); intro K hK; go_simp; (with_reducible refine hK _ _ ?_); clear hK K; try simp only [Act.put, nA, nB, nC]
        have hr := HR.out w4 q2 (by rw [HQ.out, HQ2.out]; simp) (B3.out.trans (b4.mono (by omega)))
        have HRR := Lib.hid hr
        clear hr
        go_wp2_with fail
        exact HRR.out
end Go.Proofs.Ytkngmnfgdlnddaa

namespace Go.Proofs.Ytkngmnfgdlnddaa
open Go.RowKit Go.Lib Hw Go.Maps
set_option linter.unusedVariables false

theorem below_drewN (B : Nat) (w : World) (q : Nat) : Below B w (w.drewN q) := ⟨rfl, rfl, rfl, Nat.le_refl _, fun _ _ => rfl⟩
theorem mod_drewN (S : Nat → Prop) (w : World) (q : Nat) : Mod S w (w.drewN q) := ⟨rfl, rfl, rfl, Nat.le_refl _, fun _ _ _ => rfl⟩
/-- a plan that is made, as it lies in its block -/
def TB (w : World) (T : Nat) (tv lv : Value) (op pages hb lb most : Nat) (chv : Value) : Prop :=
  w.heap[T]? = some (.cells #[tv, lv, .int .i64 (op : Int), .int .u32 (pages : Int), .map (some hb), .map (some lb), .int .u32 (most : Int), chv] 128 (0, 0))
set_option maxHeartbeats 1000000 in
theorem end_no (T : Nat) (tv lv : Value) (op pages hb lb most : Nat) (chv : Value) (w : World) (h : Hid (TB w T tv lv op pages hb lb most chv)) (hm : ¬ pages < most) :
    Calls Try.prog 88 #[.pointer (some ⟨T, 0, none⟩)] w fun e w' => e = .returned (.tuple #[.int .u32 0, .bool false]) ∧ Below w.heap.size w w' := by
  have c3 := heap_cell h.out (o := 3)
  have c6 := heap_cell h.out (o := 6)
  have d1 : decide (most ≤ pages) = true := decide_eq_true (by omega)
  have d2 : decide ((most : Int) ≤ (pages : Int)) = true := decide_eq_true (by omega)
  go_enter Try.func88, Try.ntmps88
  go_wp2_with fail
  go_quiet (fail)
  go_wp2_with fail
  go_ret2
  exact ⟨rfl, below_drewN _ _ _⟩
set_option maxHeartbeats 1000000 in
theorem end_yes (T : Nat) (tv lv : Value) (op pages hb lb most : Nat) (chv : Value) (w : World) (h : Hid (TB w T tv lv op pages hb lb most chv)) (hm : pages < most) (hm2 : most ≤ 65536) :
    Calls Try.prog 88 #[.pointer (some ⟨T, 0, none⟩)] w fun e w' => e = .returned (.tuple #[.int .u32 (pages : Int), .bool true]) ∧ TB w' T tv lv op (pages + 1) hb lb most chv ∧ Mod (fun k => k = T) w w' := by
  have c3 := heap_cell h.out (o := 3)
  have c6 := heap_cell h.out (o := 6)
  have f3 := heap_free h.out 3
  have d1 : decide (most ≤ pages) = false := decide_eq_false (by omega)
  have d2 : decide ((most : Int) ≤ (pages : Int)) = false := decide_eq_false (by omega)
  go_enter Try.func88, Try.ntmps88
  go_wp2_with fail
  go_quiet (fail)
  go_wp2_with fail
  go_ret2
  refine ⟨rfl, ?_, (mod_drewN _ w nq).then (Mod.set (S := fun k => k = T) _ rfl _)⟩
  have h2 : (w.drewN nq).heap[T]? = some (.cells #[tv, lv, .int .i64 (op : Int), .int .u32 (pages : Int), .map (some hb), .map (some lb), .int .u32 (most : Int), chv] 128 (0, 0)) := h.out
  have h3 := heap_set (o := 3) h2 (.int .u32 ((pages : Int) + 1))
  unfold TB
  rw [h3]
  rfl
/-- can a number of the chain be taken? -/
def mayF (left held : Nat → Bool) (x : Nat) : Bool := left x && !held x
set_option maxHeartbeats 1000000 in
theorem may_any (T : Nat) (tv lv : Value) (op pages hb lb most : Nat) (chv : Value) (nh nl : Nat) (held left : Nat → Bool) (x : Nat) (w : World) (hx : x < 4294967296) (h : Hid (TB w T tv lv op pages hb lb most chv)) (hh : Hid (SetM w hb nh held)) (hl : Hid (SetM w lb nl left)) :
    Calls Try.prog 87 #[.pointer (some ⟨T, 0, none⟩), .int .u32 (x : Int)] w fun e w' => e = .returned (.bool (mayF left held x)) ∧ w' = w := by
  have c4 := heap_cell h.out (o := 4)
  have c5 := heap_cell h.out (o := 5)
  obtain ⟨q, hq⟩ : ∃ q, left x = q := ⟨_, rfl⟩
  obtain ⟨p, hp⟩ : ∃ p, held x = p := ⟨_, rfl⟩
  have HQ := Lib.hid hq
  have HP := Lib.hid hp
  have HF : Hid (mayF left held x = (q && !p)) := by show _ = _; unfold mayF; rw [hq, hp]
  clear hq hp
  go_enter Try.func87, Try.ntmps87
  go_upto_region 1 with fail
  with_reducible refine wp_region_list ?_
  (with_reducible refine wpList_plain rfl ?_); intro K hK; go_simp; (with_reducible refine hK _ _ ?_); clear hK K; try simp only [Act.put, nA, nB, nC]
  (with_reducible refine wpList_plain rfl ?_); intro K hK; go_simp; (with_reducible refine hK _ _ ?_); clear hK K; try simp only [Act.put, nA, nB, nC]
  (with_reducible refine wpList_plain rfl ?_); intro K hK; go_simp; (with_reducible refine hK _ _ ?_); clear hK K; try simp only [Act.put, nA, nB, nC]
  (with_reducible refine wpList_plain rfl ?_); intro K hK; go_simp; (with_reducible refine hK _ _ ?_); clear hK K; try simp only [Act.put, nA, nB, nC]
  (with_reducible refine wpList_plain rfl ?_); intro K hK; go_simp; (with_reducible refine hK _ _ ?_); clear hK K; try simp only [Act.put, nA, nB, nC]
  refine wpList_lookM rfl _ _ rfl hh.out rfl x hx rfl (fun c => ?_)
  rw [HP.out]
  (try simp only [Act.put, nA, nB, nC])
  (with_reducible refine wpList_plain rfl ?_); intro K hK; go_simp; (with_reducible refine hK _ _ ?_); clear hK K; try simp only [Act.put, nA, nB, nC]
  (with_reducible refine wpList_plain rfl ?_); intro K hK; go_simp; (with_reducible refine hK _ _ ?_); clear hK K; try simp only [Act.put, nA, nB, nC]
  (with_reducible refine wpList_plain rfl ?_); intro K hK; go_simp; (with_reducible refine hK _ _ ?_); clear hK K; try simp only [Act.put, nA, nB, nC]
  (with_reducible refine wpList_plain rfl ?_); intro K hK; go_simp; (with_reducible refine hK _ _ ?_); clear hK K; try simp only [Act.put, nA, nB, nC]
  (with_reducible refine wpList_plain rfl ?_); intro K hK; go_simp; (with_reducible refine hK _ _ ?_); clear hK K; try simp only [Act.put, nA, nB, nC]
  go_upto_region 2 with fail
  with_reducible refine wp_region_list ?_
  (with_reducible refine wpList_plain rfl ?_); intro K hK; go_simp; (with_reducible refine hK _ _ ?_); clear hK K; try simp only [Act.put, nA, nB, nC]
  (with_reducible refine wpList_plain rfl ?_); intro K hK; go_simp; (with_reducible refine hK _ _ ?_); clear hK K; try simp only [Act.put, nA, nB, nC]
  (with_reducible refine wpList_plain rfl ?_); intro K hK; go_simp; (with_reducible refine hK _ _ ?_); clear hK K; try simp only [Act.put, nA, nB, nC]
  (with_reducible refine wpList_plain rfl ?_); intro K hK; go_simp; (with_reducible refine hK _ _ ?_); clear hK K; try simp only [Act.put, nA, nB, nC]
  (with_reducible refine wpList_plain rfl ?_); intro K hK; go_simp; (with_reducible refine hK _ _ ?_); clear hK K; try simp only [Act.put, nA, nB, nC]
  refine wpList_lookM rfl _ _ rfl hl.out rfl x hx rfl (fun c => ?_)
  rw [HQ.out]
  (try simp only [Act.put, nA, nB, nC])
  (with_reducible refine wpList_plain rfl ?_); intro K hK; go_simp; (with_reducible refine hK _ _ ?_); clear hK K; try simp only [Act.put, nA, nB, nC]
  (with_reducible refine wpList_plain rfl ?_); intro K hK; go_simp; (with_reducible refine hK _ _ ?_); clear hK K; try simp only [Act.put, nA, nB, nC]
  (with_reducible refine wpList_plain rfl ?_); intro K hK; go_simp; (with_reducible refine hK _ _ ?_); clear hK K; try simp only [Act.put, nA, nB, nC]
  (with_reducible refine wpList_plain rfl ?_); intro K hK; go_simp; (with_reducible refine hK _ _ ?_); clear hK K; try simp only [Act.put, nA, nB, nC]
  (with_reducible refine wpList_plain rfl ?_); intro K hK; go_simp; (with_reducible refine hK _ _ ?_); clear hK K; try simp only [Act.put, nA, nB, nC]
  cases q
  case true =>
    go_wp2_with fail
    go_ret
    exact ⟨by rw [HF.out]; rfl, rfl⟩
  case false =>
    go_wp2_with fail
    go_ret
    exact ⟨by rw [HF.out]; rfl, rfl⟩
def mayV (T : Nat) : Value := .func (.func 87) #[.pointer (some ⟨T, 0, none⟩)] #[]
/-- which is the first that holds? -/
def IdxAt (p : Nat → Bool) (xs : List Nat) (e : Ending) : Prop := (∃ k, ∃ h : k < xs.length, e = .returned (.int .i64 (k : Int)) ∧ p xs[k] = true ∧ ∀ j (g : j < xs.length), j < k → p xs[j] = false) ∨ (e = .returned (.int .i64 (-1)) ∧ ∀ j (g : j < xs.length), p xs[j] = false)
set_option maxHeartbeats 1000000 in
theorem IndexFunc_may (v : Value) (xs : List Nat) (T : Nat) (tv lv : Value) (op pages hb lb most : Nat) (chv : Value) (nh nl : Nat) (held left : Nat → Bool) (w : World) (hv : Hid (URow w v xs)) (h : Hid (TB w T tv lv op pages hb lb most chv)) (hh : Hid (SetM w hb nh held)) (hl : Hid (SetM w lb nl left)) :
    Calls Try.prog 79 #[v, mayV T] w fun e w' => IdxAt (mayF left held) xs e ∧ w' = w := by
  obtain ⟨ad, c, hv1, hlen, hc⟩ := hv.out.form
  subst hv1
  have HC := Lib.hid hc
  have HA := Lib.hid hv.out.1
  have HM : Hid (∀ x : Nat, x < 4294967296 → Calls Try.prog 87 #[.pointer (some ⟨T, 0, none⟩), .int .u32 (x : Int)] w fun e w' => e = .returned (.bool (mayF left held x)) ∧ w' = w) := fun x hx => may_any T tv lv op pages hb lb most chv nh nl held left x w hx h hh hl
  have HY : Hid (∀ k (h : k < xs.length), mayF left held xs[k] = true → (∀ j (g : j < xs.length), j < k → mayF left held xs[j] = false) → IdxAt (mayF left held) xs (.returned (.int .i64 (k : Int))) ∧ w = w) := fun k h e1 e2 => ⟨.inl ⟨k, h, rfl, e1, e2⟩, rfl⟩
  have HZ : Hid ((∀ j (g : j < xs.length), mayF left held xs[j] = false) → IdxAt (mayF left held) xs (.returned (.int .i64 (-1))) ∧ w = w) := fun e1 => ⟨.inr ⟨rfl, e1⟩, rfl⟩
  obtain ⟨R, hR⟩ : ∃ R : Ending → World → Prop, (fun e w' => IdxAt (mayF left held) xs e ∧ w' = w) = R := ⟨_, rfl⟩
  have HY : Hid (∀ k (h : k < xs.length), mayF left held xs[k] = true → (∀ j (g : j < xs.length), j < k → mayF left held xs[j] = false) → R (.returned (.int .i64 (k : Int))) w) := by rw [← hR]; exact HY.out
  have HZ : Hid ((∀ j (g : j < xs.length), mayF left held xs[j] = false) → R (.returned (.int .i64 (-1))) w) := by rw [← hR]; exact HZ.out
  rw [hR]
  clear hc hR
  unfold mayV
  go_enter Try.func79, Try.ntmps79
  go_upto_region 2 with fail
  go_loopw [8] (fun i wr => ∃ (k : Nat), k ≤ xs.length ∧ Hid (∀ j (h : j < xs.length), j < k → mayF left held xs[j] = false) ∧ wr = w ∧ i = .int .i64 (k : Int)) (fun i _ => xs.length - (intOf i).toNat)
  case atStart => exact ⟨0, Nat.zero_le _, fun j _ h => by omega, by first | rfl | trivial, rfl⟩
  case round =>
    obtain ⟨k, hk, HN, rfl, rfl⟩ := hrel
    by_cases hlt : k < xs.length
    case pos =>
      have dk : decide (k < xs.length) = true := decide_eq_true hlt
      have dk2 : decide ((k : Int) < (xs.length : Int)) = true := decide_eq_true (by omega)
      have ik : (k : Int) < (xs.length : Int) := by omega
      obtain ⟨vb, vo, rfl, hcs⟩ := HC.out (by omega)
      have hc := hcs k hlt
      have hy := HY.out k hlt
      have hm := HM.out _ (HA.out _ (List.getElem_mem hlt))
      obtain ⟨y, hy1⟩ : ∃ y, xs[k] = y := ⟨_, rfl⟩
      rw [hy1] at hc hy hm
      have Hy := Lib.hid hy1
      have HY2 := Lib.hid hy
      unfold uN at hc
      obtain ⟨q, hq⟩ : ∃ q, mayF left held y = q := ⟨_, rfl⟩
      have HQ := Lib.hid hq
      rw [hq] at hm
      have Hm := Lib.hid hm
      clear hy1 hy hcs hq hm
      cases q
      case true =>
        have hf := HY2.out HQ.out HN.out
        have Hf := Lib.hid hf
        clear hf
        go_wp2_with (go_at_call 87; refine Hm.out.mono ?_; rintro e w2 ⟨rfl, rfl⟩)
        exact Hf.out
      case false =>
        have HN2 : Hid (∀ j (h : j < xs.length), j < k + 1 → mayF left held xs[j] = false) := fun j h hj => by
          by_cases e : j = k
          · subst e; rw [Hy.out, HQ.out]
          · exact HN.out j h (by omega)
        clear HN
        go_wp2_with (go_at_call 87; refine Hm.out.mono ?_; rintro e w2 ⟨rfl, rfl⟩)
        exact ⟨⟨k + 1, by omega, HN2, by first | rfl | trivial, by go_num⟩, by simp [intOf]; omega⟩
    case neg =>
      have dk : decide (k < xs.length) = false := decide_eq_false hlt
      have dk2 : decide ((k : Int) < (xs.length : Int)) = false := decide_eq_false (by omega)
      have hf := HZ.out (fun j h => HN.out j h (by omega))
      have Hf := Lib.hid hf
      clear hf
      go_wp2_with fail
      exact Hf.out
theorem seen_no (a b : Int) (pages : Nat) (v : Value) (cs : List (Nat × List Nat)) (w : World) (hp : pages < 4294967296) (hv : Hid (CRow w v cs)) (hs : Hid (seenGo (entI a b) pages cs [] = none)) :
    Calls Try.prog 71 #[.agg #[.int .i64 a, .int .i64 b], v, .int .u32 (pages : Int)] w fun e w' => e = .returned (.tuple #[.map none, .bool false]) ∧ Below w.heap.size w w' :=
  (seen_any a b pages v cs w hp hv).mono (fun e w' h => by
    obtain ⟨b3, ⟨acc, g, n, h1, _⟩ | ⟨_, rfl⟩⟩ := h
    · rw [hs.out] at h1; cases h1
    · exact ⟨rfl, b3⟩)
theorem seen_yes (a b : Int) (pages : Nat) (v : Value) (cs : List (Nat × List Nat)) (w : World) (hp : pages < 4294967296) (hv : Hid (CRow w v cs)) (acc : List Nat) (hs : Hid (seenGo (entI a b) pages cs [] = some acc)) :
    Calls Try.prog 71 #[.agg #[.int .i64 a, .int .i64 b], v, .int .u32 (pages : Int)] w fun e w' => ∃ g, e = .returned (.tuple #[.map (some g), .bool true]) ∧ w.heap.size ≤ g ∧ SetM w' g acc.length (fun z => acc.contains z) ∧ Below w.heap.size w w' :=
  (seen_any a b pages v cs w hp hv).mono (fun e w' h => by
    obtain ⟨b3, ⟨acc2, g, n, h1, rfl, h2, h3, rfl⟩ | ⟨h1, _⟩⟩ := h
    · rw [hs.out] at h1; cases h1; exact ⟨g, rfl, h2, h3, b3⟩
    · rw [hs.out] at h1; cases h1)
/-- is a chain right? -/
def chkI (a b : Int) (cs : List (Nat × List Nat)) (pages : Nat) : Int := if mayB a b && (decide (2 ≤ pages) && decide (pages ≤ 65536)) then (match seenGo (entI a b) pages cs [] with | some _ => 0 | none => 90) else 2
set_option maxHeartbeats 2000000 in
theorem Check_any (a b : Int) (pages : Nat) (v : Value) (cs : List (Nat × List Nat)) (w : World) (hp : pages < 4294967296) (hv : Hid (CRow w v cs)) :
    Calls Try.prog 39 #[.agg #[.int .i64 a, .int .i64 b], v, .int .u32 (pages : Int)] w fun e w' => e = .returned (.int .i64 (chkI a b cs pages)) ∧ Below w.heap.size w w' := by
  obtain ⟨N, hN⟩ : ∃ N, w.heap.size = N := ⟨_, rfl⟩
  have HN := Lib.hid hN
  rw [hN]
  obtain ⟨q, hq⟩ : ∃ q, mayB a b = q := ⟨_, rfl⟩
  have HQ := Lib.hid hq
  clear hN hq
  go_enter Try.func39, Try.ntmps39
  go_upto_region 0 with fail
  with_reducible refine wp_region_list ?_
  refine wpList_boxB rfl _ _ rfl N HN.out #[.int .i64 a, .int .i64 b] rfl ?_
  intro w0 e0 b0 z0
  (try simp only [Act.put, nA, nB, nC])
  (with_reducible refine wpList_plain rfl ?_); intro K hK; go_simp; (with_reducible refine hK _ _ ?_); clear hK K; try simp only [Act.put, nA, nB, nC]
  have E0 := Lib.hid e0
  have B0 := Lib.hid b0
  have Z0 := Lib.hid z0
  clear e0 b0 z0
  have k0 := heap_cell E0.out (o := 0)
  have k1 := heap_cell E0.out (o := 1)
  go_upto_region 1 with fail
  with_reducible refine wp_region_list ?_
  (with_reducible refine wpList_plain rfl ?_); intro K hK; go_simp; (with_reducible refine hK _ _ ?_); clear hK K; try simp only [Act.put, nA, nB, nC]
  with_reducible refine wpList_plain rfl ?_
  intro K hK
  go_simp
  refine (Right_any a b w0).mono ?_; rintro e w2 ⟨rfl, b2⟩; rw [HQ.out]
  first | with_reducible refine hK _ _ ?_ | refine hK _ _ ?_
  clear hK K
  (try simp only [Act.put, nA, nB, nC])
  have E2 : Hid (w2.heap[N]? = some (.cells #[.int .i64 a, .int .i64 b] 23 (0, 0))) := heap_below E0.out b2 (heap_lt E0.out)
  have B2 := Lib.hid (B0.out.trans (b2.mono (by have := Z0.out; omega)))
  clear b2 E0 B0 k0 k1
  (with_reducible refine wpList_plain rfl ?_); intro K hK; go_simp; (with_reducible refine hK _ _ ?_); clear hK K; try simp only [Act.put, nA, nB, nC]
  (with_reducible refine wpList_plain rfl ?_); intro K hK; go_simp; (with_reducible refine hK _ _ ?_); clear hK K; try simp only [Act.put, nA, nB, nC]
  have k0 := heap_cell E2.out (o := 0)
  have k1 := heap_cell E2.out (o := 1)
  cases q
  case false =>
    have He : Hid (chkI a b cs pages = 2) := by show _ = _; unfold chkI; rw [HQ.out]; rfl
    go_wp2_with fail
    go_ret
    exact ⟨by rw [He.out]; rfl, B2.out⟩
  case true =>
    by_cases h1 : 2 ≤ pages
    case neg =>
      have He : Hid (chkI a b cs pages = 2) := by show _ = _; unfold chkI; rw [HQ.out, decide_eq_false h1]; rfl
      have d1 : decide (pages < 2) = true := decide_eq_true (by omega)
      have d2 : decide ((pages : Int) < 2) = true := decide_eq_true (by omega)
      go_wp2_with fail
      go_ret
      exact ⟨by rw [He.out]; rfl, B2.out⟩
    case pos =>
      have d1 : decide (pages < 2) = false := decide_eq_false (by omega)
      have d2 : decide ((pages : Int) < 2) = false := decide_eq_false (by omega)
      by_cases h2 : pages ≤ 65536
      case neg =>
        have He : Hid (chkI a b cs pages = 2) := by show _ = _; unfold chkI; rw [HQ.out, decide_eq_true h1, decide_eq_false h2]; rfl
        have d3 : decide (65536 < pages) = true := decide_eq_true (by omega)
        have d4 : decide (65536 < (pages : Int)) = true := decide_eq_true (by omega)
        go_wp2_with fail
        go_ret
        exact ⟨by rw [He.out]; rfl, B2.out⟩
      case pos =>
        have d3 : decide (65536 < pages) = false := decide_eq_false (by omega)
        have d4 : decide (65536 < (pages : Int)) = false := decide_eq_false (by omega)
        have hv2 : Hid (CRow w2 v cs) := hv.out.below (by rw [HN.out]; exact B2.out)
        have He : Hid (chkI a b cs pages = (match seenGo (entI a b) pages cs [] with | some _ => 0 | none => 90)) := by show _ = _; unfold chkI; rw [HQ.out, decide_eq_true h1, decide_eq_true h2]; rfl
        go_upto_region 3 with fail
        with_reducible refine wp_region_list ?_
        (with_reducible refine wpList_plain rfl ?_); intro K hK; go_simp; (with_reducible refine hK _ _ ?_); clear hK K; try simp only [Act.put, nA, nB, nC]
        (with_reducible refine wpList_plain rfl ?_); intro K hK; go_simp; (with_reducible refine hK _ _ ?_); clear hK K; try simp only [Act.put, nA, nB, nC]
        (with_reducible refine wpList_plain rfl ?_); intro K hK; go_simp; (with_reducible refine hK _ _ ?_); clear hK K; try simp only [Act.put, nA, nB, nC]
        cases hs : seenGo (entI a b) pages cs []
        case none =>
          have HS := Lib.hid hs
          with_reducible refine wpList_plain rfl ?_
          intro K hK
          go_simp
          refine (seen_no a b pages v cs w2 hp hv2 HS).mono ?_; rintro e w3 ⟨rfl, b3⟩
          first | with_reducible refine hK _ _ ?_ | refine hK _ _ ?_
          clear hK K
          (try simp only [Act.put, nA, nB, nC])
          have B3 := Lib.hid (B2.out.trans (b3.mono (by have := Z0.out; have := B2.out.size; rw [HN.out] at *; omega)))
          clear b3 k0 k1 E2
          go_wp2_with fail
          go_ret
          exact ⟨by rw [He.out, HS.out]; rfl, B3.out⟩
        case some acc =>
          have HS := Lib.hid hs
          with_reducible refine wpList_plain rfl ?_
          intro K hK
          go_simp
          refine (seen_yes a b pages v cs w2 hp hv2 acc HS).mono ?_; rintro e w3 ⟨g, rfl, _, _, b3⟩
          first | with_reducible refine hK _ _ ?_ | refine hK _ _ ?_
          clear hK K
          (try simp only [Act.put, nA, nB, nC])
          have B3 := Lib.hid (B2.out.trans (b3.mono (by have := Z0.out; have := B2.out.size; rw [HN.out] at *; omega)))
          clear b3 k0 k1 E2
          go_wp2_with fail
          go_ret
          exact ⟨by rw [He.out, HS.out]; rfl, B3.out⟩
end Go.Proofs.Ytkngmnfgdlnddaa

namespace Go.Proofs.Ytkngmnfgdlnddaa
open Go.RowKit Go.Lib Hw Go.Maps
set_option linter.unusedSimpArgs false
set_option linter.unusedVariables false

/-- the first batch that has a number to be taken -/
def scanF (m : Nat → Bool) : List (Nat × List Nat) → Nat → Nat × Option Nat
  | [], at_ => (at_, none)
  | c :: r, at_ => match c.2.find? m with | some no => (at_, some no) | none => scanF m r (at_ + 1)
structure TS where
  at_ : Nat
  left : Nat → Bool
  trees : List Nat
  opened : Nat
  pages : Nat
def TS.take (s : TS) (at_ no : Nat) : TS := ⟨at_, fun z => !decide (z = no) && s.left z, s.trees ++ [no], at_ + 1, s.pages⟩
def TS.grow (s : TS) (at_ : Nat) : TS := ⟨at_, s.left, s.trees ++ [s.pages], s.opened, s.pages + 1⟩
def treeF (held : Nat → Bool) (most : Nat) (chain : List (Nat × List Nat)) (s : TS) : Option TS :=
  match scanF (mayF s.left held) (chain.drop s.at_) s.at_ with
  | (a, some no) => some (s.take a no)
  | (a, none) => if s.pages < most then some (s.grow a) else none
def treesF (held : Nat → Bool) (most : Nat) (chain : List (Nat × List Nat)) : Nat → TS → Option TS
  | 0, s => some s
  | n + 1, s => match treeF held most chain s with | some s2 => treesF held most chain n s2 | none => none
/-- what has been taken: each once, below the end; what is left was not taken -/
def TInv (s : TS) : Prop := Met s.pages s.trees ∧ ∀ x, s.left x = true → x < s.pages ∧ x ∉ s.trees
theorem Met.snoc {p q x : Nat} {l : List Nat} (h : Met p l) (hx : x ∉ l) (hp : p ≤ q) (hq : x < q) : Met q (l ++ [x]) := by
  refine ⟨List.nodup_append.2 ⟨h.1, by simp, fun a ha b hb => ?_⟩, fun y hy => ?_⟩
  · rw [List.mem_singleton.1 hb]
    exact fun e => hx (e ▸ ha)
  · rcases List.mem_append.1 hy with h1 | h1
    · exact Nat.lt_of_lt_of_le (h.2 y h1) hp
    · rw [List.mem_singleton.1 h1]; exact hq
theorem TInv.take {s : TS} (h : TInv s) (a no : Nat) (hn : s.left no = true) : TInv (s.take a no) := by
  refine ⟨h.1.snoc (h.2 no hn).2 (Nat.le_refl _) (h.2 no hn).1, fun x hx => ?_⟩
  simp only [TS.take, Bool.and_eq_true, Bool.not_eq_true', decide_eq_false_iff_not] at hx
  refine ⟨(h.2 x hx.2).1, fun hm => ?_⟩
  rcases List.mem_append.1 hm with h1 | h1
  · exact (h.2 x hx.2).2 h1
  · exact hx.1 (List.mem_singleton.1 h1)
theorem TInv.grow {s : TS} (h : TInv s) (a : Nat) : TInv (s.grow a) := by
  refine ⟨h.1.snoc (fun hm => absurd (h.1.2 _ hm) (Nat.lt_irrefl _)) (Nat.le_succ _) (Nat.lt_succ_self _), fun x hx => ?_⟩
  have h1 := h.2 x hx
  refine ⟨Nat.lt_succ_of_lt h1.1, fun hm => ?_⟩
  rcases List.mem_append.1 hm with h2 | h2
  · exact h1.2 h2
  · rw [List.mem_singleton.1 h2] at h1
    exact absurd h1.1 (Nat.lt_irrefl _)
theorem scanF_drop {m : Nat → Bool} {cs : List (Nat × List Nat)} {k : Nat} (h : k < cs.length) : scanF m (cs.drop k) k = match cs[k].2.find? m with | some no => (k, some no) | none => scanF m (cs.drop (k + 1)) (k + 1) := by
  rw [List.drop_eq_getElem_cons h, scanF]
theorem scanF_le {m : Nat → Bool} : ∀ (cs : List (Nat × List Nat)) (k : Nat), (scanF m cs k).1 ≤ k + cs.length
  | [], k => Nat.le_refl _
  | c :: r, k => by
    rw [scanF]
    split
    · exact Nat.le_add_right _ _
    · have := scanF_le (m := m) r (k + 1)
      rw [List.length_cons]
      omega
theorem IdxAt.no {p : Nat → Bool} {xs : List Nat} {e : Ending} (h : IdxAt p xs e) (hf : xs.find? p = none) : e = .returned (.int .i64 (-1)) := by
  rcases h with ⟨k, hk, _, h1, _⟩ | ⟨h1, _⟩
  · have := List.find?_eq_none.1 hf _ (List.getElem_mem hk)
    rw [h1] at this
    exact absurd rfl this
  · exact h1
theorem IdxAt.yes {p : Nat → Bool} {xs : List Nat} {e : Ending} {y : Nat} (h : IdxAt p xs e) (hf : xs.find? p = some y) : ∃ k, ∃ h : k < xs.length, e = .returned (.int .i64 (k : Int)) ∧ xs[k] = y := by
  rcases h with ⟨k, hk, he, h1, h2⟩ | ⟨_, h1⟩
  · refine ⟨k, hk, he, ?_⟩
    obtain ⟨h3, l1, l2, h4, h5⟩ := List.find?_eq_some_iff_append.1 hf
    have h6 : l1.length = k := by
      rcases Nat.lt_trichotomy l1.length k with h7 | h7 | h7
      · have h8 := h2 l1.length (by rw [h4]; simp) h7
        have h9 : xs[l1.length]'(by rw [h4]; simp) = y := by simp [h4]
        rw [h9, h3] at h8
        cases h8
      · exact h7
      · have h8 : xs[k] = l1[k] := by simp [h4, List.getElem_append_left h7]
        have h9 := h5 l1[k] (List.getElem_mem h7)
        rw [← h8, h1] at h9
        cases h9
    subst h6
    simp [h4]
  · obtain ⟨h3, l1, l2, h4, h5⟩ := List.find?_eq_some_iff_append.1 hf
    have h8 := h1 l1.length (by rw [h4]; simp)
    have h9 : xs[l1.length]'(by rw [h4]; simp) = y := by simp [h4]
    rw [h9, h3] at h8
    cases h8
theorem mod_mapTurned {w w' : World} {b : Nat} (h : w.mapTurned w' b) : Mod (fun k => k = b) w w' := Mod.grown h.grown (fun k e => (Option.some.inj e).symm)
theorem TB.mod {S : Nat → Prop} {w w' : World} {T : Nat} {tv lv : Value} {op pages hb lb most : Nat} {chv : Value} (h : TB w T tv lv op pages hb lb most chv) (m : Mod S w w') (hn : ¬ S T) : TB w' T tv lv op pages hb lb most chv := m.heap h hn
theorem TB.set0 {w : World} {T : Nat} {tv lv : Value} {op pages hb lb most : Nat} {chv : Value} (h : TB w T tv lv op pages hb lb most chv) (u : Value) : TB (w.setCell ⟨T, 0, none⟩ u) T u lv op pages hb lb most chv := by
  unfold TB at h ⊢
  rw [heap_set h]
  rfl
theorem TB.set1 {w : World} {T : Nat} {tv lv : Value} {op pages hb lb most : Nat} {chv : Value} (h : TB w T tv lv op pages hb lb most chv) (u : Value) : TB (w.setCell ⟨T, 1, none⟩ u) T tv u op pages hb lb most chv := by
  unfold TB at h ⊢
  rw [heap_set h]
  rfl
theorem TB.set2 {w : World} {T : Nat} {tv lv : Value} {op pages hb lb most : Nat} {chv : Value} (h : TB w T tv lv op pages hb lb most chv) (u : Value) (op2 : Nat) (hu : u = .int .i64 (op2 : Int)) : TB (w.setCell ⟨T, 2, none⟩ u) T tv lv op2 pages hb lb most chv := by
  subst hu
  unfold TB at h ⊢
  rw [heap_set h]
  rfl
theorem treeF_yes {held : Nat → Bool} {most : Nat} {chain : List (Nat × List Nat)} {s : TS} {a no : Nat} (h : scanF (mayF s.left held) (chain.drop s.at_) s.at_ = (a, some no)) : treeF held most chain s = some (s.take a no) := by
  unfold treeF
  rw [h]
theorem treeF_no {held : Nat → Bool} {most : Nat} {chain : List (Nat × List Nat)} {s : TS} {a : Nat} (h : scanF (mayF s.left held) (chain.drop s.at_) s.at_ = (a, none)) : treeF held most chain s = if s.pages < most then some (s.grow a) else none := by
  unfold treeF
  rw [h]
theorem treesF_go {held : Nat → Bool} {most : Nat} {chain : List (Nat × List Nat)} {s s2 : TS} {n k : Nat} (hk : k < n) (h : treeF held most chain s = some s2) : treesF held most chain (n - k) s = treesF held most chain (n - (k + 1)) s2 := by
  obtain ⟨d, hd⟩ : ∃ d, n - k = d + 1 := ⟨n - k - 1, by omega⟩
  rw [hd, show n - (k + 1) = d by omega, treesF, h]
theorem treesF_stop {held : Nat → Bool} {most : Nat} {chain : List (Nat × List Nat)} {s : TS} {n k : Nat} (hk : k < n) (h : treeF held most chain s = none) : treesF held most chain (n - k) s = none := by
  obtain ⟨d, hd⟩ : ∃ d, n - k = d + 1 := ⟨n - k - 1, by omega⟩
  rw [hd, treesF, h]
/-- where a plan and its chain lie -/
structure Seat (w0 : World) (chv : Value) (chain : List (Nat × List Nat)) (T hb lb B : Nat) : Prop where
  row : CRow w0 chv chain
  h0 : w0.heap.size ≤ hb
  l0 : w0.heap.size ≤ lb
  t0 : w0.heap.size ≤ T
  th : T ≠ hb
  tl : T ≠ lb
  hl : hb ≠ lb
  tB : T < B
  hB : hb < B
  lB : lb < B
def TMod (T lb B : Nat) (w w' : World) : Prop := Mod (fun k => k = T ∨ k = lb ∨ B ≤ k) w w'
def TreesPost (w0 : World) (chv : Value) (chain : List (Nat × List Nat)) (T hb lb B : Nat) (lv : Value) (most nl : Nat) (r : Option TS) (w : World) (e : Ending) (w' : World) : Prop :=
  TMod T lb B w w' ∧ match r with
  | some s => e = .returned (.bool true) ∧ ∃ tv, TB w' T tv lv s.opened s.pages hb lb most chv ∧ OwnM w' B tv s.trees ∧ SetM w' lb nl s.left
  | none => e = .returned (.bool false)
set_option maxRecDepth 5000 in
set_option maxHeartbeats 4000000 in
theorem trees_any (w0 : World) (chv : Value) (chain : List (Nat × List Nat)) (T hb lb B : Nat) (tv lv : Value) (most nh nl n : Nat) (held : Nat → Bool) (s0 : TS) (w : World) (hs : Hid (Seat w0 chv chain T hb lb B)) (hw : Hid (Below w0.heap.size w0 w)) (hBw : B ≤ w.heap.size) (hm : most ≤ 65536) (ha0 : s0.at_ = 0)
    (ht : Hid (TB w T tv lv s0.opened s0.pages hb lb most chv)) (ho : Hid (OwnM w B tv s0.trees)) (hh : Hid (SetM w hb nh held)) (hl : Hid (SetM w lb nl s0.left)) (hi : Hid (TInv s0)) (hpm : s0.pages ≤ most) (hn : n ≤ 9223372036854775807) :
    Calls Try.prog 72 #[.pointer (some ⟨T, 0, none⟩), .int .i64 (n : Int)] w (TreesPost w0 chv chain T hb lb B lv most nl (treesF held most chain n s0) w) := by
  have hTB := hs.out.tB
  have hHB := hs.out.hB
  have hLB := hs.out.lB
  have hTh := hs.out.th
  have hTl := hs.out.tl
  have hhl := hs.out.hl
  have ht0 := hs.out.t0
  have hh0 := hs.out.h0
  have hl0 := hs.out.l0
  have HYes : Hid (∀ s wr tv', treesF held most chain n s0 = some s → TMod T lb B w wr → TB wr T tv' lv s.opened s.pages hb lb most chv → OwnM wr B tv' s.trees → SetM wr lb nl s.left → TreesPost w0 chv chain T hb lb B lv most nl (treesF held most chain n s0) w (.returned (.bool true)) wr) := fun s wr tv' h1 h2 h3 h4 h5 => by
    rw [h1]
    exact ⟨h2, rfl, tv', h3, h4, h5⟩
  have HNo : Hid (∀ wr, treesF held most chain n s0 = none → TMod T lb B w wr → TreesPost w0 chv chain T hb lb B lv most nl (treesF held most chain n s0) w (.returned (.bool false)) wr) := fun wr h1 h2 => by
    rw [h1]
    exact ⟨h2, rfl⟩
  obtain ⟨R, hR⟩ : ∃ R, TreesPost w0 chv chain T hb lb B lv most nl (treesF held most chain n s0) w = R := ⟨_, rfl⟩
  rw [hR] at HYes HNo ⊢
  clear hR
  go_enter Try.func72, Try.ntmps72
  go_wp2_with fail
  apply wp_scope_straight
  go_wp2_with fail
  apply wp_label
  go_wp2_with fail
  go_loopw [5, 11] (fun av iv wr => ∃ (k : Nat) (s : TS) (tv' : Value), k ≤ n ∧ Hid (treesF held most chain n s0 = treesF held most chain (n - k) s) ∧ Hid (TMod T lb B w wr) ∧ Hid (TB wr T tv' lv s.opened s.pages hb lb most chv) ∧ Hid (OwnM wr B tv' s.trees) ∧ Hid (SetM wr lb nl s.left) ∧ Hid (TInv s) ∧ s.pages ≤ most ∧ s.at_ ≤ chain.length ∧ av = .int .i64 (s.at_ : Int) ∧ iv = .int .i64 (k : Int)) (fun av iv _ => n - (intOf iv).toNat)
  case atStart => exact ⟨0, s0, tv, Nat.zero_le _, rfl, Mod.refl _ _, ht, ho, hl, hi, hpm, by omega, by rw [ha0]; rfl, rfl⟩
  case round =>
    obtain ⟨k, s, tv2, hk, HF, HM, HT, HO, HL, HI, hpm2, ha, rfl, rfl⟩ := hrel
    by_cases hlt : k < n
    case neg =>
      have dk2 : decide ((k : Int) < (n : Int)) = false := decide_eq_false (by omega)
      obtain rfl : k = n := by omega
      have hf := HF.out
      rw [Nat.sub_self, treesF] at hf
      have hR := HYes.out s wr tv2 hf HM.out HT.out HO.out HL.out
      have HR := Lib.hid hR
      clear hf hR
      go_wp2_with fail
      exact HR.out
    case pos =>
      have dk2 : decide ((k : Int) < (n : Int)) = true := decide_eq_true (by omega)
      have ik : (k : Int) < (n : Int) := by omega
      go_upto_region 4 with fail
      have HW : Hid (Below w0.heap.size w0 wr) := hw.out.trans (HM.out.below (n := w0.heap.size) (fun j hj e => by omega) (by omega))
      have HC : Hid (CRow wr chv chain) := hs.out.row.below HW.out
      have HH : Hid (SetM wr hb nh held) := hh.out.mod HM.out (by omega)
      have hzw : B ≤ wr.heap.size := by have := HM.out.size; omega
      obtain ⟨had, hc1, cad, ccap, hcv, hcl, hcm, hcr⟩ : (∀ c ∈ chain, c.1 < 4294967296) ∧ True ∧ ∃ ad c, chv = .slice ad chain.length c ∧ chain.length ≤ c ∧ c ≤ 9223372036854775807 ∧ (0 < chain.length → ∃ b o, ad = some ⟨b, o, none⟩ ∧ b < wr.heap.size ∧ ∀ i (h : i < chain.length), ∃ nv, wr.rangeAt b (o + i * 2) [uN chain[i].1, nv] ∧ URow wr nv chain[i].2) := by
        obtain ⟨h0, ad, c, h1, h2, h3, h4⟩ := HC.out
        exact ⟨h0, trivial, ad, c, h1, h2, h3, h4⟩
      have HCR := Lib.hid hcr
      subst hcv
      clear hcr
      obtain ⟨m, hm1⟩ : ∃ m, mayF s.left held = m := ⟨_, rfl⟩
      have Hm := Lib.hid hm1
      clear hm1
      have hmf : ∀ (fn : Fn) (first cap : Array Value) (w : World), (Instr.makeFunc fn first cap).run Try.prog w = .ok (.func fn first cap) w := fun _ _ _ _ => rfl
      have c7 := heap_cell HT.out (o := 7)
      obtain ⟨wo, hwo⟩ : ∃ W, wr = W := ⟨_, rfl⟩
      go_loopw [5] (fun av wr2 => ∃ (j : Nat), j ≤ chain.length ∧ Hid (scanF m (chain.drop s.at_) s.at_ = scanF m (chain.drop j) j) ∧ wr2 = wo ∧ av = .int .i64 (j : Int)) (fun av _ => chain.length - (intOf av).toNat)
      case atStart => exact ⟨s.at_, ha, rfl, hwo, rfl⟩
      case round =>
        subst hwo
        obtain ⟨j, hj, HSC, rfl, rfl⟩ := hrel
        by_cases hjx : j < chain.length
        case pos =>
          have ij : (j : Int) < (chain.length : Int) := by omega
          obtain ⟨cb, co, rfl, _, hcs⟩ := HCR.out (by omega)
          obtain ⟨nv, hr, hu⟩ := hcs j hjx
          have hsc := HSC.out
          rw [scanF_drop hjx] at hsc
          obtain ⟨⟨pg, xs⟩, hcx⟩ : ∃ c, chain[j] = c := ⟨_, rfl⟩
          rw [hcx] at hr hu hsc
          simp only at hr hu hsc
          have HU := Lib.hid hu
          obtain ⟨nad, nc, hnv, hnl, hx9⟩ := hu.form
          have HX := Lib.hid hx9
          subst hnv
          have r1 := hr 1 _ rfl
          have HSC2 := Lib.hid hsc
          clear hr hu hsc hcx hcs HSC hx9
          have hct := HT.out
          cases hf : xs.find? m
          case none =>
            rw [hf] at HSC2
            have HF1 := Lib.hid hf
            clear hf
            go_upto_region 6 with fail
            with_reducible refine wp_region_list ?_
            (with_reducible refine wpList_plain rfl ?_); intro K hK; go_simp; (with_reducible refine hK _ _ ?_); clear hK K; try simp only [Act.put, nA, nB, nC]
            (with_reducible refine wpList_plain rfl ?_); intro K hK; go_simp; (with_reducible refine hK _ _ ?_); clear hK K; try simp only [Act.put, nA, nB, nC]
            (with_reducible refine wpList_plain rfl ?_); intro K hK; go_simp; (with_reducible refine hK _ _ ?_); clear hK K; try simp only [Act.put, nA, nB, nC]
            (with_reducible refine wpList_plain rfl ?_); intro K hK; go_simp; (with_reducible refine hK _ _ ?_); clear hK K; try simp only [Act.put, nA, nB, nC]
            (with_reducible refine wpList_plain rfl ?_); intro K hK; go_simp; (with_reducible refine hK _ _ ?_); clear hK K; try simp only [Act.put, nA, nB, nC]
            (with_reducible refine wpList_plain rfl ?_); intro K hK; go_simp; (with_reducible refine hK _ _ ?_); clear hK K; try simp only [Act.put, nA, nB, nC]
            (with_reducible refine wpList_plain rfl ?_); intro K hK; go_simp; (with_reducible refine hK _ _ ?_); clear hK K; try simp only [Act.put, nA, nB, nC]
            (with_reducible refine wpList_plain rfl ?_); intro K hK; go_simp; (with_reducible refine hK _ _ ?_); clear hK K; try simp only [Act.put, nA, nB, nC]
            (with_reducible refine wpList_plain rfl ?_); intro K hK; go_simp; (with_reducible refine hK _ _ ?_); clear hK K; try simp only [Act.put, nA, nB, nC]
            (with_reducible refine wpList_plain rfl ?_); intro K hK; go_simp; (with_reducible refine hK _ _ ?_); clear hK K; try simp only [Act.put, nA, nB, nC]
            with_reducible refine wpList_plain rfl ?_
            intro K hK
            go_simp
            refine (IndexFunc_may _ xs T tv2 lv s.opened s.pages hb lb most _ nh nl held s.left _ HU HT HH HL).mono ?_; rintro e w2 ⟨hix, rfl⟩; rw [Hm.out] at hix; obtain rfl := hix.no HF1.out
            first | with_reducible refine hK _ _ ?_ | refine hK _ _ ?_
            clear hK K
            (try simp only [Act.put, nA, nB, nC])
            (with_reducible refine wpList_plain rfl ?_); intro K hK; go_simp; (with_reducible refine hK _ _ ?_); clear hK K; try simp only [Act.put, nA, nB, nC]
            go_wp2_with fail
            exact ⟨⟨j + 1, by omega, HSC2, by first | rfl | trivial, by go_num⟩, by simp [intOf]; omega⟩
          case some y =>
            rw [hf] at HSC2
            have HF1 := Lib.hid hf
            have hy0 : y < 4294967296 := HU.out.1 _ (List.mem_of_find?_eq_some hf)
            have hy1 : s.left y = true := by
              have := List.find?_some hf
              rw [← Hm.out] at this
              unfold mayF at this
              exact (Bool.and_eq_true_iff.1 this).1
            clear hf
            go_upto_region 6 with fail
            with_reducible refine wp_region_list ?_
            (with_reducible refine wpList_plain rfl ?_); intro K hK; go_simp; (with_reducible refine hK _ _ ?_); clear hK K; try simp only [Act.put, nA, nB, nC]
            (with_reducible refine wpList_plain rfl ?_); intro K hK; go_simp; (with_reducible refine hK _ _ ?_); clear hK K; try simp only [Act.put, nA, nB, nC]
            (with_reducible refine wpList_plain rfl ?_); intro K hK; go_simp; (with_reducible refine hK _ _ ?_); clear hK K; try simp only [Act.put, nA, nB, nC]
            (with_reducible refine wpList_plain rfl ?_); intro K hK; go_simp; (with_reducible refine hK _ _ ?_); clear hK K; try simp only [Act.put, nA, nB, nC]
            (with_reducible refine wpList_plain rfl ?_); intro K hK; go_simp; (with_reducible refine hK _ _ ?_); clear hK K; try simp only [Act.put, nA, nB, nC]
            (with_reducible refine wpList_plain rfl ?_); intro K hK; go_simp; (with_reducible refine hK _ _ ?_); clear hK K; try simp only [Act.put, nA, nB, nC]
            (with_reducible refine wpList_plain rfl ?_); intro K hK; go_simp; (with_reducible refine hK _ _ ?_); clear hK K; try simp only [Act.put, nA, nB, nC]
            (with_reducible refine wpList_plain rfl ?_); intro K hK; go_simp; (with_reducible refine hK _ _ ?_); clear hK K; try simp only [Act.put, nA, nB, nC]
            (with_reducible refine wpList_plain rfl ?_); intro K hK; go_simp; (with_reducible refine hK _ _ ?_); clear hK K; try simp only [Act.put, nA, nB, nC]
            (with_reducible refine wpList_plain rfl ?_); intro K hK; go_simp; (with_reducible refine hK _ _ ?_); clear hK K; try simp only [Act.put, nA, nB, nC]
            with_reducible refine wpList_plain rfl ?_
            intro K hK
            go_simp
            refine (IndexFunc_may _ xs T tv2 lv s.opened s.pages hb lb most _ nh nl held s.left _ HU HT HH HL).mono ?_; rintro e w2 ⟨hix, rfl⟩; rw [Hm.out] at hix; obtain ⟨q, hq, rfl, hxq⟩ := hix.yes HF1.out
            first | with_reducible refine hK _ _ ?_ | refine hK _ _ ?_
            clear hK K
            (try simp only [Act.put, nA, nB, nC])
            (with_reducible refine wpList_plain rfl ?_); intro K hK; go_simp; (with_reducible refine hK _ _ ?_); clear hK K; try simp only [Act.put, nA, nB, nC]
            have iq : (q : Int) < (xs.length : Int) := by omega
            obtain ⟨nb, no, rfl, hcs2⟩ := HX.out (by omega)
            have r2 := hcs2 q hq
            rw [hxq] at r2
            unfold uN at r2
            have d0 : decide ((q : Int) < 0) = false := decide_eq_false (by omega)
            clear hcs2 hxq
            go_upto_region 9 with fail
            with_reducible refine wp_region_list ?_
            have c5 := heap_cell HT.out (o := 5)
            (with_reducible refine wpList_plain rfl ?_); intro K hK; go_simp; (with_reducible refine hK _ _ ?_); clear hK K; try simp only [Act.put, nA, nB, nC]
            (with_reducible refine wpList_plain rfl ?_); intro K hK; go_simp; (with_reducible refine hK _ _ ?_); clear hK K; try simp only [Act.put, nA, nB, nC]
            (with_reducible refine wpList_plain rfl ?_); intro K hK; go_simp; (with_reducible refine hK _ _ ?_); clear hK K; try simp only [Act.put, nA, nB, nC]
            (with_reducible refine wpList_plain rfl ?_); intro K hK; go_simp; (with_reducible refine hK _ _ ?_); clear hK K; try simp only [Act.put, nA, nB, nC]
            (with_reducible refine wpList_plain rfl ?_); intro K hK; go_simp; (with_reducible refine hK _ _ ?_); clear hK K; try simp only [Act.put, nA, nB, nC]
            refine wpList_delM rfl _ _ rfl HL.out rfl y hy0 rfl (fun w3 L3 t3 => ?_)
            (try simp only [Act.put, nA, nB, nC])
            have M3 := mod_mapTurned t3
            have HL3 : Hid (SetM w3 lb nl (s.take j y).left) := L3
            have HT3 := Lib.hid (HT.out.mod M3 (fun e => hTl e))
            have HO3 := Lib.hid (HO.out.mod M3 (fun g hg e => by have := HO.out.lt g hg; omega))
            have HM3 : Hid (TMod T lb B w w3) := HM.out.then (M3.mono (fun i _ e => .inr (.inl e)))
            have HI3 := Lib.hid (HI.out.take j y hy1)
            clear L3 t3 M3 c7 r1 r2 c5
            go_upto_region 10 with fail
            have c0 := heap_cell HT3.out (o := 0)
            have hml := HI.out.1.le
            with_reducible refine wp_region_list ?_
            (with_reducible refine wpList_plain rfl ?_); intro K hK; go_simp; (with_reducible refine hK _ _ ?_); clear hK K; try simp only [Act.put, nA, nB, nC]
            (with_reducible refine wpList_plain rfl ?_); intro K hK; go_simp; (with_reducible refine hK _ _ ?_); clear hK K; try simp only [Act.put, nA, nB, nC]
            (with_reducible refine wpList_plain rfl ?_); intro K hK; go_simp; (with_reducible refine hK _ _ ?_); clear hK K; try simp only [Act.put, nA, nB, nC]
            (with_reducible refine wpList_plain rfl ?_); intro K hK; go_simp; (with_reducible refine hK _ _ ?_); clear hK K; try simp only [Act.put, nA, nB, nC]
            (with_reducible refine wpList_plain rfl ?_); intro K hK; go_simp; (with_reducible refine hK _ _ ?_); clear hK K; try simp only [Act.put, nA, nB, nC]
            (with_reducible refine wpList_plain rfl ?_); intro K hK; go_simp; (with_reducible refine hK _ _ ?_); clear hK K; try simp only [Act.put, nA, nB, nC]
            (with_reducible refine wpList_plain rfl ?_); intro K hK; go_simp; (with_reducible refine hK _ _ ?_); clear hK K; try simp only [Act.put, nA, nB, nC]
            (with_reducible refine wpList_plain rfl ?_); intro K hK; go_simp; (with_reducible refine hK _ _ ?_); clear hK K; try simp only [Act.put, nA, nB, nC]
            refine wpList_appM w3 _ y rfl _ _ rfl B tv2 s.trees rfl HO3.out 1 rfl (by omega) (by have := HM3.out.size; omega) ?_
            intro tv4 w4 O4 M4 N4
            obtain ⟨ad4, cp4, hv4, hx4, hx5, hx6⟩ := O4.shape
            clear hx4 hx5 hx6
            obtain ⟨n4, hn4⟩ : ∃ n, (s.trees ++ [y]).length = n := ⟨_, rfl⟩
            rw [hn4] at hv4
            subst hv4
            clear hn4
            (try simp only [Act.put, nA, nB, nC])
            have HT4 := Lib.hid (HT3.out.mod M4 (fun e => by have := (HO3.out.lt T e).1; omega))
            have HM4 : Hid (TMod T lb B w w4) := HM3.out.then (M4.mono (fun i _ e => .inr (.inr (HO3.out.lt i e).1)))
            have HL4 := Lib.hid (HL3.out.mod M4 (fun e => by have := (HO3.out.lt lb e).1; omega))
            have f4 := heap_free HT4.out 0
            clear c0
            have c4 := heap_cell HT4.out (o := 0)
            (with_reducible refine wpList_plain rfl ?_); intro K hK; go_simp; (with_reducible refine hK _ _ ?_); clear hK K; try simp only [Act.put, nA, nB, nC]
            (with_reducible refine wpList_plain rfl ?_); intro K hK; go_simp; (with_reducible refine hK _ _ ?_); clear hK K; try simp only [Act.put, nA, nB, nC]
            (with_reducible refine wpList_plain rfl ?_); intro K hK; go_simp; (with_reducible refine hK _ _ ?_); clear hK K; try simp only [Act.put, nA, nB, nC]
            (with_reducible refine wpList_plain rfl ?_); intro K hK; go_simp; (with_reducible refine hK _ _ ?_); clear hK K; try simp only [Act.put, nA, nB, nC]
            have HT5 := Lib.hid (HT4.out.set0 (.slice ad4 n4 cp4))
            have M5 := Mod.set (S := fun k => k = T) (o := 0) w4 rfl (.slice ad4 n4 cp4)
            obtain ⟨w5, hw5⟩ : ∃ W, w4.setCell ⟨T, 0, none⟩ (.slice ad4 n4 cp4) = W := ⟨_, rfl⟩
            rw [hw5] at HT5 M5
            rw [hw5]
            have HM5 : Hid (TMod T lb B w w5) := HM4.out.then (M5.mono (fun i _ e => .inl e))
            have HL5 := Lib.hid (HL4.out.mod M5 (fun e => hTl e.symm))
            have HO5 := Lib.hid (O4.mod M5 (fun g hg e => by rcases N4 g hg with h1 | h1; have := (HO3.out.lt g h1).1; omega; have := HM3.out.size; omega))
            clear f4 c4 HT4 HM4 HL4 hw5 M5 O4 M4 N4
            have f5 := heap_free HT5.out 2
            have c5 := heap_cell HT5.out (o := 2)
            obtain ⟨j2, hj2⟩ : ∃ j2 : Nat, j2 = j + 1 := ⟨_, rfl⟩
            have ew1 : (j : Int) + 1 = (j2 : Int) := by omega
            have ew2 : IntKind.i64.wrap (j2 : Int) = (j2 : Int) := IntWalk.i64_in _ (by omega)
            have HJ2 := Lib.hid hj2
            clear hj2
            go_upto_region 11 with fail
            with_reducible refine wp_region_list ?_
            (with_reducible refine wpList_plain rfl ?_); intro K hK; go_simp; (with_reducible refine hK _ _ ?_); clear hK K; try simp only [Act.put, nA, nB, nC]
            (with_reducible refine wpList_plain rfl ?_); intro K hK; go_simp; (with_reducible refine hK _ _ ?_); clear hK K; try simp only [Act.put, nA, nB, nC]
            (with_reducible refine wpList_plain rfl ?_); intro K hK; go_simp; (with_reducible refine hK _ _ ?_); clear hK K; try simp only [Act.put, nA, nB, nC]
            (with_reducible refine wpList_plain rfl ?_); intro K hK; go_simp; (with_reducible refine hK _ _ ?_); clear hK K; try simp only [Act.put, nA, nB, nC]
            (with_reducible refine wpList_plain rfl ?_); intro K hK; go_simp; (with_reducible refine hK _ _ ?_); clear hK K; try simp only [Act.put, nA, nB, nC]
            (with_reducible refine wpList_plain rfl ?_); intro K hK; go_simp; (with_reducible refine hK _ _ ?_); clear hK K; try simp only [Act.put, nA, nB, nC]
            (with_reducible refine wpList_plain rfl ?_); intro K hK; go_simp; (with_reducible refine hK _ _ ?_); clear hK K; try simp only [Act.put, nA, nB, nC]
            have HT6 : Hid (TB (w5.setCell ⟨T, 2, none⟩ (.int .i64 (j2 : Int))) T (.slice ad4 n4 cp4) lv (s.take j y).opened (s.take j y).pages hb lb most _) := HT5.out.set2 _ (j + 1) (by rw [HJ2.out])
            have M6 := Mod.set (S := fun k => k = T) (o := 2) w5 rfl (.int .i64 (j2 : Int))
            obtain ⟨w6, hw6⟩ : ∃ W, w5.setCell ⟨T, 2, none⟩ (.int .i64 (j2 : Int)) = W := ⟨_, rfl⟩
            rw [hw6] at HT6 M6
            rw [hw6]
            have HM6 : Hid (TMod T lb B w w6) := HM5.out.then (M6.mono (fun i _ e => .inl e))
            have HL6 := Lib.hid (HL5.out.mod M6 (fun e => hTl e.symm))
            have HO6 := Lib.hid (HO5.out.mod M6 (fun g hg e => by have := HO5.out.lt g hg; omega))
            have HF6 : Hid (treesF held most chain n s0 = treesF held most chain (n - (k + 1)) (s.take j y)) := by
              have h1 := HSC2.out
              rw [← Hm.out] at h1
              exact HF.out.trans (treesF_go hlt (treeF_yes h1))
            clear ew1 ew2 f5 c5 hw6 M6 HT5 HM5 HL5 HO5 HSC2 HF
            go_wp2_with fail
            exact ⟨⟨k + 1, s.take j y, .slice ad4 n4 cp4, by omega, HF6, HM6, HT6, HO6, HL6, HI3, hpm2, by show j ≤ chain.length; omega, rfl, by go_num⟩, by simp [intOf]; omega⟩
        case neg =>
          have ij : ¬ (j : Int) < (chain.length : Int) := by omega
          obtain rfl : j = chain.length := by omega
          have hsc := HSC.out
          rw [List.drop_length, scanF, ← Hm.out] at hsc
          have HSC2 := Lib.hid hsc
          clear hsc HSC
          by_cases hpg : s.pages < most
          case neg =>
            have hR := HNo.out
            have HF7 := Lib.hid (HF.out.trans (treesF_stop hlt (by rw [treeF_no HSC2.out, if_neg hpg])))
            go_upto_region 12 with fail
            with_reducible refine wp_region_list ?_
            (with_reducible refine wpList_plain rfl ?_); intro K hK; go_simp; (with_reducible refine hK _ _ ?_); clear hK K; try simp only [Act.put, nA, nB, nC]
            with_reducible refine wpList_plain rfl ?_
            intro K hK
            go_simp
            refine (end_no T tv2 lv s.opened s.pages hb lb most _ _ HT hpg).mono ?_; rintro e w7 ⟨rfl, b7⟩
            first | with_reducible refine hK _ _ ?_ | refine hK _ _ ?_
            clear hK K
            (try simp only [Act.put, nA, nB, nC])
            (with_reducible refine wpList_plain rfl ?_); intro K hK; go_simp; (with_reducible refine hK _ _ ?_); clear hK K; try simp only [Act.put, nA, nB, nC]
            have HM7 : Hid (TMod T lb B w w7) := HM.out.then (Mod.of _ b7)
            have hRR := HNo.out w7 HF7.out HM7.out
            have HRR := Lib.hid hRR
            clear hR hRR b7
            go_wp2_with fail
            exact HRR.out
          case pos =>
            have HI7 := Lib.hid (HI.out.grow chain.length)
            have HF7 : Hid (treesF held most chain n s0 = treesF held most chain (n - (k + 1)) (s.grow chain.length)) := HF.out.trans (treesF_go hlt (by rw [treeF_no HSC2.out, if_pos hpg]))
            go_upto_region 12 with fail
            with_reducible refine wp_region_list ?_
            (with_reducible refine wpList_plain rfl ?_); intro K hK; go_simp; (with_reducible refine hK _ _ ?_); clear hK K; try simp only [Act.put, nA, nB, nC]
            with_reducible refine wpList_plain rfl ?_
            intro K hK
            go_simp
            refine (end_yes T tv2 lv s.opened s.pages hb lb most _ _ HT hpg hm).mono ?_; rintro e w7 ⟨rfl, t7, m7⟩
            first | with_reducible refine hK _ _ ?_ | refine hK _ _ ?_
            clear hK K
            (try simp only [Act.put, nA, nB, nC])
            (with_reducible refine wpList_plain rfl ?_); intro K hK; go_simp; (with_reducible refine hK _ _ ?_); clear hK K; try simp only [Act.put, nA, nB, nC]
            have HT7 := Lib.hid t7
            have HM7 : Hid (TMod T lb B w w7) := HM.out.then (m7.mono (fun i _ e => .inl e))
            have HL7 := Lib.hid (HL.out.mod m7 (fun e => hTl e.symm))
            have HO7 := Lib.hid (HO.out.mod m7 (fun g hg e => by have := HO.out.lt g hg; omega))
            clear t7 m7 c7 HSC2 HF
            go_upto_region 15 with fail
            have c0 := heap_cell HT7.out (o := 0)
            have hml := HI.out.1.le
            with_reducible refine wp_region_list ?_
            (with_reducible refine wpList_plain rfl ?_); intro K hK; go_simp; (with_reducible refine hK _ _ ?_); clear hK K; try simp only [Act.put, nA, nB, nC]
            (with_reducible refine wpList_plain rfl ?_); intro K hK; go_simp; (with_reducible refine hK _ _ ?_); clear hK K; try simp only [Act.put, nA, nB, nC]
            (with_reducible refine wpList_plain rfl ?_); intro K hK; go_simp; (with_reducible refine hK _ _ ?_); clear hK K; try simp only [Act.put, nA, nB, nC]
            (with_reducible refine wpList_plain rfl ?_); intro K hK; go_simp; (with_reducible refine hK _ _ ?_); clear hK K; try simp only [Act.put, nA, nB, nC]
            (with_reducible refine wpList_plain rfl ?_); intro K hK; go_simp; (with_reducible refine hK _ _ ?_); clear hK K; try simp only [Act.put, nA, nB, nC]
            (with_reducible refine wpList_plain rfl ?_); intro K hK; go_simp; (with_reducible refine hK _ _ ?_); clear hK K; try simp only [Act.put, nA, nB, nC]
            (with_reducible refine wpList_plain rfl ?_); intro K hK; go_simp; (with_reducible refine hK _ _ ?_); clear hK K; try simp only [Act.put, nA, nB, nC]
            (with_reducible refine wpList_plain rfl ?_); intro K hK; go_simp; (with_reducible refine hK _ _ ?_); clear hK K; try simp only [Act.put, nA, nB, nC]
            refine wpList_appM w7 _ s.pages rfl _ _ rfl B tv2 s.trees rfl HO7.out 1 rfl (by omega) (by have := HM7.out.size; omega) ?_
            intro tv4 w4 O4 M4 N4
            obtain ⟨ad4, cp4, hv4, hx4, hx5, hx6⟩ := O4.shape
            clear hx4 hx5 hx6
            obtain ⟨n4, hn4⟩ : ∃ n, (s.trees ++ [s.pages]).length = n := ⟨_, rfl⟩
            rw [hn4] at hv4
            subst hv4
            clear hn4
            (try simp only [Act.put, nA, nB, nC])
            have HT4 := Lib.hid (HT7.out.mod M4 (fun e => by have := (HO7.out.lt T e).1; omega))
            have HM4 : Hid (TMod T lb B w w4) := HM7.out.then (M4.mono (fun i _ e => .inr (.inr (HO7.out.lt i e).1)))
            have HL4 := Lib.hid (HL7.out.mod M4 (fun e => by have := (HO7.out.lt lb e).1; omega))
            have f4 := heap_free HT4.out 0
            clear c0
            have c4 := heap_cell HT4.out (o := 0)
            (with_reducible refine wpList_plain rfl ?_); intro K hK; go_simp; (with_reducible refine hK _ _ ?_); clear hK K; try simp only [Act.put, nA, nB, nC]
            (with_reducible refine wpList_plain rfl ?_); intro K hK; go_simp; (with_reducible refine hK _ _ ?_); clear hK K; try simp only [Act.put, nA, nB, nC]
            (with_reducible refine wpList_plain rfl ?_); intro K hK; go_simp; (with_reducible refine hK _ _ ?_); clear hK K; try simp only [Act.put, nA, nB, nC]
            (with_reducible refine wpList_plain rfl ?_); intro K hK; go_simp; (with_reducible refine hK _ _ ?_); clear hK K; try simp only [Act.put, nA, nB, nC]
            have HT5 := Lib.hid (HT4.out.set0 (.slice ad4 n4 cp4))
            have M5 := Mod.set (S := fun k => k = T) (o := 0) w4 rfl (.slice ad4 n4 cp4)
            obtain ⟨w5, hw5⟩ : ∃ W, w4.setCell ⟨T, 0, none⟩ (.slice ad4 n4 cp4) = W := ⟨_, rfl⟩
            rw [hw5] at HT5 M5
            rw [hw5]
            have HM5 : Hid (TMod T lb B w w5) := HM4.out.then (M5.mono (fun i _ e => .inl e))
            have HL5 := Lib.hid (HL4.out.mod M5 (fun e => hTl e.symm))
            have HO5 := Lib.hid (O4.mod M5 (fun g hg e => by rcases N4 g hg with h1 | h1; have := (HO7.out.lt g h1).1; omega; have := HM7.out.size; omega))
            clear f4 c4 HT4 HM4 HL4 hw5 M5 O4 M4 N4
            go_wp2_with fail
            exact ⟨⟨k + 1, s.grow chain.length, .slice ad4 n4 cp4, by omega, HF7, HM5, HT5, HO5, HL5, HI7, by show s.pages + 1 ≤ most; omega, Nat.le_refl _, rfl, by go_num⟩, by simp [intOf]; omega⟩
end Go.Proofs.Ytkngmnfgdlnddaa

