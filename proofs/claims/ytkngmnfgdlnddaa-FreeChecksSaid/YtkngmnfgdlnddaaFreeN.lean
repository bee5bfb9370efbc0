/-
  Chains of batches; the walk of seen.
-/
import Derived.Test.YtkngmnfgdlnddaaFreeM
namespace Go.Proofs.Ytkngmnfgdlnddaa
open Go.RowKit Go.Lib Hw Go.Maps
set_option linter.unusedSimpArgs false
set_option linter.unusedVariables false

theorem range_block {w w' : World} {b o : Nat} {cs : List Value} (h : w.rangeAt b o cs) (e : w'.heap[b]? = w.heap[b]?) : w'.rangeAt b o cs := fun j v hv => (World.cell?_of_block (a := ⟨b, o + j, none⟩) e).trans (h j v hv)
theorem nodup_le {α : Type} [DecidableEq α] : ∀ (l m : List α), l.Nodup → (∀ x ∈ l, x ∈ m) → l.length ≤ m.length
  | [], m, _, _ => Nat.zero_le _
  | a :: l, m, hn, hs => by
    have ha := hs a (List.mem_cons_self ..)
    rw [List.nodup_cons] at hn
    have h := nodup_le l (m.erase a) hn.2 (fun x hx => (List.mem_erase_of_ne (fun e => hn.1 (by rw [← e]; exact hx))).2 (hs x (List.mem_cons_of_mem _ hx)))
    rw [List.length_erase_of_mem ha] at h
    have := List.length_pos_of_mem ha
    rw [List.length_cons]
    omega
/-- numbers that were met: each once, below a bound -/
def Met (pages : Nat) (acc : List Nat) : Prop := acc.Nodup ∧ ∀ x ∈ acc, x < pages
theorem Met.le {pages : Nat} {acc : List Nat} (h : Met pages acc) : acc.length ≤ pages := by
  have := nodup_le acc (List.range pages) h.1 (fun x hx => List.mem_range.2 (h.2 x hx))
  rwa [List.length_range] at this
theorem Met.cons {pages x : Nat} {acc : List Nat} (h : Met pages acc) (hf : freshB (fun z => acc.contains z) pages x = true) : Met pages (x :: acc) := by
  unfold freshB at hf
  simp only [Bool.and_eq_true, Bool.not_eq_true', decide_eq_true_eq] at hf
  refine ⟨List.nodup_cons.2 ⟨fun hm => ?_, h.1⟩, fun y hy => ?_⟩
  · have := List.contains_iff_mem.2 hm
    rw [hf.1] at this
    cases this
  · rcases List.mem_cons.1 hy with rfl | hy
    · exact hf.2.2
    · exact h.2 y hy
theorem info_B : (Try.prog.info? 64).map (·.size) = some 2 := by kernel_rfl
theorem Mod.heapc {S : Nat → Prop} {w w' : World} {b o : Nat} (h : Mod S w w') (hb : b < w.heap.size) (hn : ¬ S b) : w'.cell? ⟨b, o, none⟩ = w.cell? ⟨b, o, none⟩ := World.cell?_of_block (a := ⟨b, o, none⟩) (h.block b hb hn)
/-- a store of a whole variable of several cells -/
theorem wpList_storeB {P : Program} {ops : Array Oper} {rest : List Oper} {o : Oper} {a : Act} {w : World} {Q : Exit → Act → World → Prop} (hgd : o.guard = none) (ty : TypeId) (x y : Operand) (ho : o.op = .store ty x y)
    (g : Nat) (cells : Array Value) (hx : a.eval x = .pointer (some ⟨g, 0, none⟩)) (hy : a.eval y = .agg cells)
    (t : TypeId) (old : Array Value) (hg : w.heap[g]? = some (.cells old t (0, 0))) (hi : (P.info? ty).map (·.size) = some cells.size)
    (hold : old.size = cells.size) (h1 : cells.all (·.oneCell') = true)
    (h : ∀ W, W.heap[g]? = some (.cells cells t (0, 0)) → Mod (fun k => k = g) w W → wpList P ops Q rest (a.put o.dst undef) W) : wpList P ops Q (o :: rest) a w :=
  wpList_store_row hgd ty x y ho g cells hx hy t old hg hi hold h1 (h _ (setRow_heap w g old _ t _ hg) ⟨rfl, rfl, rfl, by simp, fun k hk hn => setRow_other w g k _ hn⟩)
/-- a chain that can be read -/
def CRow (w : World) (v : Value) (cs : List (Nat × List Nat)) : Prop :=
  (∀ c ∈ cs, c.1 < 4294967296) ∧ ∃ ad c, v = .slice ad cs.length c ∧ cs.length ≤ c ∧ c ≤ 9223372036854775807 ∧ (0 < cs.length → ∃ b o, ad = some ⟨b, o, none⟩ ∧ b < w.heap.size ∧ ∀ i (h : i < cs.length), ∃ nv, w.rangeAt b (o + i * 2) [uN cs[i].1, nv] ∧ URow w nv cs[i].2)
theorem CRow.below {w w' : World} {v : Value} {cs : List (Nat × List Nat)} (h : CRow w v cs) (hb : Below w.heap.size w w') : CRow w' v cs := by
  obtain ⟨h0, ad, c, rfl, h1, h2, h3⟩ := h
  refine ⟨h0, ad, c, rfl, h1, h2, fun hp => ?_⟩
  obtain ⟨b, o, rfl, hlt, hc⟩ := h3 hp
  refine ⟨b, o, rfl, Nat.lt_of_lt_of_le hlt hb.size, fun i hi => ?_⟩
  obtain ⟨nv, h4, h5⟩ := hc i hi
  exact ⟨nv, range_block h4 (hb.block b hlt), h5.below hb⟩
/-- the numbers of a batch, one behind the other -/
def numsGo (pages : Nat) : List Nat → List Nat → Option (List Nat)
  | [], acc => some acc
  | x :: r, acc => if freshB (fun z => acc.contains z) pages x = true then numsGo pages r (x :: acc) else none
def batchOk (E : Int) (pages : Nat) (c : Nat × List Nat) (acc : List Nat) : Bool := freshB (fun z => acc.contains z) pages c.1 && (decide ((c.2.length : Int) ≤ E) && risB c.2)
/-- all batches: what was met; none: it isn't right -/
def seenGo (E : Int) (pages : Nat) : List (Nat × List Nat) → List Nat → Option (List Nat)
  | [], acc => some acc
  | c :: r, acc => if batchOk E pages c acc = true then (match numsGo pages c.2 (c.1 :: acc) with | some a => seenGo E pages r a | none => none) else none
theorem numsGo_drop {pages : Nat} {xs acc : List Nat} {k : Nat} (h : k < xs.length) : numsGo pages (xs.drop k) acc = if freshB (fun z => acc.contains z) pages xs[k] = true then numsGo pages (xs.drop (k + 1)) (xs[k] :: acc) else none := by
  rw [List.drop_eq_getElem_cons h, numsGo]
theorem seenGo_drop {E : Int} {pages : Nat} {cs : List (Nat × List Nat)} {acc : List Nat} {k : Nat} (h : k < cs.length) : seenGo E pages (cs.drop k) acc = if batchOk E pages cs[k] acc = true then (match numsGo pages cs[k].2 (cs[k].1 :: acc) with | some a => seenGo E pages (cs.drop (k + 1)) a | none => none) else none := by
  rw [List.drop_eq_getElem_cons h, seenGo]
theorem SetM.cons {w : World} {b n y : Nat} {acc : List Nat} (h : SetM w b n (fun z => decide (z = y) || acc.contains z)) : SetM w b n (fun z => (y :: acc).contains z) := by
  obtain ⟨D, h1, h2, h3⟩ := h
  refine ⟨D, h1, h2, fun x hx => ?_⟩
  rw [h3 x hx]
  show (decide (x = y) || acc.contains x) = (y :: acc).contains x
  rw [List.contains_cons]
  rfl
def SeenPost (a b : Int) (pages : Nat) (cs : List (Nat × List Nat)) (w : World) (e : Ending) (w' : World) : Prop :=
  Below w.heap.size w w' ∧ ((∃ acc g n, seenGo (entI a b) pages cs [] = some acc ∧ e = .returned (.tuple #[.map (some g), .bool true]) ∧ w.heap.size ≤ g ∧ SetM w' g n (fun z => acc.contains z) ∧ n = acc.length) ∨ (seenGo (entI a b) pages cs [] = none ∧ e = .returned (.tuple #[.map none, .bool false])))
set_option maxRecDepth 5000 in
set_option maxHeartbeats 8000000 in
theorem seen_any (a b : Int) (pages : Nat) (v : Value) (cs : List (Nat × List Nat)) (w : World) (hp : pages < 4294967296) (hv : Hid (CRow w v cs)) :
    Calls Try.prog 71 #[.agg #[.int .i64 a, .int .i64 b], v, .int .u32 (pages : Int)] w (SeenPost a b pages cs w) := by
  obtain ⟨_, ad, c, hv1, _, _, _⟩ := hv.out
  subst hv1
  obtain ⟨N, hN⟩ : ∃ N, w.heap.size = N := ⟨_, rfl⟩
  have HN := Lib.hid hN
  have hmm := @run_makeMap Try.prog
  obtain ⟨R, hR⟩ : ∃ R, SeenPost a b pages cs w = R := ⟨_, rfl⟩
  rw [hR]
  have HNo : Hid (∀ W, seenGo (entI a b) pages cs [] = none → Below N w W → R (.returned (.tuple #[.map none, .bool false])) W) := fun W h1 h2 => by
    rw [← hR]
    exact ⟨by rw [hN]; exact h2, .inr ⟨h1, rfl⟩⟩
  have HYes : Hid (∀ W acc g, seenGo (entI a b) pages cs [] = some acc → N ≤ g → SetM W g acc.length (fun z => acc.contains z) → Below N w W → R (.returned (.tuple #[.map (some g), .bool true])) W) := fun W acc g h1 h2 h3 h4 => by
    rw [← hR]
    exact ⟨by rw [hN]; exact h4, .inl ⟨acc, g, acc.length, h1, rfl, by rw [hN]; exact h2, h3, rfl⟩⟩
  clear hN hR
  go_enter Try.func71, Try.ntmps71
  go_upto_region 0 with fail
  with_reducible refine wp_region_list ?_
  refine wpList_boxB rfl _ _ rfl N HN.out #[.int .i64 a, .int .i64 b] rfl ?_
  intro w0 e0 b0 z0
  (try simp only [Act.put, List.setIfInBounds_toArray, List.set_cons_zero, List.set_cons_succ])
  refine wpList_boxB rfl _ _ rfl (N + 1) z0 #[.int .u32 (pages : Int)] rfl ?_
  intro w1 e1 b1 z1
  (try simp only [Act.put, List.setIfInBounds_toArray, List.set_cons_zero, List.set_cons_succ])
  with_reducible refine wpList_plain rfl ?_
  intro K hK
  go_simp
  first | with_reducible refine hK _ _ ?_ | refine hK _ _ ?_
  clear hK K
  (try simp only [Act.put, List.setIfInBounds_toArray, List.set_cons_zero, List.set_cons_succ])
  with_reducible refine wpList_plain rfl ?_
  intro K hK
  go_simp
  first | with_reducible refine hK _ _ ?_ | refine hK _ _ ?_
  clear hK K
  (try simp only [Act.put, List.setIfInBounds_toArray, List.set_cons_zero, List.set_cons_succ])
  have F1 : Hid (w1.heap[N]? = some (.cells #[.int .i64 a, .int .i64 b] 23 (0, 0))) := heap_below e0 b1 (by omega)
  have P1 := Lib.hid e1
  have B1 : Hid (Below N w w1) := b0.trans (b1.mono (by omega))
  have Z1 := Lib.hid z1
  clear e0 b0 z0 e1 b1 z1
  go_upto_region 1 with fail
  with_reducible refine wp_region_list ?_
  with_reducible refine wpList_plain rfl ?_
  intro K hK
  go_simp
  first | with_reducible refine hK _ _ ?_ | refine hK _ _ ?_
  clear hK K
  (try simp only [Act.put, List.setIfInBounds_toArray, List.set_cons_zero, List.set_cons_succ])
  with_reducible refine wpList_plain rfl ?_
  intro K hK
  go_simp
  first | with_reducible refine hK _ _ ?_ | refine hK _ _ ?_
  clear hK K
  (try simp only [Act.put, List.setIfInBounds_toArray, List.set_cons_zero, List.set_cons_succ])
  with_reducible refine wpList_plain rfl ?_
  intro K hK
  go_simp
  first | with_reducible refine hK _ _ ?_ | refine hK _ _ ?_
  clear hK K
  (try simp only [Act.put, List.setIfInBounds_toArray, List.set_cons_zero, List.set_cons_succ])
  obtain ⟨g, hg⟩ : ∃ g, w1.heap.size = g := ⟨_, rfl⟩
  obtain ⟨w2, hw2⟩ : ∃ W, (w1.alloc (.map #[] 0)).alloc (.cells #[.map (some w1.heap.size)] 60) = W := ⟨_, rfl⟩
  have S2 : Hid (SetM w2 g 0 (fun _ => false)) := by
    have h1 := SetM.made w1
    rw [← hw2, ← hg]
    exact h1.mod (Mod.of (fun _ => False) ((Below.refl _ _).alloc (Nat.le_refl _) _)) (fun h => h)
  have V2 : Hid (w2.heap[g + 1]? = some (.cells #[.map (some g)] 60 (0, 0))) := by
    have h1 := heap_alloc_new (w1.alloc (.map #[] 0)) (.cells #[.map (some w1.heap.size)] 60)
    rw [World.size_alloc, hg] at h1
    rw [← hw2, hg]
    exact h1
  have b2 : Below w1.heap.size w1 w2 := by rw [← hw2]; exact ((Below.refl _ _).alloc (Nat.le_refl _) _).alloc (by simp only [World.size_alloc]; omega) _
  have z2 : w2.heap.size = g + 2 := by rw [← hw2]; simp only [World.size_alloc]; omega
  have F2 : Hid (w2.heap[N]? = some (.cells #[.int .i64 a, .int .i64 b] 23 (0, 0))) := heap_below F1.out b2 (heap_lt F1.out)
  have P2 : Hid (w2.heap[N + 1]? = some (.cells #[.int .u32 (pages : Int)] 27 (0, 0))) := heap_below P1.out b2 (heap_lt P1.out)
  have B2 := Lib.hid (B1.out.trans (b2.mono (by have := Z1.out; omega)))
  have hgN : N + 1 < g := by have := Z1.out; omega
  have Hg := Lib.hid hg
  have Z2 := Lib.hid z2
  rw [hw2, hg]
  clear hw2 b2 F1 P1 B1 Z1 hmm hg z2
  have hmf : ∀ (fn : Fn) (first cap : Array Value) (w : World), (Instr.makeFunc fn first cap).run Try.prog w = .ok (.func fn first cap) w := fun _ _ _ _ => rfl
  go_upto_region 4 with fail
  clear hmf
  go_loopw [18] (fun iv wr => ∃ (k : Nat) (acc : List Nat), k ≤ cs.length ∧ Hid (seenGo (entI a b) pages cs [] = seenGo (entI a b) pages (cs.drop k) acc) ∧ Hid (SetM wr g acc.length (fun z => acc.contains z)) ∧ Hid (Met pages acc) ∧ Hid (Mod (fun j => j = g) w2 wr) ∧ iv = .int .i64 (k : Int)) (fun iv _ => cs.length - (intOf iv).toNat)
  case atStart => exact ⟨0, [], Nat.zero_le _, rfl, S2, ⟨List.nodup_nil, fun x h => by simp at h⟩, Mod.refl _ _, rfl⟩
  case round =>
    obtain ⟨k, acc, hk, HS, SM, MT, MW, rfl⟩ := hrel
    by_cases hlt : k < cs.length
    case pos =>
      have dk : decide (k < cs.length) = true := decide_eq_true hlt
      have dk2 : decide ((k : Int) < (cs.length : Int)) = true := decide_eq_true (by omega)
      have ik : (k : Int) < (cs.length : Int) := by omega
      have B3 : Hid (Below N w wr) := B2.out.trans (MW.out.below (n := N) (fun j hj e => by omega) (by have := Z2.out; omega))
      have hpg := hv.out.1 _ (List.getElem_mem hlt)
      obtain ⟨_, _, _, e9, _, _, hc⟩ := hv.out
      obtain ⟨vb, vo, e8, hvb, hcs⟩ := hc (by omega)
      have e7 := (Value.slice.inj e9).1
      rw [e8] at e7
      subst e7
      obtain ⟨nv, hr, hu⟩ := hcs k hlt
      have hs2 := HS.out
      rw [seenGo_drop hlt] at hs2
      obtain ⟨⟨pg, xs⟩, hcx⟩ : ∃ c, cs[k] = c := ⟨_, rfl⟩
      rw [hcx] at hr hu hs2 hpg
      have HR := Lib.hid (range_block hr (B3.out.block vb (by rw [← HN.out]; exact hvb)))
      have HU := Lib.hid hu
      have HS2 := Lib.hid hs2
      obtain ⟨nad, nc, hnv, hnl, _⟩ := hu.form
      subst hnv
      simp only at hpg
      clear hr hu hs2 hcx hcs hc e8 e9 HS
      go_upto_region 5 with fail
      clear dk dk2
      with_reducible refine wp_region_list ?_
      with_reducible refine wpList_plain rfl ?_
      intro K hK
      go_simp
      first | with_reducible refine hK _ _ ?_ | refine hK _ _ ?_
      clear hK K
      (try simp only [Act.put, List.setIfInBounds_toArray, List.set_cons_zero, List.set_cons_succ])
      refine wpList_load_mid rfl 64 _ rfl vb (vo + k * 2) rfl [uN pg, .slice nad xs.length nc] _ HR.out Try.underlying64 rfl info_B ?_
      (try simp only [Act.put, List.setIfInBounds_toArray, List.set_cons_zero, List.set_cons_succ])
      obtain ⟨bb, hbb⟩ : ∃ b, wr.heap.size = b := ⟨_, rfl⟩
      refine wpList_allocB rfl 64 rfl bb hbb (.agg #[.int .u32 0, .slice none 0 0]) (fun _ => by kernel_rfl) ?_
      intro w3 e3 b3 z3
      (try simp only [Act.put, List.setIfInBounds_toArray, List.set_cons_zero, List.set_cons_succ])
      refine wpList_storeB rfl 64 _ _ rfl bb #[.int .u32 (pg : Int), .slice nad xs.length nc] rfl rfl 64 _ e3 info_B rfl (by simp [Value.oneCell']) ?_
      intro w4 e4 m4
      (try simp only [Act.put, List.setIfInBounds_toArray, List.set_cons_zero, List.set_cons_succ])
      have hb4 : Below bb wr w4 := b3.trans (m4.below (n := bb) (fun k hk e => by omega) (by omega))
      have hgl : g < bb := by rw [← hbb]; exact SM.out.lt
      have hg1 : g + 1 < bb := by rw [← hbb]; have := MW.out.size; have := Z2.out; omega
      have SM4 : Hid (SetM w4.drew g acc.length (fun z => acc.contains z)) := SM.out.heap (hb4.block g hgl)
      have F4 : Hid (w4.heap[N]? = some (.cells #[.int .i64 a, .int .i64 b] 23 (0, 0))) := heap_below (MW.out.heap F2.out (by omega)) hb4 (by omega)
      have P4 : Hid (w4.drew.heap[N + 1]? = some (.cells #[.int .u32 (pages : Int)] 27 (0, 0))) := heap_below (MW.out.heap P2.out (by omega)) hb4.drew (by omega)
      have V4 : Hid (w4.drew.heap[g + 1]? = some (.cells #[.map (some g)] 60 (0, 0))) := heap_below (MW.out.heap V2.out (by omega)) hb4.drew (by omega)
      have M4 : Hid (Mod (fun j => j = g) w2 w4) := MW.out.trans (Mod.of (S := fun j => j = g) (by rw [hbb]; exact hb4)) (fun i _ h => h)
      have E4 := Lib.hid e4
      have Hbb := Lib.hid hbb
      have hz4 : bb < w4.heap.size := heap_lt e4
      have hzd : bb < w4.drew.heap.size := hz4
      have f0 := heap_cell F4.out (o := 0)
      have f1 := heap_cell F4.out (o := 1)
      have c0 := heap_cell E4.out (o := 0)
      have c1 := heap_cell E4.out (o := 1)
      obtain ⟨q1, hq1⟩ : ∃ q, freshB (fun z => acc.contains z) pages pg = q := ⟨_, rfl⟩
      have H1 := Lib.hid hq1
      obtain ⟨E, hE⟩ : ∃ E, entI a b = E := ⟨_, rfl⟩
      have HE := Lib.hid hE
      have hml := MT.out.le
      clear hq1 hE HR e3 b3 z3 e4 m4 hb4 hbb SM MW
      have B4 : Hid (Below N w w4) := B2.out.trans (M4.out.below (n := N) (fun j hj e => by omega) (by have := Z2.out; omega))
      cases q1
      case false =>
        go_upto_region 6 with fail
        refine wp_region_held_drew (S := fun W => W.cell? ⟨bb, 0, none⟩ = some (.int .u32 (pg : Int)) ∧ W.cell? ⟨bb, 1, none⟩ = some (.slice nad xs.length nc) ∧ W.cell? ⟨N, 0, none⟩ = some (.int .i64 a) ∧ W.cell? ⟨N, 1, none⟩ = some (.int .i64 b) ∧ Below N w W) (by kernel_rfl) ⟨c0, c1, f0, f1, B4.out.drew⟩ (fun hHeld => ?_)
        refine' wpAnyH_take (i := 0) (oi := { dst := Option.some 22, op := Op.move (Operand.tmp 9), type := 103, pos := "free.go:79", after := #[], guard := Option.none }) rfl (by kernel_rfl) (by kernel_rfl) (by kernel_rfl) (fun _ _ _ h => h) (Or.inl ⟨by rfl, _⟩) (by assumption) _
        rotate_left
        · (intro wS hSw; (try dsimp only at hSw); go_simp; try with_reducible rfl)
        try simp only [Act.put, List.setIfInBounds_toArray, List.set_cons_zero, List.set_cons_succ]
        refine' wpAnyH_take (i := 1) (oi := { dst := Option.some 23, op := Op.fieldAddr 64 (Operand.tmp 11) 0, type := 0, pos := "free.go:79", after := #[], guard := Option.none }) rfl (by kernel_rfl) (by kernel_rfl) (by kernel_rfl) (fun _ _ _ h => h) (Or.inl ⟨by rfl, _⟩) (by assumption) _
        rotate_left
        · (intro wS hSw; (try dsimp only at hSw); go_simp; try with_reducible rfl)
        try simp only [Act.put, List.setIfInBounds_toArray, List.set_cons_zero, List.set_cons_succ]
        refine' wpAnyH_take (i := 2) (oi := { dst := Option.some 24, op := Op.load 27 (Operand.tmp 23), type := 27, pos := "free.go:79", after := #[{ on := 1, ground := Ground.data }], guard := Option.none }) rfl (by kernel_rfl) (by kernel_rfl) (by kernel_rfl) (fun _ _ _ h => h) (Or.inl ⟨by rfl, _⟩) (by assumption) _
        rotate_left
        · (intro wS hSw; (try dsimp only at hSw); go_simp; try with_reducible rfl)
        try simp only [Act.put, List.setIfInBounds_toArray, List.set_cons_zero, List.set_cons_succ]
        refine wpAnyH_ready (rs := [3]) (by kernel_rfl) (by simp) ?_
        refine AllReadyH.cons (o := { dst := Option.some 25, op := Op.call { callee := Callee.value (Operand.tmp 22), args := #[Operand.tmp 24], argTypes := #[27] }, type := 4, pos := "free.go:79", after := #[{ on := 0, ground := Ground.data }, { on := 2, ground := Ground.data }], guard := Option.none }) rfl (fun K hK => ?_) AllReadyH.nil
        go_simp
        (go_at_call 86; refine (put_any _ g (g + 1) (N + 1) acc.length (fun z => acc.contains z) pages pg SM4 (by omega) hpg V4 P4 (by omega)).mono ?_; rintro e w5 ⟨rfl, _, m5⟩; rw [H1.out])
        refine hK.out _ _ ?_ (fun hHeld => ?_)
        · exact ⟨(m5.heapc (by omega) (by omega)).trans hHeld.1, (m5.heapc (by omega) (by omega)).trans hHeld.2.1, (m5.heapc (by omega) (by omega)).trans hHeld.2.2.1, (m5.heapc (by omega) (by omega)).trans hHeld.2.2.2.1, hHeld.2.2.2.2.trans (m5.below (n := N) (fun j hj e => by omega) (by omega))⟩
        clear hK K
        try simp only [Act.put, List.setIfInBounds_toArray, List.set_cons_zero, List.set_cons_succ]
        refine' wpAnyH_take (i := 4) (oi := { dst := Option.some 26, op := Op.unOp UnOp.not 4 (Operand.tmp 25), type := 4, pos := "free.go:79", after := #[{ on := 3, ground := Ground.data }], guard := Option.none }) rfl (by kernel_rfl) (by kernel_rfl) (by kernel_rfl) (fun _ _ _ h => h) (Or.inl ⟨by rfl, _⟩) (by assumption) _
        rotate_left
        · (intro wS hSw; (try dsimp only at hSw); go_simp; try with_reducible rfl)
        try simp only [Act.put, List.setIfInBounds_toArray, List.set_cons_zero, List.set_cons_succ]
        refine' wpAnyH_take (i := 5) (oi := { dst := Option.some 27, op := Op.move (Operand.tmp 26), type := 4, pos := "free.go:79", after := #[{ on := 4, ground := Ground.data }, { on := 3, ground := Ground.chain }], guard := Option.none }) rfl (by kernel_rfl) (by kernel_rfl) (by kernel_rfl) (fun _ _ _ h => h) (Or.inl ⟨by rfl, _⟩) (by assumption) _
        rotate_left
        · (intro wS hSw; (try dsimp only at hSw); go_simp; try with_reducible rfl)
        try simp only [Act.put, List.setIfInBounds_toArray, List.set_cons_zero, List.set_cons_succ]
        refine' wpAnyH_take (i := 6) (oi := { dst := Option.some 28, op := Op.fieldAddr 64 (Operand.tmp 11) 1, type := 0, pos := "free.go:79", after := #[{ on := 5, ground := Ground.guard }], guard := Option.some (5, Bool.false) }) rfl (by kernel_rfl) (by kernel_rfl) (by kernel_rfl) (fun _ _ _ h => h) (Or.inr ⟨by rfl, rfl⟩) (by assumption) _
        try simp only [Act.put, List.setIfInBounds_toArray, List.set_cons_zero, List.set_cons_succ]
        refine' wpAnyH_take (i := 7) (oi := { dst := Option.some 29, op := Op.load 28 (Operand.tmp 28), type := 28, pos := "free.go:79", after := #[{ on := 6, ground := Ground.data }, { on := 5, ground := Ground.guard }], guard := Option.some (5, Bool.false) }) rfl (by kernel_rfl) (by kernel_rfl) (by kernel_rfl) (fun _ _ _ h => h) (Or.inr ⟨by rfl, rfl⟩) (by assumption) _
        try simp only [Act.put, List.setIfInBounds_toArray, List.set_cons_zero, List.set_cons_succ]
        refine' wpAnyH_take (i := 8) (oi := { dst := Option.some 30, op := Op.call { callee := Callee.builtin Builtin.len, args := #[Operand.tmp 29], argTypes := #[28] }, type := 3, pos := "free.go:79", after := #[{ on := 7, ground := Ground.data }, { on := 5, ground := Ground.guard }], guard := Option.some (5, Bool.false) }) rfl (by kernel_rfl) (by kernel_rfl) (by kernel_rfl) (fun _ _ _ h => h) (Or.inr ⟨by rfl, rfl⟩) (by assumption) _
        try simp only [Act.put, List.setIfInBounds_toArray, List.set_cons_zero, List.set_cons_succ]
        refine' wpAnyH_take (i := 9) (oi := { dst := Option.some 31, op := Op.load 23 (Operand.tmp 3), type := 23, pos := "free.go:79", after := #[{ on := 5, ground := Ground.guard }], guard := Option.some (5, Bool.false) }) rfl (by kernel_rfl) (by kernel_rfl) (by kernel_rfl) (fun _ _ _ h => h) (Or.inr ⟨by rfl, rfl⟩) (by assumption) _
        try simp only [Act.put, List.setIfInBounds_toArray, List.set_cons_zero, List.set_cons_succ]
        refine' wpAnyH_take (i := 10) (oi := { dst := Option.some 32, op := Op.call { callee := Callee.value (Operand.func 18), args := #[Operand.tmp 31], argTypes := #[23] }, type := 3, pos := "free.go:79", after := #[{ on := 9, ground := Ground.data }, { on := 5, ground := Ground.chain }, { on := 5, ground := Ground.guard }], guard := Option.some (5, Bool.false) }) rfl (by kernel_rfl) (by kernel_rfl) (by kernel_rfl) (fun _ _ _ h => h) (Or.inr ⟨by rfl, rfl⟩) (by assumption) _
        try simp only [Act.put, List.setIfInBounds_toArray, List.set_cons_zero, List.set_cons_succ]
        refine' wpAnyH_take (i := 11) (oi := { dst := Option.some 33, op := Op.binOp BinOp.gtr 3 (Operand.tmp 30) (Operand.tmp 32) 3, type := 4, pos := "free.go:79", after := #[{ on := 8, ground := Ground.data }, { on := 10, ground := Ground.data }, { on := 5, ground := Ground.guard }], guard := Option.some (5, Bool.false) }) rfl (by kernel_rfl) (by kernel_rfl) (by kernel_rfl) (fun _ _ _ h => h) (Or.inr ⟨by rfl, rfl⟩) (by assumption) _
        try simp only [Act.put, List.setIfInBounds_toArray, List.set_cons_zero, List.set_cons_succ]
        refine' wpAnyH_take (i := 12) (oi := { dst := Option.some 34, op := Op.pick (Operand.tmp 27) (Operand.const (Value.bool Bool.true)) (Operand.tmp 33), type := 4, pos := "free.go:79", after := #[{ on := 5, ground := Ground.data }, { on := 11, ground := Ground.data }], guard := Option.none }) rfl (by kernel_rfl) (by kernel_rfl) (by kernel_rfl) (fun _ _ _ h => h) (Or.inl ⟨by rfl, _⟩) (by assumption) _
        rotate_left
        · (intro wS hSw; (try dsimp only at hSw); go_simp; try with_reducible rfl)
        try simp only [Act.put, List.setIfInBounds_toArray, List.set_cons_zero, List.set_cons_succ]
        refine' wpAnyH_take (i := 13) (oi := { dst := Option.some 35, op := Op.move (Operand.tmp 34), type := 4, pos := "free.go:79", after := #[{ on := 12, ground := Ground.data }, { on := 10, ground := Ground.chain }], guard := Option.none }) rfl (by kernel_rfl) (by kernel_rfl) (by kernel_rfl) (fun _ _ _ h => h) (Or.inl ⟨by rfl, _⟩) (by assumption) _
        rotate_left
        · (intro wS hSw; (try dsimp only at hSw); go_simp; try with_reducible rfl)
        try simp only [Act.put, List.setIfInBounds_toArray, List.set_cons_zero, List.set_cons_succ]
        refine' wpAnyH_take (i := 14) (oi := { dst := Option.some 36, op := Op.fieldAddr 64 (Operand.tmp 11) 1, type := 0, pos := "free.go:79", after := #[{ on := 13, ground := Ground.guard }], guard := Option.some (13, Bool.false) }) rfl (by kernel_rfl) (by kernel_rfl) (by kernel_rfl) (fun _ _ _ h => h) (Or.inr ⟨by rfl, rfl⟩) (by assumption) _
        try simp only [Act.put, List.setIfInBounds_toArray, List.set_cons_zero, List.set_cons_succ]
        refine' wpAnyH_take (i := 15) (oi := { dst := Option.some 37, op := Op.load 28 (Operand.tmp 36), type := 28, pos := "free.go:79", after := #[{ on := 14, ground := Ground.data }, { on := 13, ground := Ground.guard }], guard := Option.some (13, Bool.false) }) rfl (by kernel_rfl) (by kernel_rfl) (by kernel_rfl) (fun _ _ _ h => h) (Or.inr ⟨by rfl, rfl⟩) (by assumption) _
        try simp only [Act.put, List.setIfInBounds_toArray, List.set_cons_zero, List.set_cons_succ]
        refine' wpAnyH_take (i := 16) (oi := { dst := Option.some 38, op := Op.call { callee := Callee.value (Operand.func 59), args := #[Operand.tmp 37], argTypes := #[28] }, type := 4, pos := "free.go:79", after := #[{ on := 15, ground := Ground.data }, { on := 13, ground := Ground.chain }, { on := 13, ground := Ground.guard }], guard := Option.some (13, Bool.false) }) rfl (by kernel_rfl) (by kernel_rfl) (by kernel_rfl) (fun _ _ _ h => h) (Or.inr ⟨by rfl, rfl⟩) (by assumption) _
        try simp only [Act.put, List.setIfInBounds_toArray, List.set_cons_zero, List.set_cons_succ]
        refine' wpAnyH_take (i := 17) (oi := { dst := Option.some 39, op := Op.unOp UnOp.not 4 (Operand.tmp 38), type := 4, pos := "free.go:79", after := #[{ on := 16, ground := Ground.data }, { on := 13, ground := Ground.guard }], guard := Option.some (13, Bool.false) }) rfl (by kernel_rfl) (by kernel_rfl) (by kernel_rfl) (fun _ _ _ h => h) (Or.inr ⟨by rfl, rfl⟩) (by assumption) _
        try simp only [Act.put, List.setIfInBounds_toArray, List.set_cons_zero, List.set_cons_succ]
        refine' wpAnyH_take (i := 18) (oi := { dst := Option.some 40, op := Op.pick (Operand.tmp 35) (Operand.const (Value.bool Bool.true)) (Operand.tmp 39), type := 4, pos := "free.go:79", after := #[{ on := 13, ground := Ground.data }, { on := 17, ground := Ground.data }], guard := Option.none }) rfl (by kernel_rfl) (by kernel_rfl) (by kernel_rfl) (fun _ _ _ h => h) (Or.inl ⟨by rfl, _⟩) (by assumption) _
        rotate_left
        · (intro wS hSw; (try dsimp only at hSw); go_simp; try with_reducible rfl)
        try simp only [Act.put, List.setIfInBounds_toArray, List.set_cons_zero, List.set_cons_succ]
        refine wpAnyH_done (by kernel_rfl) ?_ _
        have hR := HNo.out _ (by rw [HS2.out]; exact if_neg (by unfold batchOk; rw [H1.out]; simp)) hHeld.2.2.2.2
        have HRR := Lib.hid hR
        clear hR hHeld
        go_wp2_with fail
        exact HRR.out
      case true =>
        obtain ⟨q2, hq2⟩ : ∃ q, decide ((xs.length : Int) ≤ E) = q := ⟨_, rfl⟩
        have H2 := Lib.hid hq2
        have hq2' : decide (E < (xs.length : Int)) = !q2 := by rw [← hq2, ← decide_not]; exact decide_eq_decide.2 (by omega)
        clear hq2
        cases q2
        case false =>
          go_upto_region 6 with fail
          refine wp_region_held_drew (S := fun W => W.cell? ⟨bb, 0, none⟩ = some (.int .u32 (pg : Int)) ∧ W.cell? ⟨bb, 1, none⟩ = some (.slice nad xs.length nc) ∧ W.cell? ⟨N, 0, none⟩ = some (.int .i64 a) ∧ W.cell? ⟨N, 1, none⟩ = some (.int .i64 b) ∧ Below N w W) (by kernel_rfl) ⟨c0, c1, f0, f1, B4.out.drew⟩ (fun hHeld => ?_)
          refine' wpAnyH_take (i := 0) (oi := { dst := Option.some 22, op := Op.move (Operand.tmp 9), type := 103, pos := "free.go:79", after := #[], guard := Option.none }) rfl (by kernel_rfl) (by kernel_rfl) (by kernel_rfl) (fun _ _ _ h => h) (Or.inl ⟨by rfl, _⟩) (by assumption) _
          rotate_left
          · (intro wS hSw; (try dsimp only at hSw); go_simp; try with_reducible rfl)
          try simp only [Act.put, List.setIfInBounds_toArray, List.set_cons_zero, List.set_cons_succ]
          refine' wpAnyH_take (i := 1) (oi := { dst := Option.some 23, op := Op.fieldAddr 64 (Operand.tmp 11) 0, type := 0, pos := "free.go:79", after := #[], guard := Option.none }) rfl (by kernel_rfl) (by kernel_rfl) (by kernel_rfl) (fun _ _ _ h => h) (Or.inl ⟨by rfl, _⟩) (by assumption) _
          rotate_left
          · (intro wS hSw; (try dsimp only at hSw); go_simp; try with_reducible rfl)
          try simp only [Act.put, List.setIfInBounds_toArray, List.set_cons_zero, List.set_cons_succ]
          refine' wpAnyH_take (i := 2) (oi := { dst := Option.some 24, op := Op.load 27 (Operand.tmp 23), type := 27, pos := "free.go:79", after := #[{ on := 1, ground := Ground.data }], guard := Option.none }) rfl (by kernel_rfl) (by kernel_rfl) (by kernel_rfl) (fun _ _ _ h => h) (Or.inl ⟨by rfl, _⟩) (by assumption) _
          rotate_left
          · (intro wS hSw; (try dsimp only at hSw); go_simp; try with_reducible rfl)
          try simp only [Act.put, List.setIfInBounds_toArray, List.set_cons_zero, List.set_cons_succ]
          refine wpAnyH_ready (rs := [3]) (by kernel_rfl) (by simp) ?_
          refine AllReadyH.cons (o := { dst := Option.some 25, op := Op.call { callee := Callee.value (Operand.tmp 22), args := #[Operand.tmp 24], argTypes := #[27] }, type := 4, pos := "free.go:79", after := #[{ on := 0, ground := Ground.data }, { on := 2, ground := Ground.data }], guard := Option.none }) rfl (fun K hK => ?_) AllReadyH.nil
          go_simp
          (go_at_call 86; refine (put_any _ g (g + 1) (N + 1) acc.length (fun z => acc.contains z) pages pg SM4 (by omega) hpg V4 P4 (by omega)).mono ?_; rintro e w5 ⟨rfl, s5, m5⟩; rw [H1.out]; have S5 := Lib.hid (SetM.cons s5); have M5 : Hid (Mod (fun j => j = g) w2 w5) := M4.out.drew.then m5; have hz5 : bb < w5.heap.size := (by have := m5.size; omega); clear s5)
          refine hK.out _ _ ?_ (fun hHeld => ?_)
          · exact ⟨(m5.heapc (by omega) (by omega)).trans hHeld.1, (m5.heapc (by omega) (by omega)).trans hHeld.2.1, (m5.heapc (by omega) (by omega)).trans hHeld.2.2.1, (m5.heapc (by omega) (by omega)).trans hHeld.2.2.2.1, hHeld.2.2.2.2.trans (m5.below (n := N) (fun j hj e => by omega) (by omega))⟩
          clear hK K
          try simp only [Act.put, List.setIfInBounds_toArray, List.set_cons_zero, List.set_cons_succ]
          refine' wpAnyH_take (i := 4) (oi := { dst := Option.some 26, op := Op.unOp UnOp.not 4 (Operand.tmp 25), type := 4, pos := "free.go:79", after := #[{ on := 3, ground := Ground.data }], guard := Option.none }) rfl (by kernel_rfl) (by kernel_rfl) (by kernel_rfl) (fun _ _ _ h => h) (Or.inl ⟨by rfl, _⟩) (by assumption) _
          rotate_left
          · (intro wS hSw; (try dsimp only at hSw); go_simp; try with_reducible rfl)
          try simp only [Act.put, List.setIfInBounds_toArray, List.set_cons_zero, List.set_cons_succ]
          refine' wpAnyH_take (i := 5) (oi := { dst := Option.some 27, op := Op.move (Operand.tmp 26), type := 4, pos := "free.go:79", after := #[{ on := 4, ground := Ground.data }, { on := 3, ground := Ground.chain }], guard := Option.none }) rfl (by kernel_rfl) (by kernel_rfl) (by kernel_rfl) (fun _ _ _ h => h) (Or.inl ⟨by rfl, _⟩) (by assumption) _
          rotate_left
          · (intro wS hSw; (try dsimp only at hSw); go_simp; try with_reducible rfl)
          try simp only [Act.put, List.setIfInBounds_toArray, List.set_cons_zero, List.set_cons_succ]
          refine' wpAnyH_take (i := 6) (oi := { dst := Option.some 28, op := Op.fieldAddr 64 (Operand.tmp 11) 1, type := 0, pos := "free.go:79", after := #[{ on := 5, ground := Ground.guard }], guard := Option.some (5, Bool.false) }) rfl (by kernel_rfl) (by kernel_rfl) (by kernel_rfl) (fun _ _ _ h => h) (Or.inl ⟨by rfl, _⟩) (by assumption) _
          rotate_left
          · (intro wS hSw; (try dsimp only at hSw); go_simp; try with_reducible rfl)
          try simp only [Act.put, List.setIfInBounds_toArray, List.set_cons_zero, List.set_cons_succ]
          refine' wpAnyH_take (i := 7) (oi := { dst := Option.some 29, op := Op.load 28 (Operand.tmp 28), type := 28, pos := "free.go:79", after := #[{ on := 6, ground := Ground.data }, { on := 5, ground := Ground.guard }], guard := Option.some (5, Bool.false) }) rfl (by kernel_rfl) (by kernel_rfl) (by kernel_rfl) (fun _ _ _ h => h) (Or.inl ⟨by rfl, _⟩) (by assumption) _
          rotate_left
          · (intro wS hSw; (try dsimp only at hSw); go_simp; try with_reducible rfl)
          try simp only [Act.put, List.setIfInBounds_toArray, List.set_cons_zero, List.set_cons_succ]
          refine' wpAnyH_take (i := 8) (oi := { dst := Option.some 30, op := Op.call { callee := Callee.builtin Builtin.len, args := #[Operand.tmp 29], argTypes := #[28] }, type := 3, pos := "free.go:79", after := #[{ on := 7, ground := Ground.data }, { on := 5, ground := Ground.guard }], guard := Option.some (5, Bool.false) }) rfl (by kernel_rfl) (by kernel_rfl) (by kernel_rfl) (fun _ _ _ h => h) (Or.inl ⟨by rfl, _⟩) (by assumption) _
          rotate_left
          · (intro wS hSw; (try dsimp only at hSw); go_simp; try with_reducible rfl)
          try simp only [Act.put, List.setIfInBounds_toArray, List.set_cons_zero, List.set_cons_succ]
          refine' wpAnyH_take (i := 9) (oi := { dst := Option.some 31, op := Op.load 23 (Operand.tmp 3), type := 23, pos := "free.go:79", after := #[{ on := 5, ground := Ground.guard }], guard := Option.some (5, Bool.false) }) rfl (by kernel_rfl) (by kernel_rfl) (by kernel_rfl) (fun _ _ _ h => h) (Or.inl ⟨by rfl, _⟩) (by assumption) _
          rotate_left
          · (intro wS hSw; (try dsimp only at hSw); go_simp; try with_reducible rfl)
          try simp only [Act.put, List.setIfInBounds_toArray, List.set_cons_zero, List.set_cons_succ]
          refine wpAnyH_ready (rs := [10]) (by kernel_rfl) (by simp) ?_
          refine AllReadyH.cons (o := { dst := Option.some 32, op := Op.call { callee := Callee.value (Operand.func 18), args := #[Operand.tmp 31], argTypes := #[23] }, type := 3, pos := "free.go:79", after := #[{ on := 9, ground := Ground.data }, { on := 5, ground := Ground.chain }, { on := 5, ground := Ground.guard }], guard := Option.some (5, Bool.false) }) rfl (fun K hK => ?_) AllReadyH.nil
          go_simp
          (go_at_call 18; refine (Entries_any a b _).mono ?_; rintro e w6 ⟨rfl, b6⟩; rw [HE.out]; have M6 : Hid (Mod (fun j => j = g) w2 w6) := M5.out.then (Mod.of _ b6); have S6 : Hid (SetM w6 g (acc.length + 1) (fun z => (pg :: acc).contains z)) := S5.out.heap (b6.block g (by omega)); have hz6 : bb < w6.heap.size := by have := b6.size; omega)
          refine hK.out _ _ ?_ (fun hHeld => ?_)
          · exact ⟨(World.cell?_of_block (a := ⟨bb, 0, none⟩) (b6.block bb (by omega))).trans hHeld.1, (World.cell?_of_block (a := ⟨bb, 1, none⟩) (b6.block bb (by omega))).trans hHeld.2.1, (World.cell?_of_block (a := ⟨N, 0, none⟩) (b6.block N (by omega))).trans hHeld.2.2.1, (World.cell?_of_block (a := ⟨N, 1, none⟩) (b6.block N (by omega))).trans hHeld.2.2.2.1, hHeld.2.2.2.2.trans (b6.mono (by omega))⟩
          clear hK K
          try simp only [Act.put, List.setIfInBounds_toArray, List.set_cons_zero, List.set_cons_succ]
          refine' wpAnyH_take (i := 11) (oi := { dst := Option.some 33, op := Op.binOp BinOp.gtr 3 (Operand.tmp 30) (Operand.tmp 32) 3, type := 4, pos := "free.go:79", after := #[{ on := 8, ground := Ground.data }, { on := 10, ground := Ground.data }, { on := 5, ground := Ground.guard }], guard := Option.some (5, Bool.false) }) rfl (by kernel_rfl) (by kernel_rfl) (by kernel_rfl) (fun _ _ _ h => h) (Or.inl ⟨by rfl, _⟩) (by assumption) _
          rotate_left
          · (intro wS hSw; (try dsimp only at hSw); go_simp; try with_reducible rfl)
          try simp only [Act.put, List.setIfInBounds_toArray, List.set_cons_zero, List.set_cons_succ]
          refine' wpAnyH_take (i := 12) (oi := { dst := Option.some 34, op := Op.pick (Operand.tmp 27) (Operand.const (Value.bool Bool.true)) (Operand.tmp 33), type := 4, pos := "free.go:79", after := #[{ on := 5, ground := Ground.data }, { on := 11, ground := Ground.data }], guard := Option.none }) rfl (by kernel_rfl) (by kernel_rfl) (by kernel_rfl) (fun _ _ _ h => h) (Or.inl ⟨by rfl, _⟩) (by assumption) _
          rotate_left
          · (intro wS hSw; (try dsimp only at hSw); go_simp; try with_reducible rfl)
          try simp only [Act.put, List.setIfInBounds_toArray, List.set_cons_zero, List.set_cons_succ]
          refine' wpAnyH_take (i := 13) (oi := { dst := Option.some 35, op := Op.move (Operand.tmp 34), type := 4, pos := "free.go:79", after := #[{ on := 12, ground := Ground.data }, { on := 10, ground := Ground.chain }], guard := Option.none }) rfl (by kernel_rfl) (by kernel_rfl) (by kernel_rfl) (fun _ _ _ h => h) (Or.inl ⟨by rfl, _⟩) (by assumption) _
          rotate_left
          · (intro wS hSw; (try dsimp only at hSw); go_simp; try with_reducible rfl)
          try simp only [Act.put, List.setIfInBounds_toArray, List.set_cons_zero, List.set_cons_succ]
          refine' wpAnyH_take (i := 14) (oi := { dst := Option.some 36, op := Op.fieldAddr 64 (Operand.tmp 11) 1, type := 0, pos := "free.go:79", after := #[{ on := 13, ground := Ground.guard }], guard := Option.some (13, Bool.false) }) rfl (by kernel_rfl) (by kernel_rfl) (by kernel_rfl) (fun _ _ _ h => h) (Or.inr ⟨by rfl, rfl⟩) (by assumption) _
          try simp only [Act.put, List.setIfInBounds_toArray, List.set_cons_zero, List.set_cons_succ]
          refine' wpAnyH_take (i := 15) (oi := { dst := Option.some 37, op := Op.load 28 (Operand.tmp 36), type := 28, pos := "free.go:79", after := #[{ on := 14, ground := Ground.data }, { on := 13, ground := Ground.guard }], guard := Option.some (13, Bool.false) }) rfl (by kernel_rfl) (by kernel_rfl) (by kernel_rfl) (fun _ _ _ h => h) (Or.inr ⟨by rfl, rfl⟩) (by assumption) _
          try simp only [Act.put, List.setIfInBounds_toArray, List.set_cons_zero, List.set_cons_succ]
          refine' wpAnyH_take (i := 16) (oi := { dst := Option.some 38, op := Op.call { callee := Callee.value (Operand.func 59), args := #[Operand.tmp 37], argTypes := #[28] }, type := 4, pos := "free.go:79", after := #[{ on := 15, ground := Ground.data }, { on := 13, ground := Ground.chain }, { on := 13, ground := Ground.guard }], guard := Option.some (13, Bool.false) }) rfl (by kernel_rfl) (by kernel_rfl) (by kernel_rfl) (fun _ _ _ h => h) (Or.inr ⟨by rfl, rfl⟩) (by assumption) _
          try simp only [Act.put, List.setIfInBounds_toArray, List.set_cons_zero, List.set_cons_succ]
          refine' wpAnyH_take (i := 17) (oi := { dst := Option.some 39, op := Op.unOp UnOp.not 4 (Operand.tmp 38), type := 4, pos := "free.go:79", after := #[{ on := 16, ground := Ground.data }, { on := 13, ground := Ground.guard }], guard := Option.some (13, Bool.false) }) rfl (by kernel_rfl) (by kernel_rfl) (by kernel_rfl) (fun _ _ _ h => h) (Or.inr ⟨by rfl, rfl⟩) (by assumption) _
          try simp only [Act.put, List.setIfInBounds_toArray, List.set_cons_zero, List.set_cons_succ]
          refine' wpAnyH_take (i := 18) (oi := { dst := Option.some 40, op := Op.pick (Operand.tmp 35) (Operand.const (Value.bool Bool.true)) (Operand.tmp 39), type := 4, pos := "free.go:79", after := #[{ on := 13, ground := Ground.data }, { on := 17, ground := Ground.data }], guard := Option.none }) rfl (by kernel_rfl) (by kernel_rfl) (by kernel_rfl) (fun _ _ _ h => h) (Or.inl ⟨by rfl, _⟩) (by assumption) _
          rotate_left
          · (intro wS hSw; (try dsimp only at hSw); go_simp; try with_reducible rfl)
          try simp only [Act.put, List.setIfInBounds_toArray, List.set_cons_zero, List.set_cons_succ]
          refine wpAnyH_done (by kernel_rfl) ?_ _
          have hR := HNo.out _ (by rw [HS2.out]; exact if_neg (by unfold batchOk; rw [H1.out, HE.out, H2.out]; simp)) hHeld.2.2.2.2
          have HRR := Lib.hid hR
          clear hR hHeld
          go_wp2_with fail
          exact HRR.out
        case true =>
          obtain ⟨q3, hq3⟩ : ∃ q, risB xs = q := ⟨_, rfl⟩
          have H3 := Lib.hid hq3
          clear hq3
          cases q3
          case false =>
            go_upto_region 6 with fail
            refine wp_region_held_drew (S := fun W => W.cell? ⟨bb, 0, none⟩ = some (.int .u32 (pg : Int)) ∧ W.cell? ⟨bb, 1, none⟩ = some (.slice nad xs.length nc) ∧ W.cell? ⟨N, 0, none⟩ = some (.int .i64 a) ∧ W.cell? ⟨N, 1, none⟩ = some (.int .i64 b) ∧ Below N w W) (by kernel_rfl) ⟨c0, c1, f0, f1, B4.out.drew⟩ (fun hHeld => ?_)
            refine' wpAnyH_take (i := 0) (oi := { dst := Option.some 22, op := Op.move (Operand.tmp 9), type := 103, pos := "free.go:79", after := #[], guard := Option.none }) rfl (by kernel_rfl) (by kernel_rfl) (by kernel_rfl) (fun _ _ _ h => h) (Or.inl ⟨by rfl, _⟩) (by assumption) _
            rotate_left
            · (intro wS hSw; (try dsimp only at hSw); go_simp; try with_reducible rfl)
            try simp only [Act.put, List.setIfInBounds_toArray, List.set_cons_zero, List.set_cons_succ]
            refine' wpAnyH_take (i := 1) (oi := { dst := Option.some 23, op := Op.fieldAddr 64 (Operand.tmp 11) 0, type := 0, pos := "free.go:79", after := #[], guard := Option.none }) rfl (by kernel_rfl) (by kernel_rfl) (by kernel_rfl) (fun _ _ _ h => h) (Or.inl ⟨by rfl, _⟩) (by assumption) _
            rotate_left
            · (intro wS hSw; (try dsimp only at hSw); go_simp; try with_reducible rfl)
            try simp only [Act.put, List.setIfInBounds_toArray, List.set_cons_zero, List.set_cons_succ]
            refine' wpAnyH_take (i := 2) (oi := { dst := Option.some 24, op := Op.load 27 (Operand.tmp 23), type := 27, pos := "free.go:79", after := #[{ on := 1, ground := Ground.data }], guard := Option.none }) rfl (by kernel_rfl) (by kernel_rfl) (by kernel_rfl) (fun _ _ _ h => h) (Or.inl ⟨by rfl, _⟩) (by assumption) _
            rotate_left
            · (intro wS hSw; (try dsimp only at hSw); go_simp; try with_reducible rfl)
            try simp only [Act.put, List.setIfInBounds_toArray, List.set_cons_zero, List.set_cons_succ]
            refine wpAnyH_ready (rs := [3]) (by kernel_rfl) (by simp) ?_
            refine AllReadyH.cons (o := { dst := Option.some 25, op := Op.call { callee := Callee.value (Operand.tmp 22), args := #[Operand.tmp 24], argTypes := #[27] }, type := 4, pos := "free.go:79", after := #[{ on := 0, ground := Ground.data }, { on := 2, ground := Ground.data }], guard := Option.none }) rfl (fun K hK => ?_) AllReadyH.nil
            go_simp
            (go_at_call 86; refine (put_any _ g (g + 1) (N + 1) acc.length (fun z => acc.contains z) pages pg SM4 (by omega) hpg V4 P4 (by omega)).mono ?_; rintro e w5 ⟨rfl, s5, m5⟩; rw [H1.out]; have S5 := Lib.hid (SetM.cons s5); have M5 : Hid (Mod (fun j => j = g) w2 w5) := M4.out.drew.then m5; have hz5 : bb < w5.heap.size := (by have := m5.size; omega); clear s5)
            refine hK.out _ _ ?_ (fun hHeld => ?_)
            · exact ⟨(m5.heapc (by omega) (by omega)).trans hHeld.1, (m5.heapc (by omega) (by omega)).trans hHeld.2.1, (m5.heapc (by omega) (by omega)).trans hHeld.2.2.1, (m5.heapc (by omega) (by omega)).trans hHeld.2.2.2.1, hHeld.2.2.2.2.trans (m5.below (n := N) (fun j hj e => by omega) (by omega))⟩
            clear hK K
            try simp only [Act.put, List.setIfInBounds_toArray, List.set_cons_zero, List.set_cons_succ]
            refine' wpAnyH_take (i := 4) (oi := { dst := Option.some 26, op := Op.unOp UnOp.not 4 (Operand.tmp 25), type := 4, pos := "free.go:79", after := #[{ on := 3, ground := Ground.data }], guard := Option.none }) rfl (by kernel_rfl) (by kernel_rfl) (by kernel_rfl) (fun _ _ _ h => h) (Or.inl ⟨by rfl, _⟩) (by assumption) _
            rotate_left
            · (intro wS hSw; (try dsimp only at hSw); go_simp; try with_reducible rfl)
            try simp only [Act.put, List.setIfInBounds_toArray, List.set_cons_zero, List.set_cons_succ]
            refine' wpAnyH_take (i := 5) (oi := { dst := Option.some 27, op := Op.move (Operand.tmp 26), type := 4, pos := "free.go:79", after := #[{ on := 4, ground := Ground.data }, { on := 3, ground := Ground.chain }], guard := Option.none }) rfl (by kernel_rfl) (by kernel_rfl) (by kernel_rfl) (fun _ _ _ h => h) (Or.inl ⟨by rfl, _⟩) (by assumption) _
            rotate_left
            · (intro wS hSw; (try dsimp only at hSw); go_simp; try with_reducible rfl)
            try simp only [Act.put, List.setIfInBounds_toArray, List.set_cons_zero, List.set_cons_succ]
            refine' wpAnyH_take (i := 6) (oi := { dst := Option.some 28, op := Op.fieldAddr 64 (Operand.tmp 11) 1, type := 0, pos := "free.go:79", after := #[{ on := 5, ground := Ground.guard }], guard := Option.some (5, Bool.false) }) rfl (by kernel_rfl) (by kernel_rfl) (by kernel_rfl) (fun _ _ _ h => h) (Or.inl ⟨by rfl, _⟩) (by assumption) _
            rotate_left
            · (intro wS hSw; (try dsimp only at hSw); go_simp; try with_reducible rfl)
            try simp only [Act.put, List.setIfInBounds_toArray, List.set_cons_zero, List.set_cons_succ]
            refine' wpAnyH_take (i := 7) (oi := { dst := Option.some 29, op := Op.load 28 (Operand.tmp 28), type := 28, pos := "free.go:79", after := #[{ on := 6, ground := Ground.data }, { on := 5, ground := Ground.guard }], guard := Option.some (5, Bool.false) }) rfl (by kernel_rfl) (by kernel_rfl) (by kernel_rfl) (fun _ _ _ h => h) (Or.inl ⟨by rfl, _⟩) (by assumption) _
            rotate_left
            · (intro wS hSw; (try dsimp only at hSw); go_simp; try with_reducible rfl)
            try simp only [Act.put, List.setIfInBounds_toArray, List.set_cons_zero, List.set_cons_succ]
            refine' wpAnyH_take (i := 8) (oi := { dst := Option.some 30, op := Op.call { callee := Callee.builtin Builtin.len, args := #[Operand.tmp 29], argTypes := #[28] }, type := 3, pos := "free.go:79", after := #[{ on := 7, ground := Ground.data }, { on := 5, ground := Ground.guard }], guard := Option.some (5, Bool.false) }) rfl (by kernel_rfl) (by kernel_rfl) (by kernel_rfl) (fun _ _ _ h => h) (Or.inl ⟨by rfl, _⟩) (by assumption) _
            rotate_left
            · (intro wS hSw; (try dsimp only at hSw); go_simp; try with_reducible rfl)
            try simp only [Act.put, List.setIfInBounds_toArray, List.set_cons_zero, List.set_cons_succ]
            refine' wpAnyH_take (i := 9) (oi := { dst := Option.some 31, op := Op.load 23 (Operand.tmp 3), type := 23, pos := "free.go:79", after := #[{ on := 5, ground := Ground.guard }], guard := Option.some (5, Bool.false) }) rfl (by kernel_rfl) (by kernel_rfl) (by kernel_rfl) (fun _ _ _ h => h) (Or.inl ⟨by rfl, _⟩) (by assumption) _
            rotate_left
            · (intro wS hSw; (try dsimp only at hSw); go_simp; try with_reducible rfl)
            try simp only [Act.put, List.setIfInBounds_toArray, List.set_cons_zero, List.set_cons_succ]
            refine wpAnyH_ready (rs := [10]) (by kernel_rfl) (by simp) ?_
            refine AllReadyH.cons (o := { dst := Option.some 32, op := Op.call { callee := Callee.value (Operand.func 18), args := #[Operand.tmp 31], argTypes := #[23] }, type := 3, pos := "free.go:79", after := #[{ on := 9, ground := Ground.data }, { on := 5, ground := Ground.chain }, { on := 5, ground := Ground.guard }], guard := Option.some (5, Bool.false) }) rfl (fun K hK => ?_) AllReadyH.nil
            go_simp
            (go_at_call 18; refine (Entries_any a b _).mono ?_; rintro e w6 ⟨rfl, b6⟩; rw [HE.out]; have M6 : Hid (Mod (fun j => j = g) w2 w6) := M5.out.then (Mod.of _ b6); have S6 : Hid (SetM w6 g (acc.length + 1) (fun z => (pg :: acc).contains z)) := S5.out.heap (b6.block g (by omega)); have hz6 : bb < w6.heap.size := by have := b6.size; omega)
            refine hK.out _ _ ?_ (fun hHeld => ?_)
            · exact ⟨(World.cell?_of_block (a := ⟨bb, 0, none⟩) (b6.block bb (by omega))).trans hHeld.1, (World.cell?_of_block (a := ⟨bb, 1, none⟩) (b6.block bb (by omega))).trans hHeld.2.1, (World.cell?_of_block (a := ⟨N, 0, none⟩) (b6.block N (by omega))).trans hHeld.2.2.1, (World.cell?_of_block (a := ⟨N, 1, none⟩) (b6.block N (by omega))).trans hHeld.2.2.2.1, hHeld.2.2.2.2.trans (b6.mono (by omega))⟩
            clear hK K
            try simp only [Act.put, List.setIfInBounds_toArray, List.set_cons_zero, List.set_cons_succ]
            refine' wpAnyH_take (i := 11) (oi := { dst := Option.some 33, op := Op.binOp BinOp.gtr 3 (Operand.tmp 30) (Operand.tmp 32) 3, type := 4, pos := "free.go:79", after := #[{ on := 8, ground := Ground.data }, { on := 10, ground := Ground.data }, { on := 5, ground := Ground.guard }], guard := Option.some (5, Bool.false) }) rfl (by kernel_rfl) (by kernel_rfl) (by kernel_rfl) (fun _ _ _ h => h) (Or.inl ⟨by rfl, _⟩) (by assumption) _
            rotate_left
            · (intro wS hSw; (try dsimp only at hSw); go_simp; try with_reducible rfl)
            try simp only [Act.put, List.setIfInBounds_toArray, List.set_cons_zero, List.set_cons_succ]
            refine' wpAnyH_take (i := 12) (oi := { dst := Option.some 34, op := Op.pick (Operand.tmp 27) (Operand.const (Value.bool Bool.true)) (Operand.tmp 33), type := 4, pos := "free.go:79", after := #[{ on := 5, ground := Ground.data }, { on := 11, ground := Ground.data }], guard := Option.none }) rfl (by kernel_rfl) (by kernel_rfl) (by kernel_rfl) (fun _ _ _ h => h) (Or.inl ⟨by rfl, _⟩) (by assumption) _
            rotate_left
            · (intro wS hSw; (try dsimp only at hSw); go_simp; try with_reducible rfl)
            try simp only [Act.put, List.setIfInBounds_toArray, List.set_cons_zero, List.set_cons_succ]
            refine' wpAnyH_take (i := 13) (oi := { dst := Option.some 35, op := Op.move (Operand.tmp 34), type := 4, pos := "free.go:79", after := #[{ on := 12, ground := Ground.data }, { on := 10, ground := Ground.chain }], guard := Option.none }) rfl (by kernel_rfl) (by kernel_rfl) (by kernel_rfl) (fun _ _ _ h => h) (Or.inl ⟨by rfl, _⟩) (by assumption) _
            rotate_left
            · (intro wS hSw; (try dsimp only at hSw); go_simp; try with_reducible rfl)
            try simp only [Act.put, List.setIfInBounds_toArray, List.set_cons_zero, List.set_cons_succ]
            refine' wpAnyH_take (i := 14) (oi := { dst := Option.some 36, op := Op.fieldAddr 64 (Operand.tmp 11) 1, type := 0, pos := "free.go:79", after := #[{ on := 13, ground := Ground.guard }], guard := Option.some (13, Bool.false) }) rfl (by kernel_rfl) (by kernel_rfl) (by kernel_rfl) (fun _ _ _ h => h) (Or.inl ⟨by rfl, _⟩) (by assumption) _
            rotate_left
            · (intro wS hSw; (try dsimp only at hSw); go_simp; try with_reducible rfl)
            try simp only [Act.put, List.setIfInBounds_toArray, List.set_cons_zero, List.set_cons_succ]
            refine' wpAnyH_take (i := 15) (oi := { dst := Option.some 37, op := Op.load 28 (Operand.tmp 36), type := 28, pos := "free.go:79", after := #[{ on := 14, ground := Ground.data }, { on := 13, ground := Ground.guard }], guard := Option.some (13, Bool.false) }) rfl (by kernel_rfl) (by kernel_rfl) (by kernel_rfl) (fun _ _ _ h => h) (Or.inl ⟨by rfl, _⟩) (by assumption) _
            rotate_left
            · (intro wS hSw; (try dsimp only at hSw); go_simp; try with_reducible rfl)
            try simp only [Act.put, List.setIfInBounds_toArray, List.set_cons_zero, List.set_cons_succ]
            refine wpAnyH_ready (rs := [16]) (by kernel_rfl) (by simp) ?_
            refine AllReadyH.cons (o := { dst := Option.some 38, op := Op.call { callee := Callee.value (Operand.func 59), args := #[Operand.tmp 37], argTypes := #[28] }, type := 4, pos := "free.go:79", after := #[{ on := 15, ground := Ground.data }, { on := 13, ground := Ground.chain }, { on := 13, ground := Ground.guard }], guard := Option.some (13, Bool.false) }) rfl (fun K hK => ?_) AllReadyH.nil
            go_simp
            (go_at_call 59; refine (rising_any _ xs _ (Lib.hid (HU.out.below (by rw [HN.out]; exact hHeld.2.2.2.2)))).mono ?_; rintro e w7 ⟨rfl, b7⟩; rw [H3.out]; have M7 : Hid (Mod (fun j => j = g) w2 w7) := M6.out.then (Mod.of _ b7); have S7 : Hid (SetM w7 g (acc.length + 1) (fun z => (pg :: acc).contains z)) := S6.out.heap (b7.block g (by omega)); have hz7 : bb < w7.heap.size := (by have := b7.size; omega))
            refine hK.out _ _ ?_ (fun hHeld => ?_)
            · exact ⟨(World.cell?_of_block (a := ⟨bb, 0, none⟩) (b7.block bb (by omega))).trans hHeld.1, (World.cell?_of_block (a := ⟨bb, 1, none⟩) (b7.block bb (by omega))).trans hHeld.2.1, (World.cell?_of_block (a := ⟨N, 0, none⟩) (b7.block N (by omega))).trans hHeld.2.2.1, (World.cell?_of_block (a := ⟨N, 1, none⟩) (b7.block N (by omega))).trans hHeld.2.2.2.1, hHeld.2.2.2.2.trans (b7.mono (by omega))⟩
            clear hK K
            try simp only [Act.put, List.setIfInBounds_toArray, List.set_cons_zero, List.set_cons_succ]
            refine' wpAnyH_take (i := 17) (oi := { dst := Option.some 39, op := Op.unOp UnOp.not 4 (Operand.tmp 38), type := 4, pos := "free.go:79", after := #[{ on := 16, ground := Ground.data }, { on := 13, ground := Ground.guard }], guard := Option.some (13, Bool.false) }) rfl (by kernel_rfl) (by kernel_rfl) (by kernel_rfl) (fun _ _ _ h => h) (Or.inl ⟨by rfl, _⟩) (by assumption) _
            rotate_left
            · (intro wS hSw; (try dsimp only at hSw); go_simp; try with_reducible rfl)
            try simp only [Act.put, List.setIfInBounds_toArray, List.set_cons_zero, List.set_cons_succ]
            refine' wpAnyH_take (i := 18) (oi := { dst := Option.some 40, op := Op.pick (Operand.tmp 35) (Operand.const (Value.bool Bool.true)) (Operand.tmp 39), type := 4, pos := "free.go:79", after := #[{ on := 13, ground := Ground.data }, { on := 17, ground := Ground.data }], guard := Option.none }) rfl (by kernel_rfl) (by kernel_rfl) (by kernel_rfl) (fun _ _ _ h => h) (Or.inl ⟨by rfl, _⟩) (by assumption) _
            rotate_left
            · (intro wS hSw; (try dsimp only at hSw); go_simp; try with_reducible rfl)
            try simp only [Act.put, List.setIfInBounds_toArray, List.set_cons_zero, List.set_cons_succ]
            refine wpAnyH_done (by kernel_rfl) ?_ _
            have hR := HNo.out _ (by rw [HS2.out]; exact if_neg (by unfold batchOk; rw [H1.out, HE.out, H2.out, H3.out]; simp)) hHeld.2.2.2.2
            have HRR := Lib.hid hR
            clear hR hHeld
            go_wp2_with fail
            exact HRR.out
          case true =>
            go_upto_region 6 with fail
            refine wp_region_held_drew (S := fun W => W.cell? ⟨bb, 0, none⟩ = some (.int .u32 (pg : Int)) ∧ W.cell? ⟨bb, 1, none⟩ = some (.slice nad xs.length nc) ∧ W.cell? ⟨N, 0, none⟩ = some (.int .i64 a) ∧ W.cell? ⟨N, 1, none⟩ = some (.int .i64 b) ∧ Below N w W) (by kernel_rfl) ⟨c0, c1, f0, f1, B4.out.drew⟩ (fun hHeld => ?_)
            refine' wpAnyH_take (i := 0) (oi := { dst := Option.some 22, op := Op.move (Operand.tmp 9), type := 103, pos := "free.go:79", after := #[], guard := Option.none }) rfl (by kernel_rfl) (by kernel_rfl) (by kernel_rfl) (fun _ _ _ h => h) (Or.inl ⟨by rfl, _⟩) (by assumption) _
            rotate_left
            · (intro wS hSw; (try dsimp only at hSw); go_simp; try with_reducible rfl)
            try simp only [Act.put, List.setIfInBounds_toArray, List.set_cons_zero, List.set_cons_succ]
            refine' wpAnyH_take (i := 1) (oi := { dst := Option.some 23, op := Op.fieldAddr 64 (Operand.tmp 11) 0, type := 0, pos := "free.go:79", after := #[], guard := Option.none }) rfl (by kernel_rfl) (by kernel_rfl) (by kernel_rfl) (fun _ _ _ h => h) (Or.inl ⟨by rfl, _⟩) (by assumption) _
            rotate_left
            · (intro wS hSw; (try dsimp only at hSw); go_simp; try with_reducible rfl)
            try simp only [Act.put, List.setIfInBounds_toArray, List.set_cons_zero, List.set_cons_succ]
            refine' wpAnyH_take (i := 2) (oi := { dst := Option.some 24, op := Op.load 27 (Operand.tmp 23), type := 27, pos := "free.go:79", after := #[{ on := 1, ground := Ground.data }], guard := Option.none }) rfl (by kernel_rfl) (by kernel_rfl) (by kernel_rfl) (fun _ _ _ h => h) (Or.inl ⟨by rfl, _⟩) (by assumption) _
            rotate_left
            · (intro wS hSw; (try dsimp only at hSw); go_simp; try with_reducible rfl)
            try simp only [Act.put, List.setIfInBounds_toArray, List.set_cons_zero, List.set_cons_succ]
            refine wpAnyH_ready (rs := [3]) (by kernel_rfl) (by simp) ?_
            refine AllReadyH.cons (o := { dst := Option.some 25, op := Op.call { callee := Callee.value (Operand.tmp 22), args := #[Operand.tmp 24], argTypes := #[27] }, type := 4, pos := "free.go:79", after := #[{ on := 0, ground := Ground.data }, { on := 2, ground := Ground.data }], guard := Option.none }) rfl (fun K hK => ?_) AllReadyH.nil
            go_simp
            (go_at_call 86; refine (put_any _ g (g + 1) (N + 1) acc.length (fun z => acc.contains z) pages pg SM4 (by omega) hpg V4 P4 (by omega)).mono ?_; rintro e w5 ⟨rfl, s5, m5⟩; rw [H1.out]; have S5 := Lib.hid (SetM.cons s5); have M5 : Hid (Mod (fun j => j = g) w2 w5) := M4.out.drew.then m5; have hz5 : bb < w5.heap.size := (by have := m5.size; omega); clear s5)
            refine hK.out _ _ ?_ (fun hHeld => ?_)
            · exact ⟨(m5.heapc (by omega) (by omega)).trans hHeld.1, (m5.heapc (by omega) (by omega)).trans hHeld.2.1, (m5.heapc (by omega) (by omega)).trans hHeld.2.2.1, (m5.heapc (by omega) (by omega)).trans hHeld.2.2.2.1, hHeld.2.2.2.2.trans (m5.below (n := N) (fun j hj e => by omega) (by omega))⟩
            clear hK K
            try simp only [Act.put, List.setIfInBounds_toArray, List.set_cons_zero, List.set_cons_succ]
            refine' wpAnyH_take (i := 4) (oi := { dst := Option.some 26, op := Op.unOp UnOp.not 4 (Operand.tmp 25), type := 4, pos := "free.go:79", after := #[{ on := 3, ground := Ground.data }], guard := Option.none }) rfl (by kernel_rfl) (by kernel_rfl) (by kernel_rfl) (fun _ _ _ h => h) (Or.inl ⟨by rfl, _⟩) (by assumption) _
            rotate_left
            · (intro wS hSw; (try dsimp only at hSw); go_simp; try with_reducible rfl)
            try simp only [Act.put, List.setIfInBounds_toArray, List.set_cons_zero, List.set_cons_succ]
            refine' wpAnyH_take (i := 5) (oi := { dst := Option.some 27, op := Op.move (Operand.tmp 26), type := 4, pos := "free.go:79", after := #[{ on := 4, ground := Ground.data }, { on := 3, ground := Ground.chain }], guard := Option.none }) rfl (by kernel_rfl) (by kernel_rfl) (by kernel_rfl) (fun _ _ _ h => h) (Or.inl ⟨by rfl, _⟩) (by assumption) _
            rotate_left
            · (intro wS hSw; (try dsimp only at hSw); go_simp; try with_reducible rfl)
            try simp only [Act.put, List.setIfInBounds_toArray, List.set_cons_zero, List.set_cons_succ]
            refine' wpAnyH_take (i := 6) (oi := { dst := Option.some 28, op := Op.fieldAddr 64 (Operand.tmp 11) 1, type := 0, pos := "free.go:79", after := #[{ on := 5, ground := Ground.guard }], guard := Option.some (5, Bool.false) }) rfl (by kernel_rfl) (by kernel_rfl) (by kernel_rfl) (fun _ _ _ h => h) (Or.inl ⟨by rfl, _⟩) (by assumption) _
            rotate_left
            · (intro wS hSw; (try dsimp only at hSw); go_simp; try with_reducible rfl)
            try simp only [Act.put, List.setIfInBounds_toArray, List.set_cons_zero, List.set_cons_succ]
            refine' wpAnyH_take (i := 7) (oi := { dst := Option.some 29, op := Op.load 28 (Operand.tmp 28), type := 28, pos := "free.go:79", after := #[{ on := 6, ground := Ground.data }, { on := 5, ground := Ground.guard }], guard := Option.some (5, Bool.false) }) rfl (by kernel_rfl) (by kernel_rfl) (by kernel_rfl) (fun _ _ _ h => h) (Or.inl ⟨by rfl, _⟩) (by assumption) _
            rotate_left
            · (intro wS hSw; (try dsimp only at hSw); go_simp; try with_reducible rfl)
            try simp only [Act.put, List.setIfInBounds_toArray, List.set_cons_zero, List.set_cons_succ]
            refine' wpAnyH_take (i := 8) (oi := { dst := Option.some 30, op := Op.call { callee := Callee.builtin Builtin.len, args := #[Operand.tmp 29], argTypes := #[28] }, type := 3, pos := "free.go:79", after := #[{ on := 7, ground := Ground.data }, { on := 5, ground := Ground.guard }], guard := Option.some (5, Bool.false) }) rfl (by kernel_rfl) (by kernel_rfl) (by kernel_rfl) (fun _ _ _ h => h) (Or.inl ⟨by rfl, _⟩) (by assumption) _
            rotate_left
            · (intro wS hSw; (try dsimp only at hSw); go_simp; try with_reducible rfl)
            try simp only [Act.put, List.setIfInBounds_toArray, List.set_cons_zero, List.set_cons_succ]
            refine' wpAnyH_take (i := 9) (oi := { dst := Option.some 31, op := Op.load 23 (Operand.tmp 3), type := 23, pos := "free.go:79", after := #[{ on := 5, ground := Ground.guard }], guard := Option.some (5, Bool.false) }) rfl (by kernel_rfl) (by kernel_rfl) (by kernel_rfl) (fun _ _ _ h => h) (Or.inl ⟨by rfl, _⟩) (by assumption) _
            rotate_left
            · (intro wS hSw; (try dsimp only at hSw); go_simp; try with_reducible rfl)
            try simp only [Act.put, List.setIfInBounds_toArray, List.set_cons_zero, List.set_cons_succ]
            refine wpAnyH_ready (rs := [10]) (by kernel_rfl) (by simp) ?_
            refine AllReadyH.cons (o := { dst := Option.some 32, op := Op.call { callee := Callee.value (Operand.func 18), args := #[Operand.tmp 31], argTypes := #[23] }, type := 3, pos := "free.go:79", after := #[{ on := 9, ground := Ground.data }, { on := 5, ground := Ground.chain }, { on := 5, ground := Ground.guard }], guard := Option.some (5, Bool.false) }) rfl (fun K hK => ?_) AllReadyH.nil
            go_simp
            (go_at_call 18; refine (Entries_any a b _).mono ?_; rintro e w6 ⟨rfl, b6⟩; rw [HE.out]; have M6 : Hid (Mod (fun j => j = g) w2 w6) := M5.out.then (Mod.of _ b6); have S6 : Hid (SetM w6 g (acc.length + 1) (fun z => (pg :: acc).contains z)) := S5.out.heap (b6.block g (by omega)); have hz6 : bb < w6.heap.size := by have := b6.size; omega)
            refine hK.out _ _ ?_ (fun hHeld => ?_)
            · exact ⟨(World.cell?_of_block (a := ⟨bb, 0, none⟩) (b6.block bb (by omega))).trans hHeld.1, (World.cell?_of_block (a := ⟨bb, 1, none⟩) (b6.block bb (by omega))).trans hHeld.2.1, (World.cell?_of_block (a := ⟨N, 0, none⟩) (b6.block N (by omega))).trans hHeld.2.2.1, (World.cell?_of_block (a := ⟨N, 1, none⟩) (b6.block N (by omega))).trans hHeld.2.2.2.1, hHeld.2.2.2.2.trans (b6.mono (by omega))⟩
            clear hK K
            try simp only [Act.put, List.setIfInBounds_toArray, List.set_cons_zero, List.set_cons_succ]
            refine' wpAnyH_take (i := 11) (oi := { dst := Option.some 33, op := Op.binOp BinOp.gtr 3 (Operand.tmp 30) (Operand.tmp 32) 3, type := 4, pos := "free.go:79", after := #[{ on := 8, ground := Ground.data }, { on := 10, ground := Ground.data }, { on := 5, ground := Ground.guard }], guard := Option.some (5, Bool.false) }) rfl (by kernel_rfl) (by kernel_rfl) (by kernel_rfl) (fun _ _ _ h => h) (Or.inl ⟨by rfl, _⟩) (by assumption) _
            rotate_left
            · (intro wS hSw; (try dsimp only at hSw); go_simp; try with_reducible rfl)
            try simp only [Act.put, List.setIfInBounds_toArray, List.set_cons_zero, List.set_cons_succ]
            refine' wpAnyH_take (i := 12) (oi := { dst := Option.some 34, op := Op.pick (Operand.tmp 27) (Operand.const (Value.bool Bool.true)) (Operand.tmp 33), type := 4, pos := "free.go:79", after := #[{ on := 5, ground := Ground.data }, { on := 11, ground := Ground.data }], guard := Option.none }) rfl (by kernel_rfl) (by kernel_rfl) (by kernel_rfl) (fun _ _ _ h => h) (Or.inl ⟨by rfl, _⟩) (by assumption) _
            rotate_left
            · (intro wS hSw; (try dsimp only at hSw); go_simp; try with_reducible rfl)
            try simp only [Act.put, List.setIfInBounds_toArray, List.set_cons_zero, List.set_cons_succ]
            refine' wpAnyH_take (i := 13) (oi := { dst := Option.some 35, op := Op.move (Operand.tmp 34), type := 4, pos := "free.go:79", after := #[{ on := 12, ground := Ground.data }, { on := 10, ground := Ground.chain }], guard := Option.none }) rfl (by kernel_rfl) (by kernel_rfl) (by kernel_rfl) (fun _ _ _ h => h) (Or.inl ⟨by rfl, _⟩) (by assumption) _
            rotate_left
            · (intro wS hSw; (try dsimp only at hSw); go_simp; try with_reducible rfl)
            try simp only [Act.put, List.setIfInBounds_toArray, List.set_cons_zero, List.set_cons_succ]
            refine' wpAnyH_take (i := 14) (oi := { dst := Option.some 36, op := Op.fieldAddr 64 (Operand.tmp 11) 1, type := 0, pos := "free.go:79", after := #[{ on := 13, ground := Ground.guard }], guard := Option.some (13, Bool.false) }) rfl (by kernel_rfl) (by kernel_rfl) (by kernel_rfl) (fun _ _ _ h => h) (Or.inl ⟨by rfl, _⟩) (by assumption) _
            rotate_left
            · (intro wS hSw; (try dsimp only at hSw); go_simp; try with_reducible rfl)
            try simp only [Act.put, List.setIfInBounds_toArray, List.set_cons_zero, List.set_cons_succ]
            refine' wpAnyH_take (i := 15) (oi := { dst := Option.some 37, op := Op.load 28 (Operand.tmp 36), type := 28, pos := "free.go:79", after := #[{ on := 14, ground := Ground.data }, { on := 13, ground := Ground.guard }], guard := Option.some (13, Bool.false) }) rfl (by kernel_rfl) (by kernel_rfl) (by kernel_rfl) (fun _ _ _ h => h) (Or.inl ⟨by rfl, _⟩) (by assumption) _
            rotate_left
            · (intro wS hSw; (try dsimp only at hSw); go_simp; try with_reducible rfl)
            try simp only [Act.put, List.setIfInBounds_toArray, List.set_cons_zero, List.set_cons_succ]
            refine wpAnyH_ready (rs := [16]) (by kernel_rfl) (by simp) ?_
            refine AllReadyH.cons (o := { dst := Option.some 38, op := Op.call { callee := Callee.value (Operand.func 59), args := #[Operand.tmp 37], argTypes := #[28] }, type := 4, pos := "free.go:79", after := #[{ on := 15, ground := Ground.data }, { on := 13, ground := Ground.chain }, { on := 13, ground := Ground.guard }], guard := Option.some (13, Bool.false) }) rfl (fun K hK => ?_) AllReadyH.nil
            go_simp
            (go_at_call 59; refine (rising_any _ xs _ (Lib.hid (HU.out.below (by rw [HN.out]; exact hHeld.2.2.2.2)))).mono ?_; rintro e w7 ⟨rfl, b7⟩; rw [H3.out]; have M7 : Hid (Mod (fun j => j = g) w2 w7) := M6.out.then (Mod.of _ b7); have S7 : Hid (SetM w7 g (acc.length + 1) (fun z => (pg :: acc).contains z)) := S6.out.heap (b7.block g (by omega)); have hz7 : bb < w7.heap.size := (by have := b7.size; omega))
            refine hK.out _ _ ?_ (fun hHeld => ?_)
            · exact ⟨(World.cell?_of_block (a := ⟨bb, 0, none⟩) (b7.block bb (by omega))).trans hHeld.1, (World.cell?_of_block (a := ⟨bb, 1, none⟩) (b7.block bb (by omega))).trans hHeld.2.1, (World.cell?_of_block (a := ⟨N, 0, none⟩) (b7.block N (by omega))).trans hHeld.2.2.1, (World.cell?_of_block (a := ⟨N, 1, none⟩) (b7.block N (by omega))).trans hHeld.2.2.2.1, hHeld.2.2.2.2.trans (b7.mono (by omega))⟩
            clear hK K
            try simp only [Act.put, List.setIfInBounds_toArray, List.set_cons_zero, List.set_cons_succ]
            refine' wpAnyH_take (i := 17) (oi := { dst := Option.some 39, op := Op.unOp UnOp.not 4 (Operand.tmp 38), type := 4, pos := "free.go:79", after := #[{ on := 16, ground := Ground.data }, { on := 13, ground := Ground.guard }], guard := Option.some (13, Bool.false) }) rfl (by kernel_rfl) (by kernel_rfl) (by kernel_rfl) (fun _ _ _ h => h) (Or.inl ⟨by rfl, _⟩) (by assumption) _
            rotate_left
            · (intro wS hSw; (try dsimp only at hSw); go_simp; try with_reducible rfl)
            try simp only [Act.put, List.setIfInBounds_toArray, List.set_cons_zero, List.set_cons_succ]
            refine' wpAnyH_take (i := 18) (oi := { dst := Option.some 40, op := Op.pick (Operand.tmp 35) (Operand.const (Value.bool Bool.true)) (Operand.tmp 39), type := 4, pos := "free.go:79", after := #[{ on := 13, ground := Ground.data }, { on := 17, ground := Ground.data }], guard := Option.none }) rfl (by kernel_rfl) (by kernel_rfl) (by kernel_rfl) (fun _ _ _ h => h) (Or.inl ⟨by rfl, _⟩) (by assumption) _
            rotate_left
            · (intro wS hSw; (try dsimp only at hSw); go_simp; try with_reducible rfl)
            try simp only [Act.put, List.setIfInBounds_toArray, List.set_cons_zero, List.set_cons_succ]
            refine wpAnyH_done (by kernel_rfl) ?_ _
            have hs3 := HS2.out
            rw [if_pos (by unfold batchOk; rw [H1.out, HE.out, H2.out, H3.out]; rfl)] at hs3
            have HS3 := Lib.hid hs3
            have MT7 : Hid (Met pages (pg :: acc)) := MT.out.cons H1.out
            have n1 := hHeld.2.1
            have B7 := Lib.hid hHeld.2.2.2.2
            clear hs3 hHeld HS2 S5 S6 M5 M6 c0 c1 f0 f1
            go_upto_region 9 with fail
            clear n1
            obtain ⟨wo, hwo⟩ : ∃ W, wr = W := ⟨_, rfl⟩
            go_loopw [44] (fun iv wr => ∃ (j : Nat) (ac : List Nat), j ≤ xs.length ∧ Hid (numsGo pages xs (pg :: acc) = numsGo pages (xs.drop j) ac) ∧ Hid (SetM wr g ac.length (fun z => ac.contains z)) ∧ Hid (Met pages ac) ∧ Hid (Mod (fun j => j = g) w7 wr) ∧ iv = .int .i64 (j : Int)) (fun iv _ => xs.length - (intOf iv).toNat)
            case atStart => exact ⟨0, pg :: acc, Nat.zero_le _, rfl, S7, MT7, Mod.refl _ _, rfl⟩
            case round =>
              obtain ⟨j, ac, hj, HG2, SJ, MJ, MB, rfl⟩ := hrel
              have hz8 : bb < wr.heap.size := by have := MB.out.size; omega
              have MA : Hid (Mod (fun j => j = g) w2 wr) := M7.out.then MB.out
              by_cases hjx : j < xs.length
              case pos =>
                have ij : (j : Int) < (xs.length : Int) := by omega
                have BJ : Hid (Below N w wr) := B7.out.trans (MB.out.below (n := N) (fun j hj e => by omega) (by omega))
                have hu2 := HU.out.below (by rw [HN.out]; exact BJ.out)
                obtain ⟨ad9, c9, e9, _, hx9⟩ := hu2.form
                obtain ⟨nb, no, e8, hcs⟩ := hx9 (by omega)
                have e7 := (Value.slice.inj e9).1
                rw [e8] at e7
                subst e7
                have hc := hcs j hjx
                have hxl := HU.out.1 _ (List.getElem_mem hjx)
                have hg3 := HG2.out
                rw [numsGo_drop hjx] at hg3
                obtain ⟨y, hy⟩ : ∃ y, xs[j] = y := ⟨_, rfl⟩
                rw [hy] at hc hxl hg3
                unfold uN at hc
                have HG3 := Lib.hid hg3
                have PJ : Hid (wr.heap[N + 1]? = some (.cells #[.int .u32 (pages : Int)] 27 (0, 0))) := MA.out.heap P2.out (by omega)
                have VJ : Hid (wr.heap[g + 1]? = some (.cells #[.map (some g)] 60 (0, 0))) := MA.out.heap V2.out (by omega)
                have hmj := MJ.out.le
                obtain ⟨q4, hq4⟩ : ∃ q, freshB (fun z => ac.contains z) pages y = q := ⟨_, rfl⟩
                have H4 := Lib.hid hq4
                clear hq4 hg3 hy hcs e9 e8 hu2 hx9
                go_upto_region 11 with fail
                clear hc
                with_reducible refine wp_region_list ?_
                with_reducible refine wpList_plain rfl ?_
                intro K hK
                go_simp
                first | with_reducible refine hK _ _ ?_ | refine hK _ _ ?_
                clear hK K
                (try simp only [Act.put, List.setIfInBounds_toArray, List.set_cons_zero, List.set_cons_succ])
                with_reducible refine wpList_plain rfl ?_
                intro K hK
                go_simp
                first | with_reducible refine hK _ _ ?_ | refine hK _ _ ?_
                clear hK K
                (try simp only [Act.put, List.setIfInBounds_toArray, List.set_cons_zero, List.set_cons_succ])
                with_reducible refine wpList_plain rfl ?_
                intro K hK
                go_simp
                (go_at_call 86; refine (put_any _ g (g + 1) (N + 1) ac.length (fun z => ac.contains z) pages y SJ (by omega) hxl VJ PJ (by omega)).mono ?_; rintro e w9 ⟨rfl, s9, m9⟩; rw [H4.out]; have S9 := Lib.hid (SetM.cons s9); have M9 : Hid (Mod (fun j => j = g) w7 w9) := MB.out.then m9; clear s9 m9)
                first | with_reducible refine hK _ _ ?_ | refine hK _ _ ?_
                clear hK K
                (try simp only [Act.put, List.setIfInBounds_toArray, List.set_cons_zero, List.set_cons_succ])
                with_reducible refine wpList_plain rfl ?_
                intro K hK
                go_simp
                first | with_reducible refine hK _ _ ?_ | refine hK _ _ ?_
                clear hK K
                (try simp only [Act.put, List.setIfInBounds_toArray, List.set_cons_zero, List.set_cons_succ])
                cases q4
                case false =>
                  have hR := HNo.out w9 (by rw [HS3.out, HG3.out, if_neg (by rw [H4.out]; simp)]) (B7.out.trans (M9.out.below (n := N) (fun j hj e => by omega) (by omega)))
                  have HRR := Lib.hid hR
                  clear hR
                  go_wp2_with fail
                  exact HRR.out
                case true =>
                  have HG4 := HG3.out
                  rw [if_pos H4.out] at HG4
                  have HG5 : Hid (numsGo pages xs (pg :: acc) = numsGo pages (xs.drop (j + 1)) (y :: ac)) := HG4
                  have MJ5 : Hid (Met pages (y :: ac)) := MJ.out.cons H4.out
                  clear HG4 HG2 HG3
                  go_wp2_with fail
                  exact ⟨⟨j + 1, y :: ac, by omega, HG5, S9, MJ5, M9, by go_num⟩, by simp [intOf]; omega⟩
              case neg =>
                have ij : ¬ (j : Int) < (xs.length : Int) := by omega
                obtain rfl : j = xs.length := by omega
                have hg3 := HG2.out
                rw [List.drop_length, numsGo] at hg3
                have hs4 := HS3.out
                rw [hg3] at hs4
                have HS4 : Hid (seenGo (entI a b) pages cs [] = seenGo (entI a b) pages (cs.drop (k + 1)) ac) := hs4
                clear hg3 hs4 HS3 HG2
                go_wp2_with fail
                exact ⟨⟨k + 1, ac, by omega, HS4, SJ, MJ, MA, by go_num⟩, by simp [intOf]; omega⟩
    case neg =>
      have dk : decide (k < cs.length) = false := decide_eq_false hlt
      have dk2 : decide ((k : Int) < (cs.length : Int)) = false := decide_eq_false (by omega)
      obtain rfl : k = cs.length := by omega
      have hs3 := HS.out
      rw [List.drop_length, seenGo] at hs3
      have hR := HYes.out wr.drew acc g hs3 (by omega) SM.out (B2.out.trans (MW.out.below (n := N) (fun j hj e => by omega) (by have := Z2.out; omega))).drew
      have hR2 := HYes.out wr acc g hs3 (by omega) SM.out (B2.out.trans (MW.out.below (n := N) (fun j hj e => by omega) (by have := Z2.out; omega)))
      have HRR := Lib.hid hR
      have HRR2 := Lib.hid hR2
      have VW : Hid (wr.heap[g + 1]? = some (.cells #[.map (some g)] 60 (0, 0))) := MW.out.heap V2.out (by omega)
      have v0 := heap_cell VW.out (o := 0)
      clear hR hR2 hs3
      go_wp2_with fail
      first | exact HRR2.out | exact HRR.out
end Go.Proofs.Ytkngmnfgdlnddaa
