/-
  The walk of the law PageAlike.
-/
import Derived.Test.YtfhfeaipdmcekaaAlikeB
import Derived.BigQuiet
namespace Go.Proofs.Ytfhfeaipdmcekaa
open Go.RowKit Go.Lib Hw
set_option linter.unusedVariables false

theorem NewShelf_no (a b : Int) (v : Value) (w : World) (hmay : mayB a b = false) : Calls Try.prog 30 #[.agg #[.int .i64 a, .int .i64 b], v] w fun e w' => e = .returned (.tuple #[.pointer none, .int .i64 2]) ∧ Below w.heap.size w w' := by
  have HM := Lib.hid (May_any a b)
  rw [hmay] at HM
  have B0 := Lib.hid ((Below.refl w.heap.size w).alloc (Nat.le_refl _) (.cells #[.int .i64 a, .int .i64 b] 23))
  clear hmay
  go_enter Try.func30, Try.ntmps30
  go_wp2_with fail
  refine (HM.out _).mono ?_
  rintro e w1 ⟨rfl, hb1⟩
  have hz0 : w.heap.size < (w.alloc (.cells #[.int .i64 a, .int .i64 b] 23)).heap.size := by simp
  have B1 := Lib.hid (B0.out.trans (hb1.mono (Nat.le_of_lt hz0)))
  clear hb1
  go_wp2_with fail
  go_ret2
  exact ⟨rfl, B1.out⟩

/-- what the loops of PageAlike keep -/
structure AL (w : World) (a b : Int) (S mb n B : Nat) (g : Int → Option Pg) (lv : Value) (ks : List Blk) (v : Value) (l : List Pg) (asked last : Int) (W : World) : Prop where
  f : W.heap[w.heap.size]? = some (.cells #[.int .i64 a, .int .i64 b] 23 (0, 0))
  s : SHB W S a b mb
  m : PMap W mb n g
  bb : BB W B lv asked last
  own : OwnK W (B + 1) lv ks
  l1 : w.heap.size < S ∧ w.heap.size < mb
  l2 : S < B ∧ mb < B ∧ w.heap.size < B
  r : PgRow w v l
  bel : Below w.heap.size w W
section
variable {w W W' : World} {a b : Int} {S mb n B : Nat} {g : Int → Option Pg} {lv : Value} {ks : List Blk} {v : Value} {l : List Pg} {asked last : Int}
theorem AL.below (h : AL w a b S mb n B g lv ks v l asked last W) (hb : Below W.heap.size W W') : AL w a b S mb n B g lv ks v l asked last W' :=
  ⟨heap_below h.f hb (heap_lt h.f), heap_below h.s hb (heap_lt h.s), h.m.below hb h.m.lt, heap_below h.bb hb (heap_lt h.bb), h.own.below hb (fun g e => (h.own.lt g e).2), h.l1, h.l2, h.r, h.bel.trans (hb.mono h.bel.size)⟩
theorem AL.drew (h : AL w a b S mb n B g lv ks v l asked last W) : AL w a b S mb n B g lv ks v l asked last W.drew := ⟨h.f, h.s, h.m, h.bb, h.own, h.l1, h.l2, h.r, h.bel.drew⟩
theorem AL.drewN {q : Nat} (h : AL w a b S mb n B g lv ks v l asked last W) : AL w a b S mb n B g lv ks v l asked last (W.drewN q) := ⟨h.f, h.s, h.m, h.bb, h.own, h.l1, h.l2, h.r, below_drewN h.bel q⟩
theorem AL.alloc (h : AL w a b S mb n B g lv ks v l asked last W) (o : Obj) : AL w a b S mb n B g lv ks v l asked last (W.alloc o) := h.below ((Below.refl _ _).alloc (Nat.le_refl _) _)
theorem AL.asks {A L : Int} (h : AL w a b S mb n B g lv ks v l asked last W) (hb : BB W' B lv A L) (hk : Kept B W W') : AL w a b S mb n B g lv ks v l A L W' := by
  have hl := h.l2
  have hB := heap_lt h.bb
  exact ⟨hk.heap h.f (by omega), hk.heap h.s (by omega), h.m.heap (hk.block mb h.m.lt (by omega)), hb, h.own.other hk (by omega), h.l1, h.l2, h.r, h.bel.trans (hk.below (by omega) (by omega))⟩
theorem AL.lvne (h : AL w a b S mb n B g lv ks v l asked last W) : lv.ownBlock ≠ some B := fun e => by have := (h.own.lt B e).1; omega
/-- the list grows, before it is stored -/
theorem AL.cell0 (h : AL w a b S mb n B g lv ks v l asked last W) : W.cell? ⟨B, 0, none⟩ = some lv := by rw [heap_cell h.bb]; rfl
theorem AL.fz (h : AL w a b S mb n B g lv ks v l asked last W) : W.frozen? ⟨w.heap.size, 0, none⟩ = false := heap_free h.f _
theorem AL.rowAt (h : AL w a b S mb n B g lv ks v l asked last W) {rb ro cp : Nat} (hv : v = .slice (some ⟨rb, ro, none⟩) l.length cp) (k : Nat) (hk : k < l.length) (p : Pg) (hp : l[k] = p) : rb < w.heap.size ∧ W.cell? ⟨rb, ro + k * 4, none⟩ = some (.int .u8 p.k) ∧ W.cell? ⟨rb, ro + k * 4 + 1, none⟩ = some (.int .u32 p.n) ∧
    W.cell? ⟨rb, ro + k * 4 + 2, none⟩ = some (.int .u64 p.r) ∧ W.cell? ⟨rb, ro + k * 4 + 3, none⟩ = some (.string p.s) := by
  obtain ⟨ad, c, he, hrow⟩ := h.r
  rw [hv] at he
  obtain ⟨rfl, _, rfl⟩ := Value.slice.inj he
  obtain ⟨b', o', he2, hc⟩ := hrow (by omega)
  obtain ⟨rfl, rfl⟩ : rb = b' ∧ ro = o' := by simpa using he2
  obtain ⟨c0, c1, c2, c3⟩ := hc k hk
  rw [hp] at c0 c1 c2 c3
  have hbl := World.block_lt_of_cell? _ _ c0
  exact ⟨hbl, cellB h.bel hbl c0, cellB h.bel hbl c1, cellB h.bel hbl c2, cellB h.bel hbl c3⟩
theorem AL.grown {w2 : World} (h : AL w a b S mb n B g lv ks v l asked last W) (hg : W.grownBy w2 lv.ownBlock) (q : Nat) (hq : q ≤ B) : w2.heap[q]? = W.heap[q]? :=
  hg.block q (by have := heap_lt h.bb; omega) (fun e => by have := (h.own.lt q e.symm).1; omega)
theorem AL.gcell {w2 : World} (h : AL w a b S mb n B g lv ks v l asked last W) (hg : W.grownBy w2 lv.ownBlock) {q o : Nat} {u : Value} (hq : q ≤ B) (hu : W.cell? ⟨q, o, none⟩ = some u) : w2.cell? ⟨q, o, none⟩ = some u :=
  (World.cell?_of_block (a := ⟨q, o, none⟩) (h.grown hg q hq)).trans hu
theorem AL.gfree {w2 : World} (h : AL w a b S mb n B g lv ks v l asked last W) (hg : W.grownBy w2 lv.ownBlock) : w2.frozen? ⟨B, 0, none⟩ = false := heap_free ((h.grown hg B (Nat.le_refl _)).trans h.bb) _
theorem AL.store {w2 : World} {v2 : Value} {x : Blk} (h : AL w a b S mb n B g lv ks v l asked last W) (hv : OwnK w2 (B + 1) v2 (ks ++ [x])) (hg : W.grownBy w2 lv.ownBlock) : AL w a b S mb n B g v2 (ks ++ [x]) v l asked last (w2.setCell ⟨B, 0, none⟩ v2) := by
  have hl := h.l2
  have h1 := h.l1
  refine ⟨heap_setOther ((h.grown hg _ (by omega)).trans h.f) (by show w.heap.size ≠ B; omega) _, heap_setOther ((h.grown hg _ (by omega)).trans h.s) (by show S ≠ B; omega) _, (h.m.heap (h.grown hg _ (by omega))).heap ?_, ?_, hv.setOther (by show B < B + 1; omega) _, h.l1, h.l2, h.r, (h.bel.grown hg h.bel.size (fun q e => by have := (h.own.lt q e).1; omega)).setCell (by show w.heap.size ≤ B; omega) _⟩
  · obtain ⟨D, ⟨es, clock, hb, _⟩, _⟩ := h.m.heap (h.grown hg mb (by omega))
    rw [hb]
    exact heap_setOther hb (by show mb ≠ B; omega) _
  · have hb := (h.grown hg B (Nat.le_refl _)).trans h.bb
    exact heap_set (o := 0) hb v2
end

set_option maxHeartbeats 16000000 in
theorem PageAlike_walk (v0 v1 : Value) (w : World) (h0 : ∃ a b, v0 = .agg #[.int .i64 a, .int .i64 b] ∧ (-9223372036854775808 ≤ a ∧ a ≤ 9223372036854775807) ∧ (-9223372036854775808 ≤ b ∧ b ≤ 9223372036854775807))
    (h1 : ∃ l : List Pg, PgRow w v1 l ∧ (∀ p ∈ l, PgOk p) ∧ l.length ≤ 9223372036854775806) :
    Calls Try.prog 11 #[v0, v1] w fun e w' => e = .returned (.bool true) ∧ Below w.heap.size w w' := by
  obtain ⟨a, b, rfl, ha, hb⟩ := h0
  obtain ⟨l, hr, hok, hlen⟩ := h1
  have HOK := Lib.hid hok
  have HRow := Lib.hid hr
  obtain ⟨ad, cp, rfl, hrow⟩ := hr
  have F0 := Lib.hid (heap_new w (.cells #[.int .i64 a, .int .i64 b] 23))
  have B0 := Lib.hid ((Below.refl w.heap.size w).alloc (Nat.le_refl _) (.cells #[.int .i64 a, .int .i64 b] 23))
  have hz0 : w.heap.size < (w.alloc (.cells #[.int .i64 a, .int .i64 b] 23)).heap.size := by simp
  obtain ⟨R, C, hNS⟩ : ∃ (R : Option (Int → Option Pg)) (C : Int), ∀ W, PgRow W (.slice ad l.length cp) l → Calls Try.prog 30 #[.agg #[.int .i64 a, .int .i64 b], .slice ad l.length cp] W fun e w' => Below W.heap.size W w' ∧ NSPost W a b l.length C e w' R ∧ (R = none → C ≠ 0) ∧ (∀ g, R = some g → mayB a b = true ∧ C = 0 ∧ (∀ p ∈ l, ckP a b p = 0 ∧ g p.n = some p) ∧ (l.map Pg.n).Nodup) := by
    cases hm : mayB a b with
    | false => exact ⟨none, 2, fun W _ => (NewShelf_no a b _ W hm).mono (fun e w' h => ⟨h.2, h.1, fun _ => by decide, fun g hg => by cases hg⟩)⟩
    | true =>
      obtain ⟨⟨R, C⟩, hRC⟩ : ∃ x, shelfC a b (fun _ => none) l = x := ⟨_, rfl⟩
      refine ⟨R, C, fun W hW => (NewShelf_any a b _ l W ha hW HOK hlen hm R C hRC).mono (fun e w' h => ⟨h.1, h.2, fun hR => ?_, fun g hg => ?_⟩)⟩
      · subst hR; exact shelfC_none a b l _ C hRC
      · subst hg
        obtain ⟨e1, _, e3, e4⟩ := shelfC_some a b l _ g C hRC
        exact ⟨rfl, e1, fun p hp => ⟨(e3 p hp).1, (e3 p hp).2.1⟩, e4⟩
  have HNS := Lib.hid hNS
  clear hrow hNS hok
  cases R with
  | none =>
    go_enter Try.func11, Try.ntmps11
    go_upto_region 2 with (go_at_call 30; refine (HNS.out _ (HRow.out.below B0.out)).mono ?_; rintro e w1 ⟨hb1, hp1, hn1, _⟩; obtain rfl : e = _ := hp1; have hC := hn1 rfl)
    have d0 : (C != 0) = true := by rw [bne_iff_ne]; exact hC
    have B1 := Lib.hid (B0.out.trans (hb1.mono (Nat.le_of_lt hz0)))
    clear hb1 hn1 hC
    go_wp2_with (go_at_call 17; refine (awake_any _).mono ?_; rintro e w9 ⟨rfl, hb9⟩)
    go_ret
    exact ⟨rfl, B1.out.trans (hb9.mono B1.out.size)⟩
  | some g =>
    go_enter Try.func11, Try.ntmps11
    go_upto_region 2 with (go_at_call 30; refine (HNS.out _ (HRow.out.below B0.out)).mono ?_; rintro e w1 ⟨hb1, hp1, _, hs1⟩; obtain ⟨S, mb, rfl, hS, hM, hSl, hml, hne⟩ := hp1)
    obtain ⟨hmay, rfl, hall, hnd⟩ := hs1 g rfl
    have hl32 : l.length ≤ 4294967296 := by
      have h := nodup_le 4294967296 (l.map Pg.n) hnd (fun x hx => by
        obtain ⟨p, hp, rfl⟩ := List.mem_map.1 hx
        exact (HOK.out p hp).2.1)
      rwa [List.length_map] at h
    have B1 := Lib.hid (B0.out.trans (hb1.mono (Nat.le_of_lt hz0)))
    have F1 := Lib.hid (heap_below F0.out hb1 hz0)
    have HS := Lib.hid hS
    have HM := Lib.hid hM
    have HA := Lib.hid hall
    have HN := Lib.hid hnd
    have HMay := Lib.hid hmay
    simp only [World.size_alloc] at hSl hml
    have hSm : S < w1.heap.size ∧ mb < w1.heap.size := ⟨heap_lt hS, hM.lt⟩
    clear hs1 hb1 hS hM hall hnd hmay HNS F0 B0 hz0
    go_upto_region 5 with fail
    refine wp_name (fun W => Hid (AL w a b S mb l.length w1.heap.size g (.slice none 0 0) [] (.slice ad l.length cp) l 0 0 W)) ?_ (fun w2 hq => ?_)
    · refine ⟨heap_alloc F1.out, heap_alloc HS.out, HM.out.alloc _, heap_new _ _, OwnK.nil _ _, ⟨by omega, by omega⟩, ⟨by omega, by omega, ?_⟩, HRow.out, B1.out.alloc B1.out.size _⟩
      exact heap_lt F1.out
    obtain ⟨B, hB⟩ : ∃ B, w1.heap.size = B := ⟨_, rfl⟩
    rw [hB] at hq ⊢
    have T0 := Lib.hid hq.out
    clear hq hB F1 HS HM B1 hSl hml hSm hne HRow
    go_wp2_with fail
    go_loopw [8] (fun i wr => ∃ (k : Nat) (lv : Value), k ≤ l.length ∧ Hid (AL w a b S mb l.length B g lv ((l.take k).map (blkP a b)) (.slice ad l.length cp) l 0 0 wr) ∧ i = .int .i64 (k : Int)) (fun i _ => l.length - (intOf i).toNat)
    case atStart => exact ⟨0, _, Nat.zero_le _, T0, rfl⟩
    case round =>
      clear T0
      obtain ⟨k, lv, hk, TA, rfl⟩ := hrel
      by_cases hlt : k < l.length
      · have dk : decide (k < l.length) = true := decide_eq_true hlt
        have dk2 : decide ((k : Int) < (l.length : Int)) = true := decide_eq_true (by omega)
        have ik : (k : Int) < (l.length : Int) := by omega
        obtain ⟨_, _, he, hrow⟩ := TA.out.r
        obtain ⟨rb, ro, he2, _⟩ := hrow (by omega)
        obtain ⟨he3, hz9, hz8⟩ := Value.slice.inj he
        obtain rfl : ad = some ⟨rb, ro, none⟩ := he3.trans he2
        clear hz9 hz8 he he2 he3 hrow
        obtain ⟨p, hp⟩ : ∃ p, l[k] = p := ⟨_, rfl⟩
        have hpm : p ∈ l := by rw [← hp]; exact List.getElem_mem hlt
        have hpok := HOK.out p hpm
        have hck := (HA.out p hpm).1
        have hst : (l.take (k + 1)).map (blkP a b) = (l.take k).map (blkP a b) ++ [⟨p.n, wrP a b p, 0⟩] := by
          rw [List.take_add_one, List.getElem?_eq_getElem hlt, hp, List.map_append]
          rfl
        have hks : ((l.take k).map (blkP a b)).length ≤ 4294967296 := by rw [List.length_map, List.length_take]; omega
        obtain ⟨ks, hks2⟩ : ∃ ks, (l.take k).map (blkP a b) = ks := ⟨_, rfl⟩
        obtain ⟨X, hX⟩ : ∃ X, wrP a b p = X := ⟨_, rfl⟩
        rw [hks2] at TA hks hst
        rw [hX] at hst
        have Hst := Lib.hid hst
        have Hp := Lib.hid hp
        have hWr : Hid (∀ W, Calls Try.prog 21 #[.agg #[.int .i64 a, .int .i64 b], .agg #[.int .u8 p.k, .int .u32 p.n, .int .u64 p.r, .string p.s]] W fun e w' => e = .returned (.tuple #[.string X, .int .i64 0]) ∧ Below W.heap.size W w') := fun W => by
          have h := Write_any a b p.k p.n p.r p.s W ha hpok.1 hpok.2.1 hpok.2.2.1 hpok.2.2.2
          have e1 : writeS a b p.k p.n p.r p.s = X := hX
          have e2 : checkI a b p.k p.n p.r p.s.size = 0 := hck
          rw [e1, e2] at h
          exact h
        clear hst hp hks2 hX hck
        have D3 := Lib.hid TA.out.drew
        obtain ⟨hrb, c0, c1, c2, c3⟩ := D3.out.rowAt rfl k hlt p Hp.out
        have f0 : wr.drew.cell? ⟨w.heap.size, 0, none⟩ = some (.int .i64 a) := by rw [heap_cell D3.out.f]; rfl
        have f1 : wr.drew.cell? ⟨w.heap.size, 1, none⟩ = some (.int .i64 b) := by rw [heap_cell D3.out.f]; rfl
        have hl2 := D3.out.l2
        go_upto_region 8 with fail
        refine wp_region_held_drew (S := fun W => W.cell? ⟨w.heap.size, 0, none⟩ = some (.int .i64 a) ∧ W.cell? ⟨w.heap.size, 1, none⟩ = some (.int .i64 b) ∧ W.cell? ⟨rb, ro + k * 4, none⟩ = some (.int .u8 p.k) ∧ W.cell? ⟨rb, ro + k * 4 + 1, none⟩ = some (.int .u32 p.n) ∧ W.cell? ⟨rb, ro + k * 4 + 2, none⟩ = some (.int .u64 p.r) ∧ W.cell? ⟨rb, ro + k * 4 + 3, none⟩ = some (.string p.s)) (by kernel_rfl) ⟨f0, f1, c0, c1, c2, c3⟩ (fun hHeld => ?_)
        refine' wpAnyH_take (i := 0) (oi := { dst := Option.some 48, op := Op.load 23 (Operand.tmp 2), type := 23, pos := "law.go:269", after := #[], guard := Option.none }) rfl (by kernel_rfl) (by kernel_rfl) (by kernel_rfl) (fun _ _ _ h => h) (Or.inl ⟨by rfl, _⟩) (by assumption) _
        rotate_left
        · (intro wS hSw; (try dsimp only at hSw); go_simp; try with_reducible rfl)
        try simp only [Act.put, List.setIfInBounds_toArray, List.set_cons_zero, List.set_cons_succ]
        refine' wpAnyH_take (i := 1) (oi := { dst := Option.some 49, op := Op.move (Operand.tmp 1), type := 62, pos := "law.go:269", after := #[], guard := Option.none }) rfl (by kernel_rfl) (by kernel_rfl) (by kernel_rfl) (fun _ _ _ h => h) (Or.inl ⟨by rfl, _⟩) (by assumption) _
        rotate_left
        · (intro wS hSw; (try dsimp only at hSw); go_simp; try with_reducible rfl)
        try simp only [Act.put, List.setIfInBounds_toArray, List.set_cons_zero, List.set_cons_succ]
        refine' wpAnyH_take (i := 2) (oi := { dst := Option.some 50, op := Op.move (Operand.tmp 8), type := 3, pos := "law.go:269", after := #[], guard := Option.none }) rfl (by kernel_rfl) (by kernel_rfl) (by kernel_rfl) (fun _ _ _ h => h) (Or.inl ⟨by rfl, _⟩) (by assumption) _
        rotate_left
        · (intro wS hSw; (try dsimp only at hSw); go_simp; try with_reducible rfl)
        try simp only [Act.put, List.setIfInBounds_toArray, List.set_cons_zero, List.set_cons_succ]
        refine' wpAnyH_take (i := 3) (oi := { dst := Option.some 51, op := Op.indexAddr 62 (Operand.tmp 49) (Operand.tmp 50), type := 0, pos := "law.go:269", after := #[{ on := 1, ground := Ground.data }, { on := 2, ground := Ground.data }], guard := Option.none }) rfl (by kernel_rfl) (by kernel_rfl) (by kernel_rfl) (fun _ _ _ h => h) (Or.inl ⟨by rfl, _⟩) (by assumption) _
        rotate_left
        · (intro wS hSw; (try dsimp only at hSw); go_simp; try with_reducible rfl)
        try simp only [Act.put, List.setIfInBounds_toArray, List.set_cons_zero, List.set_cons_succ]
        refine' wpAnyH_take (i := 4) (oi := { dst := Option.some 52, op := Op.load 28 (Operand.tmp 51), type := 28, pos := "law.go:269", after := #[{ on := 3, ground := Ground.data }], guard := Option.none }) rfl (by kernel_rfl) (by kernel_rfl) (by kernel_rfl) (fun _ _ _ h => h) (Or.inl ⟨by rfl, _⟩) (by assumption) _
        rotate_left
        · (intro wS hSw; (try dsimp only at hSw); go_simp; try with_reducible rfl)
        try simp only [Act.put, List.setIfInBounds_toArray, List.set_cons_zero, List.set_cons_succ]
        refine wpAnyH_ready (rs := [5]) (by kernel_rfl) (by simp) ?_
        refine AllReadyH.cons (o := { dst := Option.some 53, op := Op.call { callee := Callee.value (Operand.func 21), args := #[Operand.tmp 48, Operand.tmp 52], argTypes := #[23, 28] }, type := 38, pos := "law.go:269", after := #[{ on := 0, ground := Ground.data }, { on := 4, ground := Ground.data }], guard := Option.none }) rfl (fun K hK => ?_) AllReadyH.nil
        go_simp
        (go_at_call 21; refine (hWr.out _).mono ?_; rintro e w4 ⟨rfl, hb4⟩; have T4' := Lib.hid (D3.out.below hb4); obtain ⟨_, y0, y1, y2, y3⟩ := T4'.out.rowAt rfl k hlt p Hp.out)
        refine hK.out _ _ ?_ (fun hHeld => ?_)
        · exact ⟨by rw [heap_cell T4'.out.f]; rfl, by rw [heap_cell T4'.out.f]; rfl, y0, y1, y2, y3⟩
        clear hK K
        try simp only [Act.put, List.setIfInBounds_toArray, List.set_cons_zero, List.set_cons_succ]
        refine' wpAnyH_take (i := 6) (oi := { dst := Option.some 47, op := Op.move (Operand.tmp 53), type := 38, pos := "law.go:269", after := #[{ on := 5, ground := Ground.data }], guard := Option.none }) rfl (by kernel_rfl) (by kernel_rfl) (by kernel_rfl) (fun _ _ _ h => h) (Or.inl ⟨by rfl, _⟩) (by assumption) _
        rotate_left
        · (intro wS hSw; (try dsimp only at hSw); go_simp; try with_reducible rfl)
        try simp only [Act.put, List.setIfInBounds_toArray, List.set_cons_zero, List.set_cons_succ]
        refine' wpAnyH_take (i := 7) (oi := { dst := Option.some 54, op := Op.extract (Operand.tmp 47) 0, type := 9, pos := "law.go:269", after := #[{ on := 6, ground := Ground.data }], guard := Option.none }) rfl (by kernel_rfl) (by kernel_rfl) (by kernel_rfl) (fun _ _ _ h => h) (Or.inl ⟨by rfl, _⟩) (by assumption) _
        rotate_left
        · (intro wS hSw; (try dsimp only at hSw); go_simp; try with_reducible rfl)
        try simp only [Act.put, List.setIfInBounds_toArray, List.set_cons_zero, List.set_cons_succ]
        refine' wpAnyH_take (i := 8) (oi := { dst := Option.some 55, op := Op.extract (Operand.tmp 47) 1, type := 33, pos := "law.go:269", after := #[{ on := 6, ground := Ground.data }, { on := 9, ground := Ground.gcOnly Departure.lateStores }], guard := Option.none }) rfl (by kernel_rfl) (by kernel_rfl) (by kernel_rfl) (fun _ _ _ h => h) (Or.inl ⟨by rfl, _⟩) (by assumption) _
        rotate_left
        · (intro wS hSw; (try dsimp only at hSw); go_simp; try with_reducible rfl)
        try simp only [Act.put, List.setIfInBounds_toArray, List.set_cons_zero, List.set_cons_succ]
        refine' wpAnyH_take (i := 9) (oi := { dst := Option.some 9, op := Op.assign (Operand.tmp 54), type := 9, pos := "law.go:269", after := #[{ on := 7, ground := Ground.data }, { on := 5, ground := Ground.chain }, { on := 0, ground := Ground.phase }, { on := 1, ground := Ground.phase }, { on := 2, ground := Ground.phase }, { on := 3, ground := Ground.phase }, { on := 4, ground := Ground.phase }, { on := 5, ground := Ground.phase }, { on := 6, ground := Ground.phase }, { on := 7, ground := Ground.phase }, { on := 8, ground := Ground.textOnly Departure.lateStores }], guard := Option.none }) rfl (by kernel_rfl) (by kernel_rfl) (by kernel_rfl) (fun _ _ _ h => h) (Or.inl ⟨by rfl, _⟩) (by assumption) _
        rotate_left
        · (intro wS hSw; (try dsimp only at hSw); go_simp; try with_reducible rfl)
        try simp only [Act.put, List.setIfInBounds_toArray, List.set_cons_zero, List.set_cons_succ]
        refine' wpAnyH_take (i := 10) (oi := { dst := Option.some 10, op := Op.assign (Operand.tmp 55), type := 33, pos := "law.go:269", after := #[{ on := 8, ground := Ground.data }, { on := 9, ground := Ground.chain }, { on := 0, ground := Ground.phase }, { on := 1, ground := Ground.phase }, { on := 2, ground := Ground.phase }, { on := 3, ground := Ground.phase }, { on := 4, ground := Ground.phase }, { on := 5, ground := Ground.phase }, { on := 6, ground := Ground.phase }, { on := 7, ground := Ground.phase }, { on := 8, ground := Ground.phase }, { on := 9, ground := Ground.phase }], guard := Option.none }) rfl (by kernel_rfl) (by kernel_rfl) (by kernel_rfl) (fun _ _ _ h => h) (Or.inl ⟨by rfl, _⟩) (by assumption) _
        rotate_left
        · (intro wS hSw; (try dsimp only at hSw); go_simp; try with_reducible rfl)
        try simp only [Act.put, List.setIfInBounds_toArray, List.set_cons_zero, List.set_cons_succ]
        refine wpAnyH_done (by kernel_rfl) ?_ _
        clear hHeld c0 c1 c2 c3 f0 f1 y0 y1 y2 y3 D3 TA hb4 hWr
        go_upto_region 11 with fail
        have T4 := Lib.hid T4'.out.drew
        have r4 := T4.out.cell0
        obtain ⟨hrb2, c0, c1, c2, c3⟩ := T4.out.rowAt rfl k hlt p Hp.out
        have T4a := Lib.hid T4'.out
        clear hrb2 T4'
        refine wp_region_held_drew (S := fun W => W.cell? ⟨rb, ro + k * 4 + 1, none⟩ = some (.int .u32 p.n)) (by kernel_rfl) c1 (fun hHeld => ?_)
        refine' wpAnyH_take (i := 0) (oi := { dst := Option.some 58, op := Op.move (Operand.tmp 7), type := 53, pos := "law.go:273", after := #[], guard := Option.none }) rfl (by kernel_rfl) (by kernel_rfl) (by kernel_rfl) (fun _ _ _ h => h) (Or.inl ⟨by rfl, _⟩) (by assumption) _
        rotate_left
        · (intro wS hSw; (try dsimp only at hSw); go_simp; try with_reducible rfl)
        try simp only [Act.put, List.setIfInBounds_toArray, List.set_cons_zero, List.set_cons_succ]
        refine' wpAnyH_take (i := 1) (oi := { dst := Option.some 59, op := Op.move (Operand.tmp 7), type := 53, pos := "law.go:273", after := #[], guard := Option.none }) rfl (by kernel_rfl) (by kernel_rfl) (by kernel_rfl) (fun _ _ _ h => h) (Or.inl ⟨by rfl, _⟩) (by assumption) _
        rotate_left
        · (intro wS hSw; (try dsimp only at hSw); go_simp; try with_reducible rfl)
        try simp only [Act.put, List.setIfInBounds_toArray, List.set_cons_zero, List.set_cons_succ]
        refine' wpAnyH_take (i := 2) (oi := { dst := Option.some 60, op := Op.nilCheck (Operand.tmp 59), type := 0, pos := "law.go:273", after := #[{ on := 1, ground := Ground.data }], guard := Option.none }) rfl (by kernel_rfl) (by kernel_rfl) (by kernel_rfl) (fun _ _ _ h => h) (Or.inl ⟨by rfl, _⟩) (by assumption) _
        rotate_left
        · (intro wS hSw; (try dsimp only at hSw); go_simp; try with_reducible rfl)
        try simp only [Act.put, List.setIfInBounds_toArray, List.set_cons_zero, List.set_cons_succ]
        refine' wpAnyH_take (i := 3) (oi := { dst := Option.some 61, op := Op.fieldAddr 55 (Operand.tmp 60) 0, type := 0, pos := "law.go:273", after := #[{ on := 2, ground := Ground.data }], guard := Option.none }) rfl (by kernel_rfl) (by kernel_rfl) (by kernel_rfl) (fun _ _ _ h => h) (Or.inl ⟨by rfl, _⟩) (by assumption) _
        rotate_left
        · (intro wS hSw; (try dsimp only at hSw); go_simp; try with_reducible rfl)
        try simp only [Act.put, List.setIfInBounds_toArray, List.set_cons_zero, List.set_cons_succ]
        refine' wpAnyH_take (i := 5) (oi := { dst := Option.some 63, op := Op.move (Operand.tmp 1), type := 62, pos := "law.go:273", after := #[], guard := Option.none }) rfl (by kernel_rfl) (by kernel_rfl) (by kernel_rfl) (fun _ _ _ h => h) (Or.inl ⟨by rfl, _⟩) (by assumption) _
        rotate_left
        · (intro wS hSw; (try dsimp only at hSw); go_simp; try with_reducible rfl)
        try simp only [Act.put, List.setIfInBounds_toArray, List.set_cons_zero, List.set_cons_succ]
        refine' wpAnyH_take (i := 6) (oi := { dst := Option.some 64, op := Op.move (Operand.tmp 8), type := 3, pos := "law.go:273", after := #[], guard := Option.none }) rfl (by kernel_rfl) (by kernel_rfl) (by kernel_rfl) (fun _ _ _ h => h) (Or.inl ⟨by rfl, _⟩) (by assumption) _
        rotate_left
        · (intro wS hSw; (try dsimp only at hSw); go_simp; try with_reducible rfl)
        try simp only [Act.put, List.setIfInBounds_toArray, List.set_cons_zero, List.set_cons_succ]
        refine' wpAnyH_take (i := 7) (oi := { dst := Option.some 65, op := Op.indexAddr 62 (Operand.tmp 63) (Operand.tmp 64), type := 0, pos := "law.go:273", after := #[{ on := 5, ground := Ground.data }, { on := 6, ground := Ground.data }], guard := Option.none }) rfl (by kernel_rfl) (by kernel_rfl) (by kernel_rfl) (fun _ _ _ h => h) (Or.inl ⟨by rfl, _⟩) (by assumption) _
        rotate_left
        · (intro wS hSw; (try dsimp only at hSw); go_simp; try with_reducible rfl)
        try simp only [Act.put, List.setIfInBounds_toArray, List.set_cons_zero, List.set_cons_succ]
        refine' wpAnyH_take (i := 8) (oi := { dst := Option.some 66, op := Op.fieldAddr 28 (Operand.tmp 65) 1, type := 0, pos := "law.go:273", after := #[{ on := 7, ground := Ground.data }], guard := Option.none }) rfl (by kernel_rfl) (by kernel_rfl) (by kernel_rfl) (fun _ _ _ h => h) (Or.inl ⟨by rfl, _⟩) (by assumption) _
        rotate_left
        · (intro wS hSw; (try dsimp only at hSw); go_simp; try with_reducible rfl)
        try simp only [Act.put, List.setIfInBounds_toArray, List.set_cons_zero, List.set_cons_succ]
        refine' wpAnyH_take (i := 9) (oi := { dst := Option.some 67, op := Op.load 25 (Operand.tmp 66), type := 25, pos := "law.go:273", after := #[{ on := 8, ground := Ground.data }], guard := Option.none }) rfl (by kernel_rfl) (by kernel_rfl) (by kernel_rfl) (fun _ _ _ h => h) (Or.inl ⟨by rfl, _⟩) (by assumption) _
        rotate_left
        · (intro wS hSw; (try dsimp only at hSw); go_simp; try with_reducible rfl)
        try simp only [Act.put, List.setIfInBounds_toArray, List.set_cons_zero, List.set_cons_succ]
        refine' wpAnyH_take (i := 10) (oi := { dst := Option.some 68, op := Op.move (Operand.tmp 9), type := 9, pos := "law.go:273", after := #[], guard := Option.none }) rfl (by kernel_rfl) (by kernel_rfl) (by kernel_rfl) (fun _ _ _ h => h) (Or.inl ⟨by rfl, _⟩) (by assumption) _
        rotate_left
        · (intro wS hSw; (try dsimp only at hSw); go_simp; try with_reducible rfl)
        try simp only [Act.put, List.setIfInBounds_toArray, List.set_cons_zero, List.set_cons_succ]
        refine' wpAnyH_take (i := 11) (oi := { dst := Option.some 69, op := Op.build 67 #[(0, Operand.tmp 67), (1, Operand.tmp 68)], type := 67, pos := "law.go:273", after := #[{ on := 9, ground := Ground.data }, { on := 10, ground := Ground.data }], guard := Option.none }) rfl (by kernel_rfl) (by kernel_rfl) (by kernel_rfl) (fun _ _ _ h => h) (Or.inl ⟨by rfl, _⟩) (by assumption) _
        rotate_left
        · (intro wS hSw; (try dsimp only at hSw); go_simp; try with_reducible rfl)
        try simp only [Act.put, List.setIfInBounds_toArray, List.set_cons_zero, List.set_cons_succ]
        refine wpAnyH_ready (rs := [4, 12]) (by kernel_rfl) (by simp) ?_
        refine AllReadyH.cons (o := { dst := Option.some 62, op := Op.load 49 (Operand.tmp 61), type := 49, pos := "law.go:273", after := #[{ on := 3, ground := Ground.data }], guard := Option.none }) rfl (fun K hK => ?_) (AllReadyH.cons (o := { dst := Option.some 70, op := Op.buildSlice 49 1 #[(0, Operand.tmp 69)], type := 49, pos := "law.go:273", after := #[{ on := 11, ground := Ground.data }], guard := Option.none }) rfl (fun K hK => ?_) AllReadyH.nil)
        · go_simp
          refine hK.out _ _ ?_ (fun hHeld => ?_)
          · exact hHeld
          clear hK K
          try simp only [Act.put, List.setIfInBounds_toArray, List.set_cons_zero, List.set_cons_succ]
          refine wpAnyH_ready (rs := [12]) (by kernel_rfl) (by simp) ?_
          refine AllReadyH.cons (o := { dst := Option.some 70, op := Op.buildSlice 49 1 #[(0, Operand.tmp 69)], type := 49, pos := "law.go:273", after := #[{ on := 11, ground := Ground.data }], guard := Option.none }) rfl (fun K hK => ?_) AllReadyH.nil
          go_simp
          refine hK.out _ _ ?_ (fun hHeld => ?_)
          · exact cellA hHeld
          clear hK K
          try simp only [Act.put, List.setIfInBounds_toArray, List.set_cons_zero, List.set_cons_succ]
          have T5 := Lib.hid (T4a.out.alloc (.cells #[.int .u32 p.n, .string X, .int .i64 0] 67)).drew
          have r5 := T5.out.cell0
          refine wpAnyH_ready (rs := [13]) (by kernel_rfl) (by simp) ?_
          refine AllReadyH.cons (o := { dst := Option.some 71, op := Op.call { callee := Callee.builtin Builtin.append, args := #[Operand.tmp 62, Operand.tmp 70], argTypes := #[49, 49] }, type := 49, pos := "law.go:273", after := #[{ on := 4, ground := Ground.data }, { on := 12, ground := Ground.data }], guard := Option.none }) rfl (fun K hK => ?_) AllReadyH.nil
          (set_option maxRecDepth 100000 in refine step_of rfl (wp_appK (w4.alloc (.cells #[.int .u32 p.n, .string X, .int .i64 0] 67)).drew ⟨p.n, X, 0⟩ _ _ rfl (B + 1) lv ks rfl T5.out.own w4.heap.size _ rfl _ (heap_new w4 _) hks (by have := heap_lt T5.out.bb; omega) ?_); intro g2 cap2 w2 hv2 hg2; have p6 := T5.out.gcell hg2 (by omega) (T5.out.rowAt rfl k hlt p Hp.out).2.2.1; have f6 := T5.out.gfree hg2; have r6 := T5.out.gcell hg2 (Nat.le_refl _) T5.out.cell0)
          refine hK.out _ _ ?_ (fun hHeld => ?_)
          · exact p6
          clear hK K
          try simp only [Act.put, List.setIfInBounds_toArray, List.set_cons_zero, List.set_cons_succ]
          refine' wpAnyH_take (i := 14) (oi := { dst := Option.some 72, op := Op.nilCheck (Operand.tmp 58), type := 0, pos := "law.go:273", after := #[{ on := 0, ground := Ground.data }, { on := 0, ground := Ground.phase }, { on := 1, ground := Ground.phase }, { on := 2, ground := Ground.phase }, { on := 3, ground := Ground.phase }, { on := 4, ground := Ground.phase }, { on := 5, ground := Ground.phase }, { on := 6, ground := Ground.phase }, { on := 7, ground := Ground.phase }, { on := 8, ground := Ground.phase }, { on := 9, ground := Ground.phase }, { on := 10, ground := Ground.phase }, { on := 11, ground := Ground.phase }, { on := 12, ground := Ground.phase }, { on := 13, ground := Ground.phase }], guard := Option.none }) rfl (by kernel_rfl) (by kernel_rfl) (by kernel_rfl) (fun _ _ _ h => h) (Or.inl ⟨by rfl, _⟩) (by assumption) _
          rotate_left
          · (intro wS hSw; (try dsimp only at hSw); go_simp; try with_reducible rfl)
          try simp only [Act.put, List.setIfInBounds_toArray, List.set_cons_zero, List.set_cons_succ]
          refine' wpAnyH_take (i := 15) (oi := { dst := Option.some 73, op := Op.fieldAddr 55 (Operand.tmp 72) 0, type := 0, pos := "law.go:273", after := #[{ on := 14, ground := Ground.data }, { on := 0, ground := Ground.phase }, { on := 1, ground := Ground.phase }, { on := 2, ground := Ground.phase }, { on := 3, ground := Ground.phase }, { on := 4, ground := Ground.phase }, { on := 5, ground := Ground.phase }, { on := 6, ground := Ground.phase }, { on := 7, ground := Ground.phase }, { on := 8, ground := Ground.phase }, { on := 9, ground := Ground.phase }, { on := 10, ground := Ground.phase }, { on := 11, ground := Ground.phase }, { on := 12, ground := Ground.phase }, { on := 13, ground := Ground.phase }], guard := Option.none }) rfl (by kernel_rfl) (by kernel_rfl) (by kernel_rfl) (fun _ _ _ h => h) (Or.inl ⟨by rfl, _⟩) (by assumption) _
          rotate_left
          · (intro wS hSw; (try dsimp only at hSw); go_simp; try with_reducible rfl)
          try simp only [Act.put, List.setIfInBounds_toArray, List.set_cons_zero, List.set_cons_succ]
          refine wpAnyH_ready (rs := [16]) (by kernel_rfl) (by simp) ?_
          refine AllReadyH.cons (o := { dst := Option.none, op := Op.store 49 (Operand.tmp 73) (Operand.tmp 71), type := 0, pos := "law.go:273", after := #[{ on := 15, ground := Ground.data }, { on := 13, ground := Ground.data }, { on := 13, ground := Ground.chain }, { on := 0, ground := Ground.phase }, { on := 1, ground := Ground.phase }, { on := 2, ground := Ground.phase }, { on := 3, ground := Ground.phase }, { on := 4, ground := Ground.phase }, { on := 5, ground := Ground.phase }, { on := 6, ground := Ground.phase }, { on := 7, ground := Ground.phase }, { on := 8, ground := Ground.phase }, { on := 9, ground := Ground.phase }, { on := 10, ground := Ground.phase }, { on := 11, ground := Ground.phase }, { on := 12, ground := Ground.phase }, { on := 13, ground := Ground.phase }], guard := Option.none }) rfl (fun K hK => ?_) AllReadyH.nil
          have T6 := Lib.hid (T5.out.store hv2 hg2)
          go_simp
          refine hK.out _ _ ?_ (fun hHeld => ?_)
          · exact (T6.out.rowAt rfl k hlt p Hp.out).2.2.1
          clear hK K
          try simp only [Act.put, List.setIfInBounds_toArray, List.set_cons_zero, List.set_cons_succ]
          refine wpAnyH_done (by kernel_rfl) ?_ _
          clear p6 f6 r6 hHeld r5
          set_option maxRecDepth 5000 in
          go_wp2_with fail
          exact ⟨⟨k + 1, _, by omega, by show AL _ _ _ _ _ _ _ _ _ _ _ _ _ _ _; rw [Hst.out]; exact T6.out, by go_num⟩, by simp [intOf]; omega⟩
        · go_simp
          refine hK.out _ _ ?_ (fun hHeld => ?_)
          · exact cellA hHeld
          clear hK K
          try simp only [Act.put, List.setIfInBounds_toArray, List.set_cons_zero, List.set_cons_succ]
          have T5 := Lib.hid (T4a.out.alloc (.cells #[.int .u32 p.n, .string X, .int .i64 0] 67)).drew
          have r5 := T5.out.cell0
          refine wpAnyH_ready (rs := [4]) (by kernel_rfl) (by simp) ?_
          refine AllReadyH.cons (o := { dst := Option.some 62, op := Op.load 49 (Operand.tmp 61), type := 49, pos := "law.go:273", after := #[{ on := 3, ground := Ground.data }], guard := Option.none }) rfl (fun K hK => ?_) AllReadyH.nil
          go_simp
          refine hK.out _ _ ?_ (fun hHeld => ?_)
          · exact hHeld
          clear hK K
          try simp only [Act.put, List.setIfInBounds_toArray, List.set_cons_zero, List.set_cons_succ]
          refine wpAnyH_ready (rs := [13]) (by kernel_rfl) (by simp) ?_
          refine AllReadyH.cons (o := { dst := Option.some 71, op := Op.call { callee := Callee.builtin Builtin.append, args := #[Operand.tmp 62, Operand.tmp 70], argTypes := #[49, 49] }, type := 49, pos := "law.go:273", after := #[{ on := 4, ground := Ground.data }, { on := 12, ground := Ground.data }], guard := Option.none }) rfl (fun K hK => ?_) AllReadyH.nil
          (set_option maxRecDepth 100000 in refine step_of rfl (wp_appK (w4.alloc (.cells #[.int .u32 p.n, .string X, .int .i64 0] 67)).drew ⟨p.n, X, 0⟩ _ _ rfl (B + 1) lv ks rfl T5.out.own w4.heap.size _ rfl _ (heap_new w4 _) hks (by have := heap_lt T5.out.bb; omega) ?_); intro g2 cap2 w2 hv2 hg2; have p6 := T5.out.gcell hg2 (by omega) (T5.out.rowAt rfl k hlt p Hp.out).2.2.1; have f6 := T5.out.gfree hg2; have r6 := T5.out.gcell hg2 (Nat.le_refl _) T5.out.cell0)
          refine hK.out _ _ ?_ (fun hHeld => ?_)
          · exact p6
          clear hK K
          try simp only [Act.put, List.setIfInBounds_toArray, List.set_cons_zero, List.set_cons_succ]
          refine' wpAnyH_take (i := 14) (oi := { dst := Option.some 72, op := Op.nilCheck (Operand.tmp 58), type := 0, pos := "law.go:273", after := #[{ on := 0, ground := Ground.data }, { on := 0, ground := Ground.phase }, { on := 1, ground := Ground.phase }, { on := 2, ground := Ground.phase }, { on := 3, ground := Ground.phase }, { on := 4, ground := Ground.phase }, { on := 5, ground := Ground.phase }, { on := 6, ground := Ground.phase }, { on := 7, ground := Ground.phase }, { on := 8, ground := Ground.phase }, { on := 9, ground := Ground.phase }, { on := 10, ground := Ground.phase }, { on := 11, ground := Ground.phase }, { on := 12, ground := Ground.phase }, { on := 13, ground := Ground.phase }], guard := Option.none }) rfl (by kernel_rfl) (by kernel_rfl) (by kernel_rfl) (fun _ _ _ h => h) (Or.inl ⟨by rfl, _⟩) (by assumption) _
          rotate_left
          · (intro wS hSw; (try dsimp only at hSw); go_simp; try with_reducible rfl)
          try simp only [Act.put, List.setIfInBounds_toArray, List.set_cons_zero, List.set_cons_succ]
          refine' wpAnyH_take (i := 15) (oi := { dst := Option.some 73, op := Op.fieldAddr 55 (Operand.tmp 72) 0, type := 0, pos := "law.go:273", after := #[{ on := 14, ground := Ground.data }, { on := 0, ground := Ground.phase }, { on := 1, ground := Ground.phase }, { on := 2, ground := Ground.phase }, { on := 3, ground := Ground.phase }, { on := 4, ground := Ground.phase }, { on := 5, ground := Ground.phase }, { on := 6, ground := Ground.phase }, { on := 7, ground := Ground.phase }, { on := 8, ground := Ground.phase }, { on := 9, ground := Ground.phase }, { on := 10, ground := Ground.phase }, { on := 11, ground := Ground.phase }, { on := 12, ground := Ground.phase }, { on := 13, ground := Ground.phase }], guard := Option.none }) rfl (by kernel_rfl) (by kernel_rfl) (by kernel_rfl) (fun _ _ _ h => h) (Or.inl ⟨by rfl, _⟩) (by assumption) _
          rotate_left
          · (intro wS hSw; (try dsimp only at hSw); go_simp; try with_reducible rfl)
          try simp only [Act.put, List.setIfInBounds_toArray, List.set_cons_zero, List.set_cons_succ]
          refine wpAnyH_ready (rs := [16]) (by kernel_rfl) (by simp) ?_
          refine AllReadyH.cons (o := { dst := Option.none, op := Op.store 49 (Operand.tmp 73) (Operand.tmp 71), type := 0, pos := "law.go:273", after := #[{ on := 15, ground := Ground.data }, { on := 13, ground := Ground.data }, { on := 13, ground := Ground.chain }, { on := 0, ground := Ground.phase }, { on := 1, ground := Ground.phase }, { on := 2, ground := Ground.phase }, { on := 3, ground := Ground.phase }, { on := 4, ground := Ground.phase }, { on := 5, ground := Ground.phase }, { on := 6, ground := Ground.phase }, { on := 7, ground := Ground.phase }, { on := 8, ground := Ground.phase }, { on := 9, ground := Ground.phase }, { on := 10, ground := Ground.phase }, { on := 11, ground := Ground.phase }, { on := 12, ground := Ground.phase }, { on := 13, ground := Ground.phase }], guard := Option.none }) rfl (fun K hK => ?_) AllReadyH.nil
          have T6 := Lib.hid (T5.out.store hv2 hg2)
          go_simp
          refine hK.out _ _ ?_ (fun hHeld => ?_)
          · exact (T6.out.rowAt rfl k hlt p Hp.out).2.2.1
          clear hK K
          try simp only [Act.put, List.setIfInBounds_toArray, List.set_cons_zero, List.set_cons_succ]
          refine wpAnyH_done (by kernel_rfl) ?_ _
          clear p6 f6 r6 hHeld r5
          set_option maxRecDepth 5000 in
          go_wp2_with fail
          exact ⟨⟨k + 1, _, by omega, by show AL _ _ _ _ _ _ _ _ _ _ _ _ _ _ _; rw [Hst.out]; exact T6.out, by go_num⟩, by simp [intOf]; omega⟩
      · obtain rfl : k = l.length := by omega
        have dk : decide (l.length < l.length) = false := decide_eq_false (by omega)
        rw [List.take_length] at TA
        have HKok : Hid (∀ x ∈ l.map (blkP a b), BlkOk x) := fun x hx => by
          obtain ⟨p, hp, rfl⟩ := List.mem_map.1 hx
          exact ⟨(HOK.out p hp).2.1, wr_size (HA.out p hp).1, by show -9223372036854775808 ≤ (0 : Int) ∧ (0 : Int) ≤ _; omega⟩
        have HSh : Hid (∀ p ∈ l, sheetV a b p.n (l.map (blkP a b)) = .tuple #[.agg #[.int .u8 p.k, .int .u32 p.n, .int .u64 p.r, .string p.s], .int .i64 0]) := fun p hp => sheet_in HN.out hp (HOK.out p hp) (HA.out p hp).1
        have hkl : (l.map (blkP a b)).length ≤ 9223372036854775807 := by rw [List.length_map]; omega
        obtain ⟨ks, hks⟩ : ∃ ks, l.map (blkP a b) = ks := ⟨_, rfl⟩
        rw [hks] at TA HKok HSh hkl
        have HO := Lib.hid (fun t u W => Over_some a b t u W HMay.out)
        have f0 : wr.cell? ⟨w.heap.size, 0, none⟩ = some (.int .i64 a) := by rw [heap_cell TA.out.f]; rfl
        have f1 : wr.cell? ⟨w.heap.size, 1, none⟩ = some (.int .i64 b) := by rw [heap_cell TA.out.f]; rfl
        have HKl := Lib.hid hkl
        clear hks hkl
        go_upto_region 13 with (go_at_call 27; refine (HO.out _ _ _).mono ?_; rintro e w3 ⟨S2, rfl, hS2, hSb, hb3⟩)
        have T3 := Lib.hid (TA.out.below hb3)
        have SH := Lib.hid hSb
        have hBl := heap_lt TA.out.bb
        have hS2B : B < S2 := by omega
        clear TA hSb hb3 f0 f1 hS2 HO hBl
        go_wp2_with fail
        go_loopw [13] (fun i wr => ∃ (k : Nat) (asked last : Int), k ≤ l.length ∧ Hid (0 ≤ asked ∧ asked ≤ (k : Int)) ∧ Hid (AL w a b S mb l.length B g lv ks (.slice ad l.length cp) l asked last wr) ∧ Hid (wr.heap[S2]? = some (.cells #[.iface 53 (.pointer (some ⟨B, 0, none⟩)), .int .i64 a, .int .i64 b] 83 (0, 0))) ∧ i = .int .i64 (k : Int)) (fun i _ => l.length - (intOf i).toNat)
        case atStart => exact ⟨0, 0, 0, Nat.zero_le _, ⟨by omega, by omega⟩, T3, SH, rfl⟩
        case round =>
          clear T3 SH
          obtain ⟨k, asked, last, hk, Hk, TA, SH, rfl⟩ := hrel
          by_cases hlt : k < l.length
          · have dk : decide (k < l.length) = true := decide_eq_true hlt
            have dk2 : decide ((k : Int) < (l.length : Int)) = true := decide_eq_true (by omega)
            have ik : (k : Int) < (l.length : Int) := by omega
            obtain ⟨_, _, he, hrow⟩ := TA.out.r
            obtain ⟨rb, ro, he2, _⟩ := hrow (by omega)
            obtain ⟨he3, hz9, hz8⟩ := Value.slice.inj he
            obtain rfl : ad = some ⟨rb, ro, none⟩ := he3.trans he2
            clear hz9 hz8 he he2 he3 hrow
            obtain ⟨p, hp⟩ : ∃ p, l[k] = p := ⟨_, rfl⟩
            have hpm : p ∈ l := by rw [← hp]; exact List.getElem_mem hlt
            have hpok := HOK.out p hpm
            have hgp := (HA.out p hpm).2
            have Hp := Lib.hid hp
            clear hp
            obtain ⟨A1, hA1⟩ : ∃ A1, A1 = if namedB p.n = true then asked + 1 else asked := ⟨_, rfl⟩
            obtain ⟨L1, hL1⟩ : ∃ L1, L1 = if namedB p.n = true then p.n else last := ⟨_, rfl⟩
            have HA1 := Lib.hid hA1
            have HL1 := Lib.hid hL1
            have HAk : Hid (0 ≤ A1 ∧ A1 ≤ ((k + 1 : Nat) : Int)) := by
              show 0 ≤ A1 ∧ A1 ≤ ((k + 1 : Nat) : Int)
              have := Hk.out
              rw [hA1]
              split <;> omega
            clear hA1 hL1
            have hkk : 0 ≤ asked ∧ asked < 9223372036854775807 := by have := Hk.out; omega
            have HP := Lib.hid (SheetsPage_own S2 B lv ks a b asked last p.n A1 L1 wr HA1 HL1 ha hpok.2.1 (TA.out.own.row HKok.out HKl.out) TA.out.lvne TA.out.bb hkk (by omega) SH)
            rw [HSh.out p hpm] at HP
            obtain ⟨hrb, c0, c1, c2, c3⟩ := TA.out.rowAt rfl k hlt p Hp.out
            have hl2 := TA.out.l2
            clear hkk
            go_upto_region 19 with (go_at_call 28; refine HP.out.mono ?_; rintro e w4 ⟨rfl, hB4, hK4⟩; have T4 := Lib.hid (TA.out.asks hB4 hK4); have SH4 := Lib.hid (hK4.heap SH.out (by omega)); obtain ⟨_, y0, y1, y2, y3⟩ := T4.out.rowAt rfl k hlt p Hp.out)
            clear HP TA SH hB4 hK4 c0 c1 c2 c3 y0 y1 y2 y3
            refine wp_name (fun W => Hid (AL w a b S mb l.length B g lv ks (.slice (some ⟨rb, ro, none⟩) l.length cp) l A1 L1 W) ∧ Hid (W.heap[S2]? = some (.cells #[.iface 53 (.pointer (some ⟨B, 0, none⟩)), .int .i64 a, .int .i64 b] 83 (0, 0))) ∧ Hid (W.heap[w4.heap.size]? = some (.cells #[.int .u8 p.k, .int .u32 p.n, .int .u64 p.r, .string p.s] 28 (0, 0)))) ⟨T4.out.alloc _, heap_alloc SH4.out, heap_new _ _⟩ (fun w5 hq => ?_)
            obtain ⟨T5, SH5, Q5⟩ := hq
            obtain ⟨q1, hq1⟩ : ∃ q, w4.heap.size = q := ⟨_, rfl⟩
            rw [hq1] at Q5 ⊢
            clear hq1 T4 SH4
            obtain ⟨_, c0, c1, c2, c3⟩ := T5.out.rowAt rfl k hlt p Hp.out
            have HQ := Lib.hid (SPage_any S mb l.length a b p.n g w5 (Lib.hid T5.out.s) (Lib.hid T5.out.m) hpok.2.1 p (by rw [hgp]; rfl) 0 (by rw [askC, hgp]; rfl))
            clear hgp
            go_upto_region 20 with (go_at_call 31; refine HQ.out.mono ?_; rintro e w6 ⟨rfl, hb6⟩)
            have T6 := Lib.hid ((T5.out.below hb6).alloc (.cells #[.int .u8 p.k, .int .u32 p.n, .int .u64 p.r, .string p.s] 28))
            have SH6 := Lib.hid (heap_alloc (o' := .cells #[.int .u8 p.k, .int .u32 p.n, .int .u64 p.r, .string p.s] 28) (heap_below SH5.out hb6 (heap_lt SH5.out)))
            have Q6 := heap_alloc (o' := .cells #[.int .u8 p.k, .int .u32 p.n, .int .u64 p.r, .string p.s] 28) (heap_below Q5.out hb6 (heap_lt Q5.out))
            have R6 := heap_new w6 (.cells #[.int .u8 p.k, .int .u32 p.n, .int .u64 p.r, .string p.s] 28)
            obtain ⟨a0, a1, a2, a3, _⟩ := blk4 Q6
            obtain ⟨b0, b1, b2, b3, _⟩ := blk4 R6
            clear HQ T5 SH5 Q5 Q6 R6 hb6 c0 c1 c2 c3
            obtain ⟨_, c0, c1, c2, c3⟩ := T6.out.rowAt rfl k hlt p Hp.out
            go_quiet (fail)
            clear a0 a1 a2 a3 b0 b1 b2 b3 c0 c1 c2 c3
            set_option maxRecDepth 5000 in
            go_wp2_with fail
            exact ⟨⟨k + 1, A1, L1, by omega, HAk, T6.out.drewN, SH6, by go_num⟩, by simp [intOf]; omega⟩
          · obtain rfl : k = l.length := by omega
            have dk : decide (l.length < l.length) = false := decide_eq_false (by omega)
            go_wp2_with (go_at_call 17; refine (awake_any _).mono ?_; rintro e w9 ⟨rfl, hb9⟩)
            go_ret
            exact ⟨rfl, TA.out.bel.trans (hb9.mono TA.out.bel.size)⟩
end Go.Proofs.Ytfhfeaipdmcekaa
