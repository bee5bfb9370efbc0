/-
  The walk of Constants.
-/
import Derived.Test.YtmjikebbknjahaaRootY
import Derived.Test.YtmjikebbknjahaaRefShaC
import Derived.Deep.CutRange
import Derived.Deep.DeepCutAuto
namespace Go.Proofs.Ytmjikebbknjahaa
open Go.RowKit Go.Lib Hw
set_option linter.unusedVariables false

theorem OwnU.setOther {w : World} {B : Nat} {v : Value} {xs : List (BitVec 32)} (h : OwnU w B v xs) {a : Addr} (hne : a.block < B) (u : Value) : OwnU (w.setCell a u) B v xs := by
  refine ⟨h.1, ?_⟩
  rcases h.2 with h2 | ⟨g, cap, cur, hv, hg, hh, r⟩
  · exact .inl h2
  · refine .inr ⟨g, cap, cur, hv, hg, ?_, r⟩
    rw [Below.heap_setCell _ _ _ _ (by omega : g ≠ a.block)]; exact hh
theorem OwnU.kept {w w' : World} {B : Nat} {v : Value} {xs : List (BitVec 32)} {row : Option Nat} (h : OwnU w B v xs) (hg : w.grownBy w' row) (hne : v.ownBlock = none ∨ v.ownBlock ≠ row) : OwnU w' B v xs := World.ownsRow.kept h hg hne
theorem OwnU.allocK {w : World} {B : Nat} {v : Value} {xs : List (BitVec 32)} (h : OwnU w B v xs) (o : Obj) : OwnU (w.alloc o) B v xs := World.ownsRow.alloc h o
theorem OwnU.ur {w : World} {B : Nat} {v : Value} {xs : List (BitVec 32)} (h : OwnU w B v xs) (hn : 0 < xs.length) : UR w v xs := by
  obtain ⟨g, cap, rfl, _, hg⟩ := h.form hn
  exact ⟨g, cap, rfl, hg, fun j hj => h.cell j xs[j] (by simp [List.getD, hj]) hj⟩
/-- append(xs, x) at an operation: one word that lies at a block's head; what else is there stays -/
theorem wp_appUk {o : Oper} {a : Act} {K : Act → World → Prop} {Q : Exit → Act → World → Prop} (W : World) (x : BitVec 32) (s y : Operand)
    (ho : o.op = .call { callee := .builtin .append, args := #[s, y], argTypes := #[85, 85] })
    (B : Nat) (v : Value) (xs : List (BitVec 32)) (hs : a.eval s = v) (hown : OwnU W B v xs) (g c : Nat) (hy : a.eval y = .slice (some ⟨g, 0, none⟩) 1 c) (hn : W.cell? ⟨g, 0, none⟩ = some (.int .u32 (toU x)))
    (hlen : xs.length ≤ 1000000) (hB : B ≤ W.heap.size)
    (h : ∀ v' w', OwnU w' B v' (xs ++ [x]) → W.grownBy w' v.ownBlock → (∀ k, v'.ownBlock = some k → v.ownBlock = some k ∨ k = W.heap.size) → K (a.put o.dst v') w') : o.wp Try.prog a W K Q := by
  obtain ⟨i, hi, hz0, hz1, hz2⟩ := info_parts info_u32
  refine wp_append_lies W s y 85 ho B 25 i (.int .u32 0) 1 4 Try.underlying85 hi hz0 hz1 hz2 rfl (by decide) v xs.length (xs.map uv) hs hown ⟨g, 0, none⟩ 1 c [uv x] hy rfl ?_ (uv_one [x]) (by decide) (by rw [maxLen_eq]; omega) (by omega) hB W.heap.size rfl ?_
  · intro j u hu
    match j, hu with
    | 0, hu =>
      rw [add_flat1, Nat.zero_add, hn]
      simpa [uv] using hu
  · intro g' cap w' h1 h2 h3 _
    refine h _ w' ?_ h2 (fun k hk => ?_)
    · unfold OwnU
      rw [List.length_append, List.map_append]
      exact h1
    · have hk' : g' = k := by simpa [Value.ownBlock] using hk
      subst hk'
      exact h3

/-- what the loop of Constants keeps -/
structure CO (w : World) (Bn gp : Nat) (P : List Nat) (vH vK : Value) (hs ks : List (BitVec 32)) (W : World) : Prop where
  r : W.heap[w.heap.size + 1]? = some (.cells #[vH, vK] 87 (0, 0))
  z : W.heap[w.heap.size]? = some (.cells #[.slice none 0 0, .slice none 0 0] 87 (0, 0))
  h : OwnU W Bn vH hs
  k : OwnU W Bn vK ks
  ne : ∀ g, vH.ownBlock = some g → vK.ownBlock = some g → False
  p : ∀ j (hj : j < P.length), W.cell? ⟨gp, j, none⟩ = some (.int .u64 (P[j] : Int))
  lo : w.heap.size + 2 ≤ gp
  hi : gp < Bn
  big : Bn ≤ W.heap.size
  bel : Below w.heap.size w W
section
variable {w W w2 : World} {Bn gp : Nat} {P : List Nat} {vH vK v2 : Value} {hs ks : List (BitVec 32)} {x : BitVec 32}
theorem CO.below (t : CO w Bn gp P vH vK hs ks W) (hb : Below W.heap.size W w2) : CO w Bn gp P vH vK hs ks w2 :=
  ⟨heap_below t.r hb (heap_lt t.r), heap_below t.z hb (heap_lt t.z), t.h.below hb (fun g h => (t.h.lt g h).2), t.k.below hb (fun g h => (t.k.lt g h).2), t.ne,
    fun j hj => cellB hb (by have h1 := t.hi; have h2 := t.big; omega) (t.p j hj), t.lo, t.hi, Nat.le_trans t.big hb.size, t.bel.trans (hb.mono t.bel.size)⟩
theorem CO.drew (t : CO w Bn gp P vH vK hs ks W) : CO w Bn gp P vH vK hs ks W.drew := ⟨t.r, t.z, t.h, t.k, t.ne, t.p, t.lo, t.hi, t.big, t.bel.drew⟩
theorem CO.alloc (t : CO w Bn gp P vH vK hs ks W) (o : Obj) : CO w Bn gp P vH vK hs ks (W.alloc o) := t.below ((Below.refl _ _).alloc (Nat.le_refl _) _)
theorem CO.cell0 (t : CO w Bn gp P vH vK hs ks W) : W.cell? ⟨w.heap.size + 1, 0, none⟩ = some vH := by rw [heap_cell t.r]; rfl
theorem CO.cell1 (t : CO w Bn gp P vH vK hs ks W) : W.cell? ⟨w.heap.size + 1, 1, none⟩ = some vK := by rw [heap_cell t.r]; rfl
theorem CO.pc (t : CO w Bn gp P vH vK hs ks W) (j : Nat) (hj : j < P.length) (pk : Nat) (h : P[j] = pk) : W.cell? ⟨gp, j, none⟩ = some (.int .u64 (pk : Int)) := by rw [t.p j hj, h]
theorem CO.blkH (t : CO w Bn gp P vH vK hs ks W) (hg : W.grownBy w2 vH.ownBlock) (b : Nat) (hb : b < Bn) : w2.heap[b]? = W.heap[b]? :=
  hg.block b (by have := t.big; omega) (fun e => by have := (t.h.lt b e.symm).1; omega)
theorem CO.blkK (t : CO w Bn gp P vH vK hs ks W) (hg : W.grownBy w2 vK.ownBlock) (b : Nat) (hb : b < Bn) : w2.heap[b]? = W.heap[b]? :=
  hg.block b (by have := t.big; omega) (fun e => by have := (t.k.lt b e.symm).1; omega)
theorem CO.pgh (t : CO w Bn gp P vH vK hs ks W) (hg : W.grownBy w2 vH.ownBlock) (j : Nat) (hj : j < P.length) (pk : Nat) (h : P[j] = pk) : w2.cell? ⟨gp, j, none⟩ = some (.int .u64 (pk : Int)) :=
  (World.cell?_of_block (a := ⟨gp, j, none⟩) (t.blkH hg gp t.hi)).trans (t.pc j hj pk h)
theorem CO.pgk (t : CO w Bn gp P vH vK hs ks W) (hg : W.grownBy w2 vK.ownBlock) (j : Nat) (hj : j < P.length) (pk : Nat) (h : P[j] = pk) : w2.cell? ⟨gp, j, none⟩ = some (.int .u64 (pk : Int)) :=
  (World.cell?_of_block (a := ⟨gp, j, none⟩) (t.blkK hg gp t.hi)).trans (t.pc j hj pk h)
theorem CO.rgh (t : CO w Bn gp P vH vK hs ks W) (hg : W.grownBy w2 vH.ownBlock) : w2.cell? ⟨w.heap.size + 1, 0, none⟩ = some vH := by
  have h1 := t.blkH hg (w.heap.size + 1) (by have h1 := t.lo; have h2 := t.hi; omega)
  rw [heap_cell (h1.trans t.r)]; rfl
theorem CO.fgh (t : CO w Bn gp P vH vK hs ks W) (hg : W.grownBy w2 vH.ownBlock) : w2.frozen? ⟨w.heap.size + 1, 0, none⟩ = false := by
  have h1 := t.blkH hg (w.heap.size + 1) (by have h1 := t.lo; have h2 := t.hi; omega)
  exact heap_free (h1.trans t.r) _
theorem CO.rgk (t : CO w Bn gp P vH vK hs ks W) (hg : W.grownBy w2 vK.ownBlock) : w2.cell? ⟨w.heap.size + 1, 1, none⟩ = some vK := by
  have h1 := t.blkK hg (w.heap.size + 1) (by have h1 := t.lo; have h2 := t.hi; omega)
  rw [heap_cell (h1.trans t.r)]; rfl
theorem CO.fgk (t : CO w Bn gp P vH vK hs ks W) (hg : W.grownBy w2 vK.ownBlock) : w2.frozen? ⟨w.heap.size + 1, 1, none⟩ = false := by
  have h1 := t.blkK hg (w.heap.size + 1) (by have h1 := t.lo; have h2 := t.hi; omega)
  exact heap_free (h1.trans t.r) _
theorem CO.storeH (t : CO w Bn gp P vH vK hs ks W) (hv : OwnU w2 Bn v2 (hs ++ [x])) (hg : W.grownBy w2 vH.ownBlock) (hk : ∀ k, v2.ownBlock = some k → vH.ownBlock = some k ∨ k = W.heap.size) :
    CO w Bn gp P v2 vK (hs ++ [x]) ks (w2.setCell ⟨w.heap.size + 1, 0, none⟩ v2) := by
  have hlo := t.lo
  have hhi := t.hi
  have hr := (t.blkH hg (w.heap.size + 1) (by omega)).trans t.r
  have hz := (t.blkH hg w.heap.size (by omega)).trans t.z
  refine ⟨?_, heap_setOther hz (by show w.heap.size ≠ w.heap.size + 1; omega) _, hv.setOther (by show w.heap.size + 1 < Bn; omega) _, ?_, ?_, ?_, hlo, hhi, ?_, ?_⟩
  · rw [heap_set hr v2]; rfl
  · refine (t.k.kept hg ?_).setOther (by show w.heap.size + 1 < Bn; omega) _
    cases h1 : vK.ownBlock with
    | none => exact .inl rfl
    | some g => exact .inr (fun e => t.ne g e.symm h1)
  · intro g h1 h2
    rcases hk g h1 with h3 | h3
    · exact t.ne g h3 h2
    · have := (t.k.lt g h2).2; omega
  · intro j hj
    rw [World.cell?_setCell_other _ _ _ _ (by intro e; simp only [Addr.mk.injEq] at e; omega)]
    exact t.pgh hg j hj _ rfl
  · have h1 := hg.size; have h2 := t.big; simp; omega
  · exact (t.bel.grown hg t.bel.size (fun g h => by have := (t.h.lt g h).1; omega)).setCell (by show w.heap.size ≤ w.heap.size + 1; omega) _
theorem CO.storeK (t : CO w Bn gp P vH vK hs ks W) (hv : OwnU w2 Bn v2 (ks ++ [x])) (hg : W.grownBy w2 vK.ownBlock) (hk : ∀ k, v2.ownBlock = some k → vK.ownBlock = some k ∨ k = W.heap.size) :
    CO w Bn gp P vH v2 hs (ks ++ [x]) (w2.setCell ⟨w.heap.size + 1, 1, none⟩ v2) := by
  have hlo := t.lo
  have hhi := t.hi
  have hr := (t.blkK hg (w.heap.size + 1) (by omega)).trans t.r
  have hz := (t.blkK hg w.heap.size (by omega)).trans t.z
  refine ⟨?_, heap_setOther hz (by show w.heap.size ≠ w.heap.size + 1; omega) _, ?_, hv.setOther (by show w.heap.size + 1 < Bn; omega) _, ?_, ?_, hlo, hhi, ?_, ?_⟩
  · rw [heap_set hr v2]; rfl
  · refine (t.h.kept hg ?_).setOther (by show w.heap.size + 1 < Bn; omega) _
    cases h1 : vH.ownBlock with
    | none => exact .inl rfl
    | some g => exact .inr (fun e => t.ne g h1 e.symm)
  · intro g h1 h2
    rcases hk g h2 with h3 | h3
    · exact t.ne g h1 h3
    · have := (t.h.lt g h1).2; omega
  · intro j hj
    rw [World.cell?_setCell_other _ _ _ _ (by intro e; simp only [Addr.mk.injEq] at e; omega)]
    exact t.pgk hg j hj _ rfl
  · have h1 := hg.size; have h2 := t.big; simp; omega
  · exact (t.bel.grown hg t.bel.size (fun g h => by have := (t.k.lt g h).1; omega)).setCell (by show w.heap.size ≤ w.heap.size + 1; omega) _
end
def root2 (p : Nat) : BitVec 32 := BitVec.ofNat 32 (rootL p 2)
def root3 (p : Nat) : BitVec 32 := BitVec.ofNat 32 (rootL p 3)
theorem root_toU (p pw : Nat) : ((rootL p pw : Nat) : Int) = toU (BitVec.ofNat 32 (rootL p pw)) := by
  have h : rootL p pw < 4294967296 := Nat.mod_lt _ (by decide)
  show _ = ((BitVec.ofNat 32 (rootL p pw)).toNat : Int)
  rw [BitVec.toNat_ofNat]
  omega
theorem map_take_succ (f : Nat → BitVec 32) (P : List Nat) (k : Nat) (h : k < P.length) : (P.take (k + 1)).map f = (P.take k).map f ++ [f P[k]] := by
  rw [List.take_add_one, List.getElem?_eq_getElem h, List.map_append]
  rfl

set_option maxHeartbeats 8000000 in
theorem Constants_any (w : World) :
    Calls Try.prog 63 #[] w fun e w' => ∃ vH vK, e = .returned (.agg #[vH, vK]) ∧ UR w' vH (((sieve 312).take 8).map root2) ∧ UR w' vK ((sieve 312).map root3) ∧ Below w.heap.size w w' := by
  have h64 : (sieve 312).length = 64 := sieve_len
  obtain ⟨P, hP⟩ : ∃ P, sieve 312 = P := ⟨_, rfl⟩
  rw [hP] at h64 ⊢
  have HP := Lib.hid hP
  clear hP
  go_enter Try.func63, Try.ntmps63
  go_upto_region 2 with fail
  refine wp_name (fun W => W.heap[w.heap.size + 1]? = some (.cells #[.slice none 0 0, .slice none 0 0] 87 (0, 0)) ∧ W.heap[w.heap.size]? = some (.cells #[.slice none 0 0, .slice none 0 0] 87 (0, 0)) ∧ Below w.heap.size w W ∧ W.heap.size = w.heap.size + 2) ⟨by have := heap_new (w.alloc (.cells #[.slice none 0 0, .slice none 0 0] 87)) (.cells #[.slice none 0 0, .slice none 0 0] 87); simpa only [World.size_alloc] using this, heap_alloc (heap_new _ _), ((Below.refl _ _).alloc (Nat.le_refl _) _).alloc (by simp) _, by simp⟩ (fun w1 hq => ?_)
  obtain ⟨a1, a2, a3, a4⟩ := hq
  have A1 := Lib.hid a1
  have A2 := Lib.hid a2
  have A3 := Lib.hid a3
  have A4 := Lib.hid a4
  clear a1 a2 a3 a4
  go_upto_region 3 with (go_at_call 79; refine (primes_any _).mono ?_; rw [HP.out]; rintro e w2 ⟨v2, rfl, hO2, hb2⟩)
  obtain ⟨gp, cp, rfl, hgp1, hgp2⟩ := World.ownsRow.form hO2 (by omega)
  have TC0 : Hid (CO w w2.heap.size gp P (.slice none 0 0) (.slice none 0 0) ((P.take (min 0 8)).map root2) ((P.take 0).map root3) w2) := by
    have e4 := A4.out
    refine ⟨heap_below A1.out hb2 (by omega), heap_below A2.out hb2 (by omega), OwnU.nil _ _, OwnU.nil _ _, (fun g h => by cases h), (fun j hj => OwnN.cell hO2 j hj), by omega, hgp2, Nat.le_refl _, A3.out.trans (hb2.mono (by omega))⟩
  rw [h64]
  clear hO2 hgp1 hgp2 hb2 A1 A2 A3 A4 HP
  obtain ⟨Bn, hBn⟩ : ∃ B, w2.heap.size = B := ⟨_, rfl⟩
  rw [hBn] at TC0
  clear hBn
  go_wp2_with fail
  go_loopw [3] (fun i wr => ∃ (k : Nat) (vH vK : Value), k ≤ 64 ∧ Hid (CO w Bn gp P vH vK ((P.take (min k 8)).map root2) ((P.take k).map root3) wr) ∧ i = .int .i64 (k : Int)) (fun i _ => 64 - (intOf i).toNat)
  case atStart => exact ⟨0, _, _, by omega, TC0, rfl⟩
  case round =>
    clear TC0
    obtain ⟨k, vH, vK, hk, TC, rfl⟩ := hrel
    by_cases hlt : k < 64
    · have hk64 : k < P.length := by omega
      have dk : decide (k < 64) = true := decide_eq_true hlt
      have dk2 : decide ((k : Int) < 64) = true := decide_eq_true (by omega)
      obtain ⟨pk, hpk⟩ : ∃ p, P[k] = p := ⟨_, rfl⟩
      have hst := map_take_succ root3 P k hk64
      have hst2 := map_take_succ root2 P k hk64
      rw [hpk] at hst hst2
      have Hpk := Lib.hid hpk
      have Hst := Lib.hid hst
      have HX2 : Hid ((rootL pk 2 : Int) = toU (root2 pk)) := root_toU pk 2
      have HX3 : Hid ((rootL pk 3 : Int) = toU (root3 pk)) := root_toU pk 3
      obtain ⟨X2, hX2⟩ : ∃ x, root2 pk = x := ⟨_, rfl⟩
      obtain ⟨X3, hX3⟩ : ∃ x, root3 pk = x := ⟨_, rfl⟩
      rw [hX2] at HX2 hst2
      rw [hX3] at HX3 Hst
      have d8a : k < 8 → (P.take (min (k + 1) 8)).map root2 = (P.take (min k 8)).map root2 ++ [X2] := fun h => by rw [Nat.min_eq_left (by omega), Nat.min_eq_left (by omega)]; exact hst2
      have d8b : ¬ k < 8 → (P.take (min (k + 1) 8)).map root2 = (P.take (min k 8)).map root2 := fun h => by rw [Nat.min_eq_right (by omega), Nat.min_eq_right (by omega)]
      have hlh : ((P.take (min k 8)).map root2).length ≤ 1000000 := by rw [List.length_map, List.length_take]; omega
      have hlk : ((P.take k).map root3).length ≤ 1000000 := by rw [List.length_map, List.length_take]; omega
      obtain ⟨hs, hhs⟩ : ∃ l, (P.take (min k 8)).map root2 = l := ⟨_, rfl⟩
      obtain ⟨ks, hks⟩ : ∃ l, (P.take k).map root3 = l := ⟨_, rfl⟩
      obtain ⟨hn, hhn⟩ : ∃ l, (P.take (min (k + 1) 8)).map root2 = l := ⟨_, rfl⟩
      rw [hhs, hhn] at d8a d8b
      rw [hhs] at TC hlh
      rw [hks] at TC hlk Hst
      have Hlenh := Lib.hid hlh
      have Hlenk := Lib.hid hlk
      have D8a := Lib.hid d8a
      have D8b := Lib.hid d8b
      have Hhn := Lib.hid hhn
      have kp : (k : Int) < (64 : Int) := by omega
      clear hpk hst hst2 hX2 hX3 d8a d8b hlh hlk hhs hks hhn
      go_upto_if 10 with fail
      go_cut [] (fun wx => Hid (∃ vG, Hid (CO w Bn gp P vG vK hn ks wx)))
      case first =>
        by_cases h8 : k < 8
        · have hst8 : hn = hs ++ [X2] := D8a.out h8
          have e8 : decide (k < 8) = true := decide_eq_true h8
          have e8b : decide ((k : Int) < 8) = true := decide_eq_true (by omega)
          have T3 := Lib.hid TC.out.drew
          have r3 := T3.out.cell0
          go_upto_region 7 with fail
          refine wp_region_held_drew (S := fun W => W.cell? ⟨gp, k, none⟩ = some (.int .u64 (pk : Int))) (by kernel_rfl) (T3.out.pc k hk64 pk Hpk.out) (fun hHeld => ?_)
          refine' wpAnyH_take (i := 0) (oi := { dst := Option.some 11, op := Op.fieldAddr 87 (Operand.tmp 1) 0, type := 0, pos := "ref.go:155", after := #[], guard := Option.none }) rfl (by kernel_rfl) (by kernel_rfl) (by kernel_rfl) (fun _ _ _ h => h) (Or.inl ⟨by rfl, _⟩) (by assumption) _
          rotate_left
          · (intro wS hSw; (try dsimp only at hSw); go_simp; try with_reducible rfl)
          try simp only [Act.put, List.setIfInBounds_toArray, List.set_cons_zero, List.set_cons_succ]
          refine' wpAnyH_take (i := 2) (oi := { dst := Option.some 13, op := Op.move (Operand.tmp 2), type := 105, pos := "ref.go:155", after := #[], guard := Option.none }) rfl (by kernel_rfl) (by kernel_rfl) (by kernel_rfl) (fun _ _ _ h => h) (Or.inl ⟨by rfl, _⟩) (by assumption) _
          rotate_left
          · (intro wS hSw; (try dsimp only at hSw); go_simp; try with_reducible rfl)
          try simp only [Act.put, List.setIfInBounds_toArray, List.set_cons_zero, List.set_cons_succ]
          refine' wpAnyH_take (i := 3) (oi := { dst := Option.some 14, op := Op.move (Operand.tmp 3), type := 3, pos := "ref.go:155", after := #[], guard := Option.none }) rfl (by kernel_rfl) (by kernel_rfl) (by kernel_rfl) (fun _ _ _ h => h) (Or.inl ⟨by rfl, _⟩) (by assumption) _
          rotate_left
          · (intro wS hSw; (try dsimp only at hSw); go_simp; try with_reducible rfl)
          try simp only [Act.put, List.setIfInBounds_toArray, List.set_cons_zero, List.set_cons_succ]
          refine' wpAnyH_take (i := 4) (oi := { dst := Option.some 15, op := Op.indexAddr 105 (Operand.tmp 13) (Operand.tmp 14), type := 0, pos := "ref.go:155", after := #[{ on := 2, ground := Ground.data }, { on := 3, ground := Ground.data }], guard := Option.none }) rfl (by kernel_rfl) (by kernel_rfl) (by kernel_rfl) (fun _ _ _ h => h) (Or.inl ⟨by rfl, _⟩) (by assumption) _
          rotate_left
          · (intro wS hSw; (try dsimp only at hSw); go_simp; try with_reducible rfl)
          try simp only [Act.put, List.setIfInBounds_toArray, List.set_cons_zero, List.set_cons_succ]
          refine' wpAnyH_take (i := 5) (oi := { dst := Option.some 16, op := Op.load 102 (Operand.tmp 15), type := 102, pos := "ref.go:155", after := #[{ on := 4, ground := Ground.data }], guard := Option.none }) rfl (by kernel_rfl) (by kernel_rfl) (by kernel_rfl) (fun _ _ _ h => h) (Or.inl ⟨by rfl, _⟩) (by assumption) _
          rotate_left
          · (intro wS hSw; (try dsimp only at hSw); go_simp; try with_reducible rfl)
          try simp only [Act.put, List.setIfInBounds_toArray, List.set_cons_zero, List.set_cons_succ]
          refine wpAnyH_ready (rs := [1, 6]) (by kernel_rfl) (by simp) ?_
          refine AllReadyH.cons (o := { dst := Option.some 12, op := Op.load 85 (Operand.tmp 11), type := 85, pos := "ref.go:155", after := #[{ on := 0, ground := Ground.data }], guard := Option.none }) rfl (fun K hK => ?_) (AllReadyH.cons (o := { dst := Option.some 17, op := Op.call { callee := Callee.value (Operand.func 80), args := #[Operand.tmp 16, Operand.const (Value.int IntKind.i64 2)], argTypes := #[102, 3] }, type := 25, pos := "ref.go:155", after := #[{ on := 5, ground := Ground.data }], guard := Option.none }) rfl (fun K hK => ?_) AllReadyH.nil)
          · go_simp
            refine hK.out _ _ ?_ (fun hHeld => ?_)
            · exact hHeld
            clear hK K
            try simp only [Act.put, List.setIfInBounds_toArray, List.set_cons_zero, List.set_cons_succ]
            refine wpAnyH_ready (rs := [6]) (by kernel_rfl) (by simp) ?_
            refine AllReadyH.cons (o := { dst := Option.some 17, op := Op.call { callee := Callee.value (Operand.func 80), args := #[Operand.tmp 16, Operand.const (Value.int IntKind.i64 2)], argTypes := #[102, 3] }, type := 25, pos := "ref.go:155", after := #[{ on := 5, ground := Ground.data }], guard := Option.none }) rfl (fun K hK => ?_) AllReadyH.nil
            go_simp
            (go_at_call 80; refine (root_any pk 2 _ (by omega)).mono ?_; rintro e w4 ⟨rfl, hb4⟩; rw [HX2.out]; have T4 := Lib.hid (T3.out.below hb4); have r4 := T4.out.cell0; have z4 := T4.out.big)
            refine hK.out _ _ ?_ (fun hHeld => ?_)
            · exact T4.out.pc k hk64 pk Hpk.out
            clear hK K
            try simp only [Act.put, List.setIfInBounds_toArray, List.set_cons_zero, List.set_cons_succ]
            refine wpAnyH_ready (rs := [7]) (by kernel_rfl) (by simp) ?_
            refine AllReadyH.cons (o := { dst := Option.some 18, op := Op.buildSlice 85 1 #[(0, Operand.tmp 17)], type := 85, pos := "ref.go:155", after := #[{ on := 6, ground := Ground.data }], guard := Option.none }) rfl (fun K hK => ?_) AllReadyH.nil
            go_simp
            refine hK.out _ _ ?_ (fun hHeld => ?_)
            · exact cellA hHeld
            clear hK K
            try simp only [Act.put, List.setIfInBounds_toArray, List.set_cons_zero, List.set_cons_succ]
            have T5 := Lib.hid (T4.out.alloc (.cells #[.int .u32 (toU X2)] 25))
            have r5 := T5.out.cell0
            refine wpAnyH_ready (rs := [8]) (by kernel_rfl) (by simp) ?_
            refine AllReadyH.cons (o := { dst := Option.some 19, op := Op.call { callee := Callee.builtin Builtin.append, args := #[Operand.tmp 12, Operand.tmp 18], argTypes := #[85, 85] }, type := 85, pos := "ref.go:155", after := #[{ on := 1, ground := Ground.data }, { on := 7, ground := Ground.data }, { on := 6, ground := Ground.chain }], guard := Option.none }) rfl (fun K hK => ?_) AllReadyH.nil
            (set_option maxRecDepth 100000 in refine step_of rfl (wp_appUk (w4.alloc (.cells #[.int .u32 (toU X2)] 25)) X2 _ _ rfl Bn vH hs rfl T5.out.h w4.heap.size _ rfl (by rw [heap_cell (heap_alloc_new _ _)]; rfl) Hlenh.out (by have := T5.out.big; omega) ?_); intro v2 w2 hv2 hg2 hk2; obtain ⟨g2, cap2, rfl, _, _⟩ := hv2.form (by simp); simp only [List.length_append, List.length_singleton] at hv2 hk2; have p6 := T5.out.pgh hg2 k hk64 pk Hpk.out; have r6 := T5.out.rgh hg2; have f6 := T5.out.fgh hg2)
            refine hK.out _ _ ?_ (fun hHeld => ?_)
            · exact p6
            clear hK K
            try simp only [Act.put, List.setIfInBounds_toArray, List.set_cons_zero, List.set_cons_succ]
            refine' wpAnyH_take (i := 9) (oi := { dst := Option.some 20, op := Op.fieldAddr 87 (Operand.tmp 1) 0, type := 0, pos := "ref.go:155", after := #[{ on := 0, ground := Ground.phase }, { on := 1, ground := Ground.phase }, { on := 2, ground := Ground.phase }, { on := 3, ground := Ground.phase }, { on := 4, ground := Ground.phase }, { on := 5, ground := Ground.phase }, { on := 6, ground := Ground.phase }, { on := 7, ground := Ground.phase }, { on := 8, ground := Ground.phase }], guard := Option.none }) rfl (by kernel_rfl) (by kernel_rfl) (by kernel_rfl) (fun _ _ _ h => h) (Or.inl ⟨by rfl, _⟩) (by assumption) _
            rotate_left
            · (intro wS hSw; (try dsimp only at hSw); go_simp; try with_reducible rfl)
            try simp only [Act.put, List.setIfInBounds_toArray, List.set_cons_zero, List.set_cons_succ]
            refine wpAnyH_ready (rs := [10]) (by kernel_rfl) (by simp) ?_
            refine AllReadyH.cons (o := { dst := Option.none, op := Op.store 85 (Operand.tmp 20) (Operand.tmp 19), type := 0, pos := "ref.go:155", after := #[{ on := 9, ground := Ground.data }, { on := 8, ground := Ground.data }, { on := 8, ground := Ground.chain }, { on := 0, ground := Ground.phase }, { on := 1, ground := Ground.phase }, { on := 2, ground := Ground.phase }, { on := 3, ground := Ground.phase }, { on := 4, ground := Ground.phase }, { on := 5, ground := Ground.phase }, { on := 6, ground := Ground.phase }, { on := 7, ground := Ground.phase }, { on := 8, ground := Ground.phase }], guard := Option.none }) rfl (fun K hK => ?_) AllReadyH.nil
            have T6 := Lib.hid (T5.out.storeH hv2 hg2 hk2)
            go_simp
            refine hK.out _ _ ?_ (fun hHeld => ?_)
            · exact T6.out.pc k hk64 pk Hpk.out
            clear hK K
            try simp only [Act.put, List.setIfInBounds_toArray, List.set_cons_zero, List.set_cons_succ]
            refine wpAnyH_done (by kernel_rfl) ?_ _
            go_wp2_with fail
            go_meet
            exact Lib.hid ⟨_, by rw [hst8]; exact T6⟩
          · go_simp
            (go_at_call 80; refine (root_any pk 2 _ (by omega)).mono ?_; rintro e w4 ⟨rfl, hb4⟩; rw [HX2.out]; have T4 := Lib.hid (T3.out.below hb4); have r4 := T4.out.cell0; have z4 := T4.out.big)
            refine hK.out _ _ ?_ (fun hHeld => ?_)
            · exact T4.out.pc k hk64 pk Hpk.out
            clear hK K
            try simp only [Act.put, List.setIfInBounds_toArray, List.set_cons_zero, List.set_cons_succ]
            refine wpAnyH_ready (rs := [1, 7]) (by kernel_rfl) (by simp) ?_
            refine AllReadyH.cons (o := { dst := Option.some 12, op := Op.load 85 (Operand.tmp 11), type := 85, pos := "ref.go:155", after := #[{ on := 0, ground := Ground.data }], guard := Option.none }) rfl (fun K hK => ?_) (AllReadyH.cons (o := { dst := Option.some 18, op := Op.buildSlice 85 1 #[(0, Operand.tmp 17)], type := 85, pos := "ref.go:155", after := #[{ on := 6, ground := Ground.data }], guard := Option.none }) rfl (fun K hK => ?_) AllReadyH.nil)
            · go_simp
              refine hK.out _ _ ?_ (fun hHeld => ?_)
              · exact hHeld
              clear hK K
              try simp only [Act.put, List.setIfInBounds_toArray, List.set_cons_zero, List.set_cons_succ]
              refine wpAnyH_ready (rs := [7]) (by kernel_rfl) (by simp) ?_
              refine AllReadyH.cons (o := { dst := Option.some 18, op := Op.buildSlice 85 1 #[(0, Operand.tmp 17)], type := 85, pos := "ref.go:155", after := #[{ on := 6, ground := Ground.data }], guard := Option.none }) rfl (fun K hK => ?_) AllReadyH.nil
              go_simp
              refine hK.out _ _ ?_ (fun hHeld => ?_)
              · exact cellA hHeld
              clear hK K
              try simp only [Act.put, List.setIfInBounds_toArray, List.set_cons_zero, List.set_cons_succ]
              have T5 := Lib.hid (T4.out.alloc (.cells #[.int .u32 (toU X2)] 25))
              have r5 := T5.out.cell0
              refine wpAnyH_ready (rs := [8]) (by kernel_rfl) (by simp) ?_
              refine AllReadyH.cons (o := { dst := Option.some 19, op := Op.call { callee := Callee.builtin Builtin.append, args := #[Operand.tmp 12, Operand.tmp 18], argTypes := #[85, 85] }, type := 85, pos := "ref.go:155", after := #[{ on := 1, ground := Ground.data }, { on := 7, ground := Ground.data }, { on := 6, ground := Ground.chain }], guard := Option.none }) rfl (fun K hK => ?_) AllReadyH.nil
              (set_option maxRecDepth 100000 in refine step_of rfl (wp_appUk (w4.alloc (.cells #[.int .u32 (toU X2)] 25)) X2 _ _ rfl Bn vH hs rfl T5.out.h w4.heap.size _ rfl (by rw [heap_cell (heap_alloc_new _ _)]; rfl) Hlenh.out (by have := T5.out.big; omega) ?_); intro v2 w2 hv2 hg2 hk2; obtain ⟨g2, cap2, rfl, _, _⟩ := hv2.form (by simp); simp only [List.length_append, List.length_singleton] at hv2 hk2; have p6 := T5.out.pgh hg2 k hk64 pk Hpk.out; have r6 := T5.out.rgh hg2; have f6 := T5.out.fgh hg2)
              refine hK.out _ _ ?_ (fun hHeld => ?_)
              · exact p6
              clear hK K
              try simp only [Act.put, List.setIfInBounds_toArray, List.set_cons_zero, List.set_cons_succ]
              refine' wpAnyH_take (i := 9) (oi := { dst := Option.some 20, op := Op.fieldAddr 87 (Operand.tmp 1) 0, type := 0, pos := "ref.go:155", after := #[{ on := 0, ground := Ground.phase }, { on := 1, ground := Ground.phase }, { on := 2, ground := Ground.phase }, { on := 3, ground := Ground.phase }, { on := 4, ground := Ground.phase }, { on := 5, ground := Ground.phase }, { on := 6, ground := Ground.phase }, { on := 7, ground := Ground.phase }, { on := 8, ground := Ground.phase }], guard := Option.none }) rfl (by kernel_rfl) (by kernel_rfl) (by kernel_rfl) (fun _ _ _ h => h) (Or.inl ⟨by rfl, _⟩) (by assumption) _
              rotate_left
              · (intro wS hSw; (try dsimp only at hSw); go_simp; try with_reducible rfl)
              try simp only [Act.put, List.setIfInBounds_toArray, List.set_cons_zero, List.set_cons_succ]
              refine wpAnyH_ready (rs := [10]) (by kernel_rfl) (by simp) ?_
              refine AllReadyH.cons (o := { dst := Option.none, op := Op.store 85 (Operand.tmp 20) (Operand.tmp 19), type := 0, pos := "ref.go:155", after := #[{ on := 9, ground := Ground.data }, { on := 8, ground := Ground.data }, { on := 8, ground := Ground.chain }, { on := 0, ground := Ground.phase }, { on := 1, ground := Ground.phase }, { on := 2, ground := Ground.phase }, { on := 3, ground := Ground.phase }, { on := 4, ground := Ground.phase }, { on := 5, ground := Ground.phase }, { on := 6, ground := Ground.phase }, { on := 7, ground := Ground.phase }, { on := 8, ground := Ground.phase }], guard := Option.none }) rfl (fun K hK => ?_) AllReadyH.nil
              have T6 := Lib.hid (T5.out.storeH hv2 hg2 hk2)
              go_simp
              refine hK.out _ _ ?_ (fun hHeld => ?_)
              · exact T6.out.pc k hk64 pk Hpk.out
              clear hK K
              try simp only [Act.put, List.setIfInBounds_toArray, List.set_cons_zero, List.set_cons_succ]
              refine wpAnyH_done (by kernel_rfl) ?_ _
              go_wp2_with fail
              go_meet
              exact Lib.hid ⟨_, by rw [hst8]; exact T6⟩
            · go_simp
              refine hK.out _ _ ?_ (fun hHeld => ?_)
              · exact cellA hHeld
              clear hK K
              try simp only [Act.put, List.setIfInBounds_toArray, List.set_cons_zero, List.set_cons_succ]
              have T5 := Lib.hid (T4.out.alloc (.cells #[.int .u32 (toU X2)] 25))
              have r5 := T5.out.cell0
              refine wpAnyH_ready (rs := [1]) (by kernel_rfl) (by simp) ?_
              refine AllReadyH.cons (o := { dst := Option.some 12, op := Op.load 85 (Operand.tmp 11), type := 85, pos := "ref.go:155", after := #[{ on := 0, ground := Ground.data }], guard := Option.none }) rfl (fun K hK => ?_) AllReadyH.nil
              go_simp
              refine hK.out _ _ ?_ (fun hHeld => ?_)
              · exact hHeld
              clear hK K
              try simp only [Act.put, List.setIfInBounds_toArray, List.set_cons_zero, List.set_cons_succ]
              refine wpAnyH_ready (rs := [8]) (by kernel_rfl) (by simp) ?_
              refine AllReadyH.cons (o := { dst := Option.some 19, op := Op.call { callee := Callee.builtin Builtin.append, args := #[Operand.tmp 12, Operand.tmp 18], argTypes := #[85, 85] }, type := 85, pos := "ref.go:155", after := #[{ on := 1, ground := Ground.data }, { on := 7, ground := Ground.data }, { on := 6, ground := Ground.chain }], guard := Option.none }) rfl (fun K hK => ?_) AllReadyH.nil
              (set_option maxRecDepth 100000 in refine step_of rfl (wp_appUk (w4.alloc (.cells #[.int .u32 (toU X2)] 25)) X2 _ _ rfl Bn vH hs rfl T5.out.h w4.heap.size _ rfl (by rw [heap_cell (heap_alloc_new _ _)]; rfl) Hlenh.out (by have := T5.out.big; omega) ?_); intro v2 w2 hv2 hg2 hk2; obtain ⟨g2, cap2, rfl, _, _⟩ := hv2.form (by simp); simp only [List.length_append, List.length_singleton] at hv2 hk2; have p6 := T5.out.pgh hg2 k hk64 pk Hpk.out; have r6 := T5.out.rgh hg2; have f6 := T5.out.fgh hg2)
              refine hK.out _ _ ?_ (fun hHeld => ?_)
              · exact p6
              clear hK K
              try simp only [Act.put, List.setIfInBounds_toArray, List.set_cons_zero, List.set_cons_succ]
              refine' wpAnyH_take (i := 9) (oi := { dst := Option.some 20, op := Op.fieldAddr 87 (Operand.tmp 1) 0, type := 0, pos := "ref.go:155", after := #[{ on := 0, ground := Ground.phase }, { on := 1, ground := Ground.phase }, { on := 2, ground := Ground.phase }, { on := 3, ground := Ground.phase }, { on := 4, ground := Ground.phase }, { on := 5, ground := Ground.phase }, { on := 6, ground := Ground.phase }, { on := 7, ground := Ground.phase }, { on := 8, ground := Ground.phase }], guard := Option.none }) rfl (by kernel_rfl) (by kernel_rfl) (by kernel_rfl) (fun _ _ _ h => h) (Or.inl ⟨by rfl, _⟩) (by assumption) _
              rotate_left
              · (intro wS hSw; (try dsimp only at hSw); go_simp; try with_reducible rfl)
              try simp only [Act.put, List.setIfInBounds_toArray, List.set_cons_zero, List.set_cons_succ]
              refine wpAnyH_ready (rs := [10]) (by kernel_rfl) (by simp) ?_
              refine AllReadyH.cons (o := { dst := Option.none, op := Op.store 85 (Operand.tmp 20) (Operand.tmp 19), type := 0, pos := "ref.go:155", after := #[{ on := 9, ground := Ground.data }, { on := 8, ground := Ground.data }, { on := 8, ground := Ground.chain }, { on := 0, ground := Ground.phase }, { on := 1, ground := Ground.phase }, { on := 2, ground := Ground.phase }, { on := 3, ground := Ground.phase }, { on := 4, ground := Ground.phase }, { on := 5, ground := Ground.phase }, { on := 6, ground := Ground.phase }, { on := 7, ground := Ground.phase }, { on := 8, ground := Ground.phase }], guard := Option.none }) rfl (fun K hK => ?_) AllReadyH.nil
              have T6 := Lib.hid (T5.out.storeH hv2 hg2 hk2)
              go_simp
              refine hK.out _ _ ?_ (fun hHeld => ?_)
              · exact T6.out.pc k hk64 pk Hpk.out
              clear hK K
              try simp only [Act.put, List.setIfInBounds_toArray, List.set_cons_zero, List.set_cons_succ]
              refine wpAnyH_done (by kernel_rfl) ?_ _
              go_wp2_with fail
              go_meet
              exact Lib.hid ⟨_, by rw [hst8]; exact T6⟩
        · have hst8 : hn = hs := D8b.out h8
          have e8 : decide (k < 8) = false := decide_eq_false h8
          have e8b : decide ((k : Int) < 8) = false := decide_eq_false (by omega)
          go_wp2_with fail
          go_meet
          exact Lib.hid ⟨vH, by rw [hst8]; exact TC⟩
      case rest =>
      obtain ⟨vG, TG⟩ := hcut.out
      clear TC hcut
      have T3 := Lib.hid TG.out.drew
      have r3 := T3.out.cell1
      go_upto_region 8 with fail
      refine wp_region_held_drew (S := fun W => W.cell? ⟨gp, k, none⟩ = some (.int .u64 (pk : Int))) (by kernel_rfl) (T3.out.pc k hk64 pk Hpk.out) (fun hHeld => ?_)
      refine' wpAnyH_take (i := 0) (oi := { dst := Option.some 21, op := Op.fieldAddr 87 (Operand.tmp 1) 1, type := 0, pos := "ref.go:157", after := #[], guard := Option.none }) rfl (by kernel_rfl) (by kernel_rfl) (by kernel_rfl) (fun _ _ _ h => h) (Or.inl ⟨by rfl, _⟩) (by assumption) _
      rotate_left
      · (intro wS hSw; (try dsimp only at hSw); go_simp; try with_reducible rfl)
      try simp only [Act.put, List.setIfInBounds_toArray, List.set_cons_zero, List.set_cons_succ]
      refine' wpAnyH_take (i := 2) (oi := { dst := Option.some 23, op := Op.move (Operand.tmp 2), type := 105, pos := "ref.go:157", after := #[], guard := Option.none }) rfl (by kernel_rfl) (by kernel_rfl) (by kernel_rfl) (fun _ _ _ h => h) (Or.inl ⟨by rfl, _⟩) (by assumption) _
      rotate_left
      · (intro wS hSw; (try dsimp only at hSw); go_simp; try with_reducible rfl)
      try simp only [Act.put, List.setIfInBounds_toArray, List.set_cons_zero, List.set_cons_succ]
      refine' wpAnyH_take (i := 3) (oi := { dst := Option.some 24, op := Op.move (Operand.tmp 3), type := 3, pos := "ref.go:157", after := #[], guard := Option.none }) rfl (by kernel_rfl) (by kernel_rfl) (by kernel_rfl) (fun _ _ _ h => h) (Or.inl ⟨by rfl, _⟩) (by assumption) _
      rotate_left
      · (intro wS hSw; (try dsimp only at hSw); go_simp; try with_reducible rfl)
      try simp only [Act.put, List.setIfInBounds_toArray, List.set_cons_zero, List.set_cons_succ]
      refine' wpAnyH_take (i := 4) (oi := { dst := Option.some 25, op := Op.indexAddr 105 (Operand.tmp 23) (Operand.tmp 24), type := 0, pos := "ref.go:157", after := #[{ on := 2, ground := Ground.data }, { on := 3, ground := Ground.data }], guard := Option.none }) rfl (by kernel_rfl) (by kernel_rfl) (by kernel_rfl) (fun _ _ _ h => h) (Or.inl ⟨by rfl, _⟩) (by assumption) _
      rotate_left
      · (intro wS hSw; (try dsimp only at hSw); go_simp; try with_reducible rfl)
      try simp only [Act.put, List.setIfInBounds_toArray, List.set_cons_zero, List.set_cons_succ]
      refine' wpAnyH_take (i := 5) (oi := { dst := Option.some 26, op := Op.load 102 (Operand.tmp 25), type := 102, pos := "ref.go:157", after := #[{ on := 4, ground := Ground.data }], guard := Option.none }) rfl (by kernel_rfl) (by kernel_rfl) (by kernel_rfl) (fun _ _ _ h => h) (Or.inl ⟨by rfl, _⟩) (by assumption) _
      rotate_left
      · (intro wS hSw; (try dsimp only at hSw); go_simp; try with_reducible rfl)
      try simp only [Act.put, List.setIfInBounds_toArray, List.set_cons_zero, List.set_cons_succ]
      refine wpAnyH_ready (rs := [1, 6]) (by kernel_rfl) (by simp) ?_
      refine AllReadyH.cons (o := { dst := Option.some 22, op := Op.load 85 (Operand.tmp 21), type := 85, pos := "ref.go:157", after := #[{ on := 0, ground := Ground.data }], guard := Option.none }) rfl (fun K hK => ?_) (AllReadyH.cons (o := { dst := Option.some 27, op := Op.call { callee := Callee.value (Operand.func 80), args := #[Operand.tmp 26, Operand.const (Value.int IntKind.i64 3)], argTypes := #[102, 3] }, type := 25, pos := "ref.go:157", after := #[{ on := 5, ground := Ground.data }], guard := Option.none }) rfl (fun K hK => ?_) AllReadyH.nil)
      · go_simp
        refine hK.out _ _ ?_ (fun hHeld => ?_)
        · exact hHeld
        clear hK K
        try simp only [Act.put, List.setIfInBounds_toArray, List.set_cons_zero, List.set_cons_succ]
        refine wpAnyH_ready (rs := [6]) (by kernel_rfl) (by simp) ?_
        refine AllReadyH.cons (o := { dst := Option.some 27, op := Op.call { callee := Callee.value (Operand.func 80), args := #[Operand.tmp 26, Operand.const (Value.int IntKind.i64 3)], argTypes := #[102, 3] }, type := 25, pos := "ref.go:157", after := #[{ on := 5, ground := Ground.data }], guard := Option.none }) rfl (fun K hK => ?_) AllReadyH.nil
        go_simp
        (go_at_call 80; refine (root_any pk 3 _ (by omega)).mono ?_; rintro e w4 ⟨rfl, hb4⟩; rw [HX3.out]; have T4 := Lib.hid (T3.out.below hb4); have r4 := T4.out.cell1; have z4 := T4.out.big)
        refine hK.out _ _ ?_ (fun hHeld => ?_)
        · exact T4.out.pc k hk64 pk Hpk.out
        clear hK K
        try simp only [Act.put, List.setIfInBounds_toArray, List.set_cons_zero, List.set_cons_succ]
        refine wpAnyH_ready (rs := [7]) (by kernel_rfl) (by simp) ?_
        refine AllReadyH.cons (o := { dst := Option.some 28, op := Op.buildSlice 85 1 #[(0, Operand.tmp 27)], type := 85, pos := "ref.go:157", after := #[{ on := 6, ground := Ground.data }], guard := Option.none }) rfl (fun K hK => ?_) AllReadyH.nil
        go_simp
        refine hK.out _ _ ?_ (fun hHeld => ?_)
        · exact cellA hHeld
        clear hK K
        try simp only [Act.put, List.setIfInBounds_toArray, List.set_cons_zero, List.set_cons_succ]
        have T5 := Lib.hid (T4.out.alloc (.cells #[.int .u32 (toU X3)] 25))
        have r5 := T5.out.cell1
        refine wpAnyH_ready (rs := [8]) (by kernel_rfl) (by simp) ?_
        refine AllReadyH.cons (o := { dst := Option.some 29, op := Op.call { callee := Callee.builtin Builtin.append, args := #[Operand.tmp 22, Operand.tmp 28], argTypes := #[85, 85] }, type := 85, pos := "ref.go:157", after := #[{ on := 1, ground := Ground.data }, { on := 7, ground := Ground.data }, { on := 6, ground := Ground.chain }], guard := Option.none }) rfl (fun K hK => ?_) AllReadyH.nil
        (set_option maxRecDepth 100000 in refine step_of rfl (wp_appUk (w4.alloc (.cells #[.int .u32 (toU X3)] 25)) X3 _ _ rfl Bn vK ks rfl T5.out.k w4.heap.size _ rfl (by rw [heap_cell (heap_alloc_new _ _)]; rfl) Hlenk.out (by have := T5.out.big; omega) ?_); intro v2 w2 hv2 hg2 hk2; obtain ⟨g2, cap2, rfl, _, _⟩ := hv2.form (by simp); simp only [List.length_append, List.length_singleton] at hv2 hk2; have p6 := T5.out.pgk hg2 k hk64 pk Hpk.out; have r6 := T5.out.rgk hg2; have f6 := T5.out.fgk hg2)
        refine hK.out _ _ ?_ (fun hHeld => ?_)
        · exact p6
        clear hK K
        try simp only [Act.put, List.setIfInBounds_toArray, List.set_cons_zero, List.set_cons_succ]
        refine' wpAnyH_take (i := 9) (oi := { dst := Option.some 30, op := Op.fieldAddr 87 (Operand.tmp 1) 1, type := 0, pos := "ref.go:157", after := #[{ on := 0, ground := Ground.phase }, { on := 1, ground := Ground.phase }, { on := 2, ground := Ground.phase }, { on := 3, ground := Ground.phase }, { on := 4, ground := Ground.phase }, { on := 5, ground := Ground.phase }, { on := 6, ground := Ground.phase }, { on := 7, ground := Ground.phase }, { on := 8, ground := Ground.phase }], guard := Option.none }) rfl (by kernel_rfl) (by kernel_rfl) (by kernel_rfl) (fun _ _ _ h => h) (Or.inl ⟨by rfl, _⟩) (by assumption) _
        rotate_left
        · (intro wS hSw; (try dsimp only at hSw); go_simp; try with_reducible rfl)
        try simp only [Act.put, List.setIfInBounds_toArray, List.set_cons_zero, List.set_cons_succ]
        refine wpAnyH_ready (rs := [10]) (by kernel_rfl) (by simp) ?_
        refine AllReadyH.cons (o := { dst := Option.none, op := Op.store 85 (Operand.tmp 30) (Operand.tmp 29), type := 0, pos := "ref.go:157", after := #[{ on := 9, ground := Ground.data }, { on := 8, ground := Ground.data }, { on := 8, ground := Ground.chain }, { on := 0, ground := Ground.phase }, { on := 1, ground := Ground.phase }, { on := 2, ground := Ground.phase }, { on := 3, ground := Ground.phase }, { on := 4, ground := Ground.phase }, { on := 5, ground := Ground.phase }, { on := 6, ground := Ground.phase }, { on := 7, ground := Ground.phase }, { on := 8, ground := Ground.phase }], guard := Option.none }) rfl (fun K hK => ?_) AllReadyH.nil
        have T6 := Lib.hid (T5.out.storeK hv2 hg2 hk2)
        go_simp
        refine hK.out _ _ ?_ (fun hHeld => ?_)
        · exact T6.out.pc k hk64 pk Hpk.out
        clear hK K
        try simp only [Act.put, List.setIfInBounds_toArray, List.set_cons_zero, List.set_cons_succ]
        refine wpAnyH_done (by kernel_rfl) ?_ _
        go_wp2_with fail
        exact ⟨⟨k + 1, vG, _, by omega, by show CO _ _ _ _ _ _ _ _ _; rw [Hst.out, Hhn.out]; exact T6.out, by go_num⟩, by simp [intOf]; omega⟩
      · go_simp
        (go_at_call 80; refine (root_any pk 3 _ (by omega)).mono ?_; rintro e w4 ⟨rfl, hb4⟩; rw [HX3.out]; have T4 := Lib.hid (T3.out.below hb4); have r4 := T4.out.cell1; have z4 := T4.out.big)
        refine hK.out _ _ ?_ (fun hHeld => ?_)
        · exact T4.out.pc k hk64 pk Hpk.out
        clear hK K
        try simp only [Act.put, List.setIfInBounds_toArray, List.set_cons_zero, List.set_cons_succ]
        refine wpAnyH_ready (rs := [1, 7]) (by kernel_rfl) (by simp) ?_
        refine AllReadyH.cons (o := { dst := Option.some 22, op := Op.load 85 (Operand.tmp 21), type := 85, pos := "ref.go:157", after := #[{ on := 0, ground := Ground.data }], guard := Option.none }) rfl (fun K hK => ?_) (AllReadyH.cons (o := { dst := Option.some 28, op := Op.buildSlice 85 1 #[(0, Operand.tmp 27)], type := 85, pos := "ref.go:157", after := #[{ on := 6, ground := Ground.data }], guard := Option.none }) rfl (fun K hK => ?_) AllReadyH.nil)
        · go_simp
          refine hK.out _ _ ?_ (fun hHeld => ?_)
          · exact hHeld
          clear hK K
          try simp only [Act.put, List.setIfInBounds_toArray, List.set_cons_zero, List.set_cons_succ]
          refine wpAnyH_ready (rs := [7]) (by kernel_rfl) (by simp) ?_
          refine AllReadyH.cons (o := { dst := Option.some 28, op := Op.buildSlice 85 1 #[(0, Operand.tmp 27)], type := 85, pos := "ref.go:157", after := #[{ on := 6, ground := Ground.data }], guard := Option.none }) rfl (fun K hK => ?_) AllReadyH.nil
          go_simp
          refine hK.out _ _ ?_ (fun hHeld => ?_)
          · exact cellA hHeld
          clear hK K
          try simp only [Act.put, List.setIfInBounds_toArray, List.set_cons_zero, List.set_cons_succ]
          have T5 := Lib.hid (T4.out.alloc (.cells #[.int .u32 (toU X3)] 25))
          have r5 := T5.out.cell1
          refine wpAnyH_ready (rs := [8]) (by kernel_rfl) (by simp) ?_
          refine AllReadyH.cons (o := { dst := Option.some 29, op := Op.call { callee := Callee.builtin Builtin.append, args := #[Operand.tmp 22, Operand.tmp 28], argTypes := #[85, 85] }, type := 85, pos := "ref.go:157", after := #[{ on := 1, ground := Ground.data }, { on := 7, ground := Ground.data }, { on := 6, ground := Ground.chain }], guard := Option.none }) rfl (fun K hK => ?_) AllReadyH.nil
          (set_option maxRecDepth 100000 in refine step_of rfl (wp_appUk (w4.alloc (.cells #[.int .u32 (toU X3)] 25)) X3 _ _ rfl Bn vK ks rfl T5.out.k w4.heap.size _ rfl (by rw [heap_cell (heap_alloc_new _ _)]; rfl) Hlenk.out (by have := T5.out.big; omega) ?_); intro v2 w2 hv2 hg2 hk2; obtain ⟨g2, cap2, rfl, _, _⟩ := hv2.form (by simp); simp only [List.length_append, List.length_singleton] at hv2 hk2; have p6 := T5.out.pgk hg2 k hk64 pk Hpk.out; have r6 := T5.out.rgk hg2; have f6 := T5.out.fgk hg2)
          refine hK.out _ _ ?_ (fun hHeld => ?_)
          · exact p6
          clear hK K
          try simp only [Act.put, List.setIfInBounds_toArray, List.set_cons_zero, List.set_cons_succ]
          refine' wpAnyH_take (i := 9) (oi := { dst := Option.some 30, op := Op.fieldAddr 87 (Operand.tmp 1) 1, type := 0, pos := "ref.go:157", after := #[{ on := 0, ground := Ground.phase }, { on := 1, ground := Ground.phase }, { on := 2, ground := Ground.phase }, { on := 3, ground := Ground.phase }, { on := 4, ground := Ground.phase }, { on := 5, ground := Ground.phase }, { on := 6, ground := Ground.phase }, { on := 7, ground := Ground.phase }, { on := 8, ground := Ground.phase }], guard := Option.none }) rfl (by kernel_rfl) (by kernel_rfl) (by kernel_rfl) (fun _ _ _ h => h) (Or.inl ⟨by rfl, _⟩) (by assumption) _
          rotate_left
          · (intro wS hSw; (try dsimp only at hSw); go_simp; try with_reducible rfl)
          try simp only [Act.put, List.setIfInBounds_toArray, List.set_cons_zero, List.set_cons_succ]
          refine wpAnyH_ready (rs := [10]) (by kernel_rfl) (by simp) ?_
          refine AllReadyH.cons (o := { dst := Option.none, op := Op.store 85 (Operand.tmp 30) (Operand.tmp 29), type := 0, pos := "ref.go:157", after := #[{ on := 9, ground := Ground.data }, { on := 8, ground := Ground.data }, { on := 8, ground := Ground.chain }, { on := 0, ground := Ground.phase }, { on := 1, ground := Ground.phase }, { on := 2, ground := Ground.phase }, { on := 3, ground := Ground.phase }, { on := 4, ground := Ground.phase }, { on := 5, ground := Ground.phase }, { on := 6, ground := Ground.phase }, { on := 7, ground := Ground.phase }, { on := 8, ground := Ground.phase }], guard := Option.none }) rfl (fun K hK => ?_) AllReadyH.nil
          have T6 := Lib.hid (T5.out.storeK hv2 hg2 hk2)
          go_simp
          refine hK.out _ _ ?_ (fun hHeld => ?_)
          · exact T6.out.pc k hk64 pk Hpk.out
          clear hK K
          try simp only [Act.put, List.setIfInBounds_toArray, List.set_cons_zero, List.set_cons_succ]
          refine wpAnyH_done (by kernel_rfl) ?_ _
          go_wp2_with fail
          exact ⟨⟨k + 1, vG, _, by omega, by show CO _ _ _ _ _ _ _ _ _; rw [Hst.out, Hhn.out]; exact T6.out, by go_num⟩, by simp [intOf]; omega⟩
        · go_simp
          refine hK.out _ _ ?_ (fun hHeld => ?_)
          · exact cellA hHeld
          clear hK K
          try simp only [Act.put, List.setIfInBounds_toArray, List.set_cons_zero, List.set_cons_succ]
          have T5 := Lib.hid (T4.out.alloc (.cells #[.int .u32 (toU X3)] 25))
          have r5 := T5.out.cell1
          refine wpAnyH_ready (rs := [1]) (by kernel_rfl) (by simp) ?_
          refine AllReadyH.cons (o := { dst := Option.some 22, op := Op.load 85 (Operand.tmp 21), type := 85, pos := "ref.go:157", after := #[{ on := 0, ground := Ground.data }], guard := Option.none }) rfl (fun K hK => ?_) AllReadyH.nil
          go_simp
          refine hK.out _ _ ?_ (fun hHeld => ?_)
          · exact hHeld
          clear hK K
          try simp only [Act.put, List.setIfInBounds_toArray, List.set_cons_zero, List.set_cons_succ]
          refine wpAnyH_ready (rs := [8]) (by kernel_rfl) (by simp) ?_
          refine AllReadyH.cons (o := { dst := Option.some 29, op := Op.call { callee := Callee.builtin Builtin.append, args := #[Operand.tmp 22, Operand.tmp 28], argTypes := #[85, 85] }, type := 85, pos := "ref.go:157", after := #[{ on := 1, ground := Ground.data }, { on := 7, ground := Ground.data }, { on := 6, ground := Ground.chain }], guard := Option.none }) rfl (fun K hK => ?_) AllReadyH.nil
          (set_option maxRecDepth 100000 in refine step_of rfl (wp_appUk (w4.alloc (.cells #[.int .u32 (toU X3)] 25)) X3 _ _ rfl Bn vK ks rfl T5.out.k w4.heap.size _ rfl (by rw [heap_cell (heap_alloc_new _ _)]; rfl) Hlenk.out (by have := T5.out.big; omega) ?_); intro v2 w2 hv2 hg2 hk2; obtain ⟨g2, cap2, rfl, _, _⟩ := hv2.form (by simp); simp only [List.length_append, List.length_singleton] at hv2 hk2; have p6 := T5.out.pgk hg2 k hk64 pk Hpk.out; have r6 := T5.out.rgk hg2; have f6 := T5.out.fgk hg2)
          refine hK.out _ _ ?_ (fun hHeld => ?_)
          · exact p6
          clear hK K
          try simp only [Act.put, List.setIfInBounds_toArray, List.set_cons_zero, List.set_cons_succ]
          refine' wpAnyH_take (i := 9) (oi := { dst := Option.some 30, op := Op.fieldAddr 87 (Operand.tmp 1) 1, type := 0, pos := "ref.go:157", after := #[{ on := 0, ground := Ground.phase }, { on := 1, ground := Ground.phase }, { on := 2, ground := Ground.phase }, { on := 3, ground := Ground.phase }, { on := 4, ground := Ground.phase }, { on := 5, ground := Ground.phase }, { on := 6, ground := Ground.phase }, { on := 7, ground := Ground.phase }, { on := 8, ground := Ground.phase }], guard := Option.none }) rfl (by kernel_rfl) (by kernel_rfl) (by kernel_rfl) (fun _ _ _ h => h) (Or.inl ⟨by rfl, _⟩) (by assumption) _
          rotate_left
          · (intro wS hSw; (try dsimp only at hSw); go_simp; try with_reducible rfl)
          try simp only [Act.put, List.setIfInBounds_toArray, List.set_cons_zero, List.set_cons_succ]
          refine wpAnyH_ready (rs := [10]) (by kernel_rfl) (by simp) ?_
          refine AllReadyH.cons (o := { dst := Option.none, op := Op.store 85 (Operand.tmp 30) (Operand.tmp 29), type := 0, pos := "ref.go:157", after := #[{ on := 9, ground := Ground.data }, { on := 8, ground := Ground.data }, { on := 8, ground := Ground.chain }, { on := 0, ground := Ground.phase }, { on := 1, ground := Ground.phase }, { on := 2, ground := Ground.phase }, { on := 3, ground := Ground.phase }, { on := 4, ground := Ground.phase }, { on := 5, ground := Ground.phase }, { on := 6, ground := Ground.phase }, { on := 7, ground := Ground.phase }, { on := 8, ground := Ground.phase }], guard := Option.none }) rfl (fun K hK => ?_) AllReadyH.nil
          have T6 := Lib.hid (T5.out.storeK hv2 hg2 hk2)
          go_simp
          refine hK.out _ _ ?_ (fun hHeld => ?_)
          · exact T6.out.pc k hk64 pk Hpk.out
          clear hK K
          try simp only [Act.put, List.setIfInBounds_toArray, List.set_cons_zero, List.set_cons_succ]
          refine wpAnyH_done (by kernel_rfl) ?_ _
          go_wp2_with fail
          exact ⟨⟨k + 1, vG, _, by omega, by show CO _ _ _ _ _ _ _ _ _; rw [Hst.out, Hhn.out]; exact T6.out, by go_num⟩, by simp [intOf]; omega⟩
    · obtain rfl : k = 64 := by omega
      have dk : decide (64 < 64) = false := rfl
      have hlo := TC.out.lo
      have hhi := TC.out.hi
      obtain ⟨gH, cH, hvH, _, _⟩ := TC.out.h.form (by rw [List.length_map, List.length_take]; omega)
      obtain ⟨gK, cK, hvK, _, _⟩ := TC.out.k.form (by rw [List.length_map, List.length_take]; omega)
      obtain ⟨nH, hnH⟩ : ∃ n, ((P.take (min 64 8)).map root2).length = n := ⟨_, rfl⟩
      obtain ⟨nK, hnK⟩ : ∃ n, ((P.take 64).map root3).length = n := ⟨_, rfl⟩
      rw [hnH] at hvH
      rw [hnK] at hvK
      subst hvH hvK
      have r0 := TC.out.cell0
      have r1 := TC.out.cell1
      have z0 : wr.cell? ⟨w.heap.size, 0, none⟩ = some (.slice none 0 0) := by rw [heap_cell TC.out.z]; rfl
      have z1 : wr.cell? ⟨w.heap.size, 1, none⟩ = some (.slice none 0 0) := by rw [heap_cell TC.out.z]; rfl
      have y0 : wr.frozen? ⟨w.heap.size, 0, none⟩ = false := heap_free TC.out.z _
      have y1 : wr.frozen? ⟨w.heap.size, 1, none⟩ = false := heap_free TC.out.z _
      have hz := TC.out.bel.size
      clear hnH hnK
      go_wp2_with fail
      have hb : Below (w.heap.size + 0) wr ((wr.setCell ⟨w.heap.size, 0, none⟩ (.slice (some ⟨gH, 0, none⟩) nH cH)).setCell ⟨w.heap.size, 1, none⟩ (.slice (some ⟨gK, 0, none⟩) nK cK)) := ((Below.refl _ _).setCell (by exact Nat.le_refl _) _).setCell (by exact Nat.le_refl _) _
      have dz : ((wr.setCell ⟨w.heap.size, 0, none⟩ (.slice (some ⟨gH, 0, none⟩) nH cH)).setCell ⟨w.heap.size, 1, none⟩ (.slice (some ⟨gK, 0, none⟩) nK cK)).heap[w.heap.size]? = some (.cells #[.slice (some ⟨gH, 0, none⟩) nH cH, .slice (some ⟨gK, 0, none⟩) nK cK] 87 (0, 0)) := by
        rw [heap_set (heap_set TC.out.z _) _]; rfl
      have d0 : ((wr.setCell ⟨w.heap.size, 0, none⟩ (.slice (some ⟨gH, 0, none⟩) nH cH)).setCell ⟨w.heap.size, 1, none⟩ (.slice (some ⟨gK, 0, none⟩) nK cK)).cell? ⟨w.heap.size, 0, none⟩ = some (.slice (some ⟨gH, 0, none⟩) nH cH) := by rw [heap_cell dz]; rfl
      have d1 : ((wr.setCell ⟨w.heap.size, 0, none⟩ (.slice (some ⟨gH, 0, none⟩) nH cH)).setCell ⟨w.heap.size, 1, none⟩ (.slice (some ⟨gK, 0, none⟩) nK cK)).cell? ⟨w.heap.size, 1, none⟩ = some (.slice (some ⟨gK, 0, none⟩) nK cK) := by rw [heap_cell dz]; rfl
      refine bodyPost_ret (v := .agg #[.slice (some ⟨gH, 0, none⟩) nH cH, .slice (some ⟨gK, 0, none⟩) nK cK]) (by simp [results, Try.results63, go_sem, d0, d1]) rfl ⟨_, _, rfl, ?_, ?_, (TC.out.bel.setCell (by exact Nat.le_refl _) _).setCell (by exact Nat.le_refl _) _⟩
      · exact ((TC.out.h.setOther (by show w.heap.size < Bn; omega) _).setOther (by show w.heap.size < Bn; omega) _).ur (by rw [List.length_map, List.length_take]; omega)
      · have u2 := ((TC.out.k.setOther (a := ⟨w.heap.size, 0, none⟩) (by show w.heap.size < Bn; omega) (.slice (some ⟨gH, 0, none⟩) nH cH)).setOther (a := ⟨w.heap.size, 1, none⟩) (by show w.heap.size < Bn; omega) (.slice (some ⟨gK, 0, none⟩) nK cK)).ur (by rw [List.length_map, List.length_take]; omega)
        rw [List.take_of_length_le (by omega)] at u2
        exact u2
end Go.Proofs.Ytmjikebbknjahaa
