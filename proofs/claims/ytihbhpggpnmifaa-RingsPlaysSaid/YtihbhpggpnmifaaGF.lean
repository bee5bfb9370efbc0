/-
 SHA-256 by the reference: the walk of block.
-/
import Derived.Test.YtihbhpggpnmifaaGE
set_option linter.unusedSimpArgs false
set_option linter.unusedVariables false
namespace Go.Proofs.Ytihbhpggpnmifaa
open Go.RowKit Go.Lib Hw
def UR (w : World) (v : Value) (xs : List (BitVec 32)) : Prop :=
 ∃ g cap, v = .slice (some ⟨g, 0, none⟩) xs.length cap ∧ g < w.heap.size ∧ ∀ j (h : j < xs.length), w.cell? ⟨g, j, none⟩ = some (.int .u32 (toU xs[j]))
theorem UR.at {w : World} {g n cap : Nat} {xs : List (BitVec 32)} (h : UR w (.slice (some ⟨g, 0, none⟩) n cap) xs) (j : Nat) (X : BitVec 32) (hX : X = xs.getD j 0) (hj : j < xs.length) : w.cell? ⟨g, j, none⟩ = some (.int .u32 (toU X)) := by
 obtain ⟨g', cap', e, _, hc⟩ := h
 cases e
 rw [hc j hj, hX]
 simp [List.getD, hj]
theorem UR.of {w : World} {B : Nat} {v : Value} {xs : List (BitVec 32)} (h : OwnU w B v xs) (hn : 0 < xs.length) : UR w v xs := by
 obtain ⟨g, cap, rfl, _, hg⟩ := h.form hn
 exact ⟨g, cap, rfl, hg, fun j hj => h.cell j _ (by simp [List.getD, hj]) hj⟩
theorem UR.below {w w' : World} {v : Value} {xs : List (BitVec 32)} (h : UR w v xs) (hb : Below w.heap.size w w') : UR w' v xs := by
 obtain ⟨g, cap, rfl, hg, hc⟩ := h
 exact ⟨g, cap, rfl, Nat.lt_of_lt_of_le hg hb.size, fun j hj => cellB hb hg (hc j hj)⟩
def BR (w : World) (v : Value) (l : List UInt8) : Prop :=
 ∃ g off cap, v = .slice (some ⟨g, off, none⟩) l.length cap ∧ g < w.heap.size ∧ ∀ j (h : j < l.length), w.cell? ⟨g, off + j, none⟩ = some (.int .u8 ((l[j]'h).toNat : Int))
structure RR (w3 W : World) (g12 gk g7 n : Nat) (x : S8) (KN WN : BitVec 32) : Prop where
 c0 : W.cell? ⟨g12, 0, none⟩ = some (.int .u32 (toU x.a))
 c1 : W.cell? ⟨g12, 1, none⟩ = some (.int .u32 (toU x.b))
 c2 : W.cell? ⟨g12, 2, none⟩ = some (.int .u32 (toU x.c))
 c3 : W.cell? ⟨g12, 3, none⟩ = some (.int .u32 (toU x.d))
 c4 : W.cell? ⟨g12, 4, none⟩ = some (.int .u32 (toU x.e))
 c5 : W.cell? ⟨g12, 5, none⟩ = some (.int .u32 (toU x.f))
 c6 : W.cell? ⟨g12, 6, none⟩ = some (.int .u32 (toU x.g))
 c7 : W.cell? ⟨g12, 7, none⟩ = some (.int .u32 (toU x.h))
 ck : W.cell? ⟨gk, n, none⟩ = some (.int .u32 (toU KN))
 cw : W.cell? ⟨g7, n, none⟩ = some (.int .u32 (toU WN))
 bel : Below w3.heap.size w3 W
theorem RR.drewN {w3 W : World} {g12 gk g7 n q : Nat} {x : S8} {KN WN : BitVec 32} (h : RR w3 W g12 gk g7 n x KN WN) : RR w3 (W.drewN q) g12 gk g7 n x KN WN :=
 ⟨h.c0, h.c1, h.c2, h.c3, h.c4, h.c5, h.c6, h.c7, h.ck, h.cw, ⟨h.bel.os, h.bel.tape, h.bel.output, h.bel.size, h.bel.block⟩⟩
theorem UR.eight {W : World} {g cap : Nat} {x : S8} (h : UR W (.slice (some ⟨g, 0, none⟩) 8 cap) x.list) :
  W.cell? ⟨g, 0, none⟩ = some (.int .u32 (toU x.a)) ∧ W.cell? ⟨g, 1, none⟩ = some (.int .u32 (toU x.b)) ∧ W.cell? ⟨g, 2, none⟩ = some (.int .u32 (toU x.c)) ∧ W.cell? ⟨g, 3, none⟩ = some (.int .u32 (toU x.d)) ∧
  W.cell? ⟨g, 4, none⟩ = some (.int .u32 (toU x.e)) ∧ W.cell? ⟨g, 5, none⟩ = some (.int .u32 (toU x.f)) ∧ W.cell? ⟨g, 6, none⟩ = some (.int .u32 (toU x.g)) ∧ W.cell? ⟨g, 7, none⟩ = some (.int .u32 (toU x.h)) := by
 obtain ⟨g', cap', e, _, hc⟩ := h
 cases e
 have hl := S8.list_length x
 exact ⟨hc 0 (by omega), hc 1 (by omega), hc 2 (by omega), hc 3 (by omega), hc 4 (by omega), hc 5 (by omega), hc 6 (by omega), hc 7 (by omega)⟩
theorem UR.new (W : World) (x : S8) (t : TypeId) (N : Nat) (hN : W.heap.size = N) : UR (W.alloc (.cells #[.int .u32 (toU x.a), .int .u32 (toU x.b), .int .u32 (toU x.c), .int .u32 (toU x.d), .int .u32 (toU x.e), .int .u32 (toU x.f), .int .u32 (toU x.g), .int .u32 (toU x.h)] t)) (.slice (some ⟨N, 0, none⟩) 8 8) x.list := by
 subst hN
 refine ⟨W.heap.size, 8, rfl, by simp, fun j hj => ?_⟩
 rw [heap_cell (heap_alloc_new W _)]
 match j, hj with
 | 0, _ => rfl
 | 1, _ => rfl
 | 2, _ => rfl
 | 3, _ => rfl
 | 4, _ => rfl
 | 5, _ => rfl
 | 6, _ => rfl
 | 7, _ => rfl
theorem chB (e f g : BitVec 32) : bits .xor .u32 (toU (e &&& f)) (bits .and .u32 (bits .xor .u32 (if IntKind.u32.signed = true then -1 else IntKind.u32.max) (toU e)) (toU g)) = toU (chF e f g) := by
 rw [if_neg (by decide), notU, bits_and32, bits_xor32]; rfl
theorem below_drewN {B n : Nat} {a w : World} (h : Below B a w) : Below B a (w.drewN n) := ⟨h.os, h.tape, h.output, h.size, h.block⟩
set_option maxHeartbeats 8000000 in
theorem refBlock_any (hv kv bvv : Value) (v : S8) (bs : List UInt8) (w : World) (hh : UR w hv v.list) (hk : UR w kv shaKB) (hb : BR w bvv bs) (hl : bs.length = 64) :
  Calls Try.prog 90 #[hv, kv, bvv] w fun e w' => ∃ r, e = .returned r ∧ OwnU w' w.heap.size r (shaBlock v bs).list ∧ Below w.heap.size w w' := by
 obtain ⟨gb, ob, cb, rfl, hgb, hbc⟩ := hb
 obtain ⟨gh, ch, rfl, hgh, hhc⟩ := hh
 obtain ⟨gk, ck, rfl, hgk, hkc⟩ := hk
 have HH : Hid (UR w (.slice (some ⟨gh, 0, none⟩) v.list.length ch) v.list) := ⟨gh, ch, rfl, hgh, hhc⟩
 have HK : Hid (UR w (.slice (some ⟨gk, 0, none⟩) shaKB.length ck) shaKB) := ⟨gk, ck, rfl, hgk, hkc⟩
 have HBc := Lib.hid hbc
 have HL := Lib.hid hl
 clear hhc hkc hbc
 rw [hl]
 rw [show v.list.length = 8 from rfl, show shaKB.length = 64 from rfl] at *
 clear hl
 set_option maxRecDepth 100000 in
 go_enter Try.func90, Try.ntmps90
 go_wp2_with fail
 go_loopw [7, 8] (fun t i wr => ∃ (k : Nat), k ≤ 16 ∧ Hid (OwnU wr w.heap.size t (words k bs)) ∧ Hid (Below w.heap.size w wr) ∧ i = .int .i64 (k : Int)) (fun _ i _ => 16 - (intOf i).toNat)
 case atStart => exact ⟨0, by omega, OwnU.nil _ _, Below.refl _ _, rfl⟩
 case round =>
  obtain ⟨k, hk, HO, HB, rfl⟩ := hrel
  by_cases hlt : k < 16
  ·have byte : ∀ j, (hj : j < 4) → ∃ X : BitVec 32, X = ext8 (bs.getD (4 * k + j) 0) ∧ wr.cell? ⟨gb, ob + (4 * k + j), none⟩ = some (.int .u8 (toU X)) := by
    intro j hj
    have hl : 4 * k + j < bs.length := by rw [HL.out]; omega
    refine ⟨_, rfl, ?_⟩
    rw [cellB HB.out hgb (HBc.out (4 * k + j) hl), ← toU_ext8]
    simp [List.getD, hl]
   obtain ⟨X0, hX0, c0⟩ := byte 0 (by omega)
   obtain ⟨X1, hX1, c1⟩ := byte 1 (by omega)
   obtain ⟨X2, hX2, c2⟩ := byte 2 (by omega)
   obtain ⟨X3, hX3, c3⟩ := byte 3 (by omega)
   rw [Nat.add_zero] at hX0 c0
   have HX := Lib.hid (And.intro hX0 (And.intro hX1 (And.intro hX2 hX3)))
   clear byte hX0 hX1 hX2 hX3
   have hz := HB.out.size
   have hwl : (words k bs).length ≤ 1000000 := by rw [words_length]; omega
   have u0 := wrapU X0
   have u1 := wrapU X1
   have u2 := wrapU X2
   have u3 := wrapU X3
   have s0 := wrap24 X0
   have s1 := wrap16 X1
   have s2 := wrap8 X2
   have o1 := bits_or32 (X0 <<< 24) (X1 <<< 16)
   have o2 := bits_or32 (X0 <<< 24 ||| X1 <<< 16) (X2 <<< 8)
   have o3 := bits_or32 (X0 <<< 24 ||| X1 <<< 16 ||| X2 <<< 8) X3
   obtain ⟨Y, hY⟩ : ∃ Y, X0 <<< 24 ||| X1 <<< 16 ||| X2 <<< 8 ||| X3 = Y := ⟨_, rfl⟩
   rw [hY] at o3
   have HY := Lib.hid hY
   clear hY
   have a0 : IntKind.i64.wrap (4 * (k : Int)) = 4 * (k : Int) := IntWalk.i64_in _ (by omega)
   have a1 : IntKind.i64.wrap (4 * (k : Int) + 1) = 4 * (k : Int) + 1 := IntWalk.i64_in _ (by omega)
   have a2 : IntKind.i64.wrap (4 * (k : Int) + 2) = 4 * (k : Int) + 2 := IntWalk.i64_in _ (by omega)
   have a3 : IntKind.i64.wrap (4 * (k : Int) + 3) = 4 * (k : Int) + 3 := IntWalk.i64_in _ (by omega)
   have n0 : (4 * (k : Int)).toNat = 4 * k := by omega
   have n1 : (4 * (k : Int) + 1).toNat = 4 * k + 1 := by omega
   have n2 : (4 * (k : Int) + 2).toNat = 4 * k + 2 := by omega
   have n3 : (4 * (k : Int) + 3).toNat = 4 * k + 3 := by omega
   have l0 : 4 * (k : Int) < 64 := by omega
   have l1 : 4 * (k : Int) + 1 < 64 := by omega
   have l2 : 4 * (k : Int) + 2 < 64 := by omega
   have l3 : 4 * (k : Int) + 3 < 64 := by omega
   have e0 : 0 ≤ 4 * (k : Int) := by omega
   have e1 : 0 ≤ 4 * (k : Int) + 1 := by omega
   have e2 : 0 ≤ 4 * (k : Int) + 2 := by omega
   have e3 : 0 ≤ 4 * (k : Int) + 3 := by omega
   go_upto_region 5 with fail
   refine wp_region_held_drew (S := fun W => (W.cell? ⟨gb, ob + 4 * k, none⟩ = some (.int .u8 (toU X0)) ∧ W.cell? ⟨gb, ob + (4 * k + 1), none⟩ = some (.int .u8 (toU X1)) ∧ W.cell? ⟨gb, ob + (4 * k + 2), none⟩ = some (.int .u8 (toU X2)) ∧ W.cell? ⟨gb, ob + (4 * k + 3), none⟩ = some (.int .u8 (toU X3)))) (by kernel_rfl) ⟨c0, c1, c2, c3⟩ (fun hHeld => ?_)
   set_option maxRecDepth 100000 in
   refine' tQ 0 ⟨some 25, .move (.tmp 7), 128, "ref.go:183", #[], none⟩ rfl (by kernel_rfl) (Or.inl ⟨by rfl, _⟩) _; rotate_left; · (intro s h; (try dsimp only at h); go_simp; try with_reducible rfl)
   try simp only [Act.put,nA,nB,nC]
   refine' tQ 1 ⟨some 26, .move (.tmp 2), 121, "ref.go:183", #[], none⟩ rfl (by kernel_rfl) (Or.inl ⟨by rfl, _⟩) _; rotate_left; · (intro s h; (try dsimp only at h); go_simp; try with_reducible rfl)
   try simp only [Act.put,nA,nB,nC]
   refine' tQ 2 ⟨some 27, .move (.tmp 8), 3, "ref.go:183", #[], none⟩ rfl (by kernel_rfl) (Or.inl ⟨by rfl, _⟩) _; rotate_left; · (intro s h; (try dsimp only at h); go_simp; try with_reducible rfl)
   try simp only [Act.put,nA,nB,nC]
   refine' tQ 3 ⟨some 28, .binOp .mul 3 (.const (.int .i64 4)) (.tmp 27) 3, 3, "ref.go:183", #[⟨2, .data⟩], none⟩ rfl (by kernel_rfl) (Or.inl ⟨by rfl, _⟩) _; rotate_left; · (intro s h; (try dsimp only at h); go_simp; try with_reducible rfl)
   try simp only [Act.put,nA,nB,nC]
   refine' tQ 4 ⟨some 29, .indexAddr 121 (.tmp 26) (.tmp 28), 0, "ref.go:183", #[⟨1, .data⟩, ⟨3, .data⟩], none⟩ rfl (by kernel_rfl) (Or.inl ⟨by rfl, _⟩) _; rotate_left; · (intro s h; (try dsimp only at h); go_simp; try with_reducible rfl)
   try simp only [Act.put,nA,nB,nC]
   refine' tQ 5 ⟨some 30, .load 5 (.tmp 29), 5, "ref.go:183", #[⟨4, .data⟩], none⟩ rfl (by kernel_rfl) (Or.inl ⟨by rfl, _⟩) _; rotate_left; · (intro s h; (try dsimp only at h); go_simp; try with_reducible rfl)
   try simp only [Act.put,nA,nB,nC]
   refine' tQ 6 ⟨some 31, .convert 5 122 (.tmp 30), 122, "ref.go:183", #[⟨5, .data⟩], none⟩ rfl (by kernel_rfl) (Or.inl ⟨by rfl, _⟩) _; rotate_left; · (intro s h; (try dsimp only at h); go_simp; try with_reducible rfl)
   try simp only [Act.put,nA,nB,nC]
   refine' tQ 7 ⟨some 32, .binOp .shl 122 (.tmp 31) (.const (.int .u64 24)) 117, 122, "ref.go:183", #[⟨6, .data⟩], none⟩ rfl (by kernel_rfl) (Or.inl ⟨by rfl, _⟩) _; rotate_left; · (intro s h; (try dsimp only at h); go_simp; try with_reducible rfl)
   try simp only [Act.put,nA,nB,nC]
   refine' tQ 8 ⟨some 33, .move (.tmp 2), 121, "ref.go:183", #[], none⟩ rfl (by kernel_rfl) (Or.inl ⟨by rfl, _⟩) _; rotate_left; · (intro s h; (try dsimp only at h); go_simp; try with_reducible rfl)
   try simp only [Act.put,nA,nB,nC]
   refine' tQ 9 ⟨some 34, .move (.tmp 8), 3, "ref.go:183", #[], none⟩ rfl (by kernel_rfl) (Or.inl ⟨by rfl, _⟩) _; rotate_left; · (intro s h; (try dsimp only at h); go_simp; try with_reducible rfl)
   try simp only [Act.put,nA,nB,nC]
   refine' tQ 10 ⟨some 35, .binOp .mul 3 (.const (.int .i64 4)) (.tmp 34) 3, 3, "ref.go:183", #[⟨9, .data⟩], none⟩ rfl (by kernel_rfl) (Or.inl ⟨by rfl, _⟩) _; rotate_left; · (intro s h; (try dsimp only at h); go_simp; try with_reducible rfl)
   try simp only [Act.put,nA,nB,nC]
   refine' tQ 11 ⟨some 36, .binOp .add 3 (.tmp 35) (.const (.int .i64 1)) 3, 3, "ref.go:183", #[⟨10, .data⟩], none⟩ rfl (by kernel_rfl) (Or.inl ⟨by rfl, _⟩) _; rotate_left; · (intro s h; (try dsimp only at h); go_simp; try with_reducible rfl)
   try simp only [Act.put,nA,nB,nC]
   refine' tQ 12 ⟨some 37, .indexAddr 121 (.tmp 33) (.tmp 36), 0, "ref.go:183", #[⟨8, .data⟩, ⟨11, .data⟩], none⟩ rfl (by kernel_rfl) (Or.inl ⟨by rfl, _⟩) _; rotate_left; · (intro s h; (try dsimp only at h); go_simp; try with_reducible rfl)
   try simp only [Act.put,nA,nB,nC]
   refine' tQ 13 ⟨some 38, .load 5 (.tmp 37), 5, "ref.go:183", #[⟨12, .data⟩], none⟩ rfl (by kernel_rfl) (Or.inl ⟨by rfl, _⟩) _; rotate_left; · (intro s h; (try dsimp only at h); go_simp; try with_reducible rfl)
   try simp only [Act.put,nA,nB,nC]
   refine' tQ 14 ⟨some 39, .convert 5 122 (.tmp 38), 122, "ref.go:183", #[⟨13, .data⟩], none⟩ rfl (by kernel_rfl) (Or.inl ⟨by rfl, _⟩) _; rotate_left; · (intro s h; (try dsimp only at h); go_simp; try with_reducible rfl)
   try simp only [Act.put,nA,nB,nC]
   refine' tQ 15 ⟨some 40, .binOp .shl 122 (.tmp 39) (.const (.int .u64 16)) 117, 122, "ref.go:183", #[⟨14, .data⟩], none⟩ rfl (by kernel_rfl) (Or.inl ⟨by rfl, _⟩) _; rotate_left; · (intro s h; (try dsimp only at h); go_simp; try with_reducible rfl)
   try simp only [Act.put,nA,nB,nC]
   refine' tQ 16 ⟨some 41, .binOp .or 122 (.tmp 32) (.tmp 40) 122, 122, "ref.go:183", #[⟨7, .data⟩, ⟨15, .data⟩], none⟩ rfl (by kernel_rfl) (Or.inl ⟨by rfl, _⟩) _; rotate_left; · (intro s h; (try dsimp only at h); go_simp; try with_reducible rfl)
   try simp only [Act.put,nA,nB,nC]
   refine' tQ 17 ⟨some 42, .move (.tmp 2), 121, "ref.go:183", #[], none⟩ rfl (by kernel_rfl) (Or.inl ⟨by rfl, _⟩) _; rotate_left; · (intro s h; (try dsimp only at h); go_simp; try with_reducible rfl)
   try simp only [Act.put,nA,nB,nC]
   refine' tQ 18 ⟨some 43, .move (.tmp 8), 3, "ref.go:183", #[], none⟩ rfl (by kernel_rfl) (Or.inl ⟨by rfl, _⟩) _; rotate_left; · (intro s h; (try dsimp only at h); go_simp; try with_reducible rfl)
   try simp only [Act.put,nA,nB,nC]
   refine' tQ 19 ⟨some 44, .binOp .mul 3 (.const (.int .i64 4)) (.tmp 43) 3, 3, "ref.go:183", #[⟨18, .data⟩], none⟩ rfl (by kernel_rfl) (Or.inl ⟨by rfl, _⟩) _; rotate_left; · (intro s h; (try dsimp only at h); go_simp; try with_reducible rfl)
   try simp only [Act.put,nA,nB,nC]
   refine' tQ 20 ⟨some 45, .binOp .add 3 (.tmp 44) (.const (.int .i64 2)) 3, 3, "ref.go:183", #[⟨19, .data⟩], none⟩ rfl (by kernel_rfl) (Or.inl ⟨by rfl, _⟩) _; rotate_left; · (intro s h; (try dsimp only at h); go_simp; try with_reducible rfl)
   try simp only [Act.put,nA,nB,nC]
   refine' tQ 21 ⟨some 46, .indexAddr 121 (.tmp 42) (.tmp 45), 0, "ref.go:183", #[⟨17, .data⟩, ⟨20, .data⟩], none⟩ rfl (by kernel_rfl) (Or.inl ⟨by rfl, _⟩) _; rotate_left; · (intro s h; (try dsimp only at h); go_simp; try with_reducible rfl)
   try simp only [Act.put,nA,nB,nC]
   refine' tQ 22 ⟨some 47, .load 5 (.tmp 46), 5, "ref.go:183", #[⟨21, .data⟩], none⟩ rfl (by kernel_rfl) (Or.inl ⟨by rfl, _⟩) _; rotate_left; · (intro s h; (try dsimp only at h); go_simp; try with_reducible rfl)
   try simp only [Act.put,nA,nB,nC]
   refine' tQ 23 ⟨some 48, .convert 5 122 (.tmp 47), 122, "ref.go:183", #[⟨22, .data⟩], none⟩ rfl (by kernel_rfl) (Or.inl ⟨by rfl, _⟩) _; rotate_left; · (intro s h; (try dsimp only at h); go_simp; try with_reducible rfl)
   try simp only [Act.put,nA,nB,nC]
   refine' tQ 24 ⟨some 49, .binOp .shl 122 (.tmp 48) (.const (.int .u64 8)) 117, 122, "ref.go:183", #[⟨23, .data⟩], none⟩ rfl (by kernel_rfl) (Or.inl ⟨by rfl, _⟩) _; rotate_left; · (intro s h; (try dsimp only at h); go_simp; try with_reducible rfl)
   try simp only [Act.put,nA,nB,nC]
   refine' tQ 25 ⟨some 50, .binOp .or 122 (.tmp 41) (.tmp 49) 122, 122, "ref.go:183", #[⟨16, .data⟩, ⟨24, .data⟩], none⟩ rfl (by kernel_rfl) (Or.inl ⟨by rfl, _⟩) _; rotate_left; · (intro s h; (try dsimp only at h); go_simp; try with_reducible rfl)
   try simp only [Act.put,nA,nB,nC]
   refine' tQ 26 ⟨some 51, .move (.tmp 2), 121, "ref.go:183", #[], none⟩ rfl (by kernel_rfl) (Or.inl ⟨by rfl, _⟩) _; rotate_left; · (intro s h; (try dsimp only at h); go_simp; try with_reducible rfl)
   try simp only [Act.put,nA,nB,nC]
   refine' tQ 27 ⟨some 52, .move (.tmp 8), 3, "ref.go:183", #[], none⟩ rfl (by kernel_rfl) (Or.inl ⟨by rfl, _⟩) _; rotate_left; · (intro s h; (try dsimp only at h); go_simp; try with_reducible rfl)
   try simp only [Act.put,nA,nB,nC]
   refine' tQ 28 ⟨some 53, .binOp .mul 3 (.const (.int .i64 4)) (.tmp 52) 3, 3, "ref.go:183", #[⟨27, .data⟩], none⟩ rfl (by kernel_rfl) (Or.inl ⟨by rfl, _⟩) _; rotate_left; · (intro s h; (try dsimp only at h); go_simp; try with_reducible rfl)
   try simp only [Act.put,nA,nB,nC]
   refine' tQ 29 ⟨some 54, .binOp .add 3 (.tmp 53) (.const (.int .i64 3)) 3, 3, "ref.go:183", #[⟨28, .data⟩], none⟩ rfl (by kernel_rfl) (Or.inl ⟨by rfl, _⟩) _; rotate_left; · (intro s h; (try dsimp only at h); go_simp; try with_reducible rfl)
   try simp only [Act.put,nA,nB,nC]
   refine' tQ 30 ⟨some 55, .indexAddr 121 (.tmp 51) (.tmp 54), 0, "ref.go:183", #[⟨26, .data⟩, ⟨29, .data⟩], none⟩ rfl (by kernel_rfl) (Or.inl ⟨by rfl, _⟩) _; rotate_left; · (intro s h; (try dsimp only at h); go_simp; try with_reducible rfl)
   try simp only [Act.put,nA,nB,nC]
   refine' tQ 31 ⟨some 56, .load 5 (.tmp 55), 5, "ref.go:183", #[⟨30, .data⟩], none⟩ rfl (by kernel_rfl) (Or.inl ⟨by rfl, _⟩) _; rotate_left; · (intro s h; (try dsimp only at h); go_simp; try with_reducible rfl)
   try simp only [Act.put,nA,nB,nC]
   refine' tQ 32 ⟨some 57, .convert 5 122 (.tmp 56), 122, "ref.go:183", #[⟨31, .data⟩], none⟩ rfl (by kernel_rfl) (Or.inl ⟨by rfl, _⟩) _; rotate_left; · (intro s h; (try dsimp only at h); go_simp; try with_reducible rfl)
   try simp only [Act.put,nA,nB,nC]
   refine' tQ 33 ⟨some 58, .binOp .or 122 (.tmp 50) (.tmp 57) 122, 122, "ref.go:183", #[⟨25, .data⟩, ⟨32, .data⟩], none⟩ rfl (by kernel_rfl) (Or.inl ⟨by rfl, _⟩) _; rotate_left; · (intro s h; (try dsimp only at h); go_simp; try with_reducible rfl)
   try simp only [Act.put,nA,nB,nC]
   refine wpAnyH_ready (rs := [34]) (by kernel_rfl) (by simp) ?_
   refine AllReadyH.cons (o := ⟨some 59, .buildSlice 128 1 #[(0, .tmp 58)], 128, "ref.go:183", #[⟨33, .data⟩], none⟩) rfl (fun K hK => ?_) AllReadyH.nil
   go_simp
   refine hK.out _ _ ?_ (fun hHeld => ?_)
   ·exact ⟨cellA hHeld.1, cellA hHeld.2.1, cellA hHeld.2.2.1, cellA hHeld.2.2.2⟩
   clear hK K
   try simp only [Act.put,nA,nB,nC]
   refine wpAnyH_ready (rs := [35]) (by kernel_rfl) (by simp) ?_
   refine AllReadyH.cons (o := ⟨some 60, .call ⟨.builtin .append, #[.tmp 25, .tmp 59], #[128, 128]⟩, 128, "ref.go:183", #[⟨0, .data⟩, ⟨34, .data⟩], none⟩) rfl (fun K hK => ?_) AllReadyH.nil
   (set_option maxRecDepth 100000 in refine step_of rfl (wp_appU wr _ Y _ _ rfl w.heap.size u7 (words k bs) rfl HO.out ((Below.refl _ _).drew.alloc (Nat.le_refl _) _) 1 _ rfl (by show (wr.alloc _).cell? _ = _; rw [heap_cell (heap_alloc_new _ _)]; rfl) hwl hz ?_); intro v2 w2 hv2 hb2 _)
   refine hK.out _ _ ?_ (fun hHeld => ?_)
   ·exact ⟨cellB hb2 hgb hHeld.1, cellB hb2 hgb hHeld.2.1, cellB hb2 hgb hHeld.2.2.1, cellB hb2 hgb hHeld.2.2.2⟩
   clear hK K
   try simp only [Act.put,nA,nB,nC]
   refine' tQ 36 ⟨some 7, .assign (.tmp 60), 128, "ref.go:183", #[⟨35, .data⟩, ⟨35, .chain⟩, ⟨0, .phase⟩, ⟨1, .phase⟩, ⟨2, .phase⟩, ⟨3, .phase⟩, ⟨4, .phase⟩, ⟨5, .phase⟩, ⟨6, .phase⟩, ⟨7, .phase⟩, ⟨8, .phase⟩, ⟨9, .phase⟩, ⟨10, .phase⟩, ⟨11, .phase⟩, ⟨12, .phase⟩, ⟨13, .phase⟩, ⟨14, .phase⟩, ⟨15, .phase⟩, ⟨16, .phase⟩, ⟨17, .phase⟩, ⟨18, .phase⟩, ⟨19, .phase⟩, ⟨20, .phase⟩, ⟨21, .phase⟩, ⟨22, .phase⟩, ⟨23, .phase⟩, ⟨24, .phase⟩, ⟨25, .phase⟩, ⟨26, .phase⟩, ⟨27, .phase⟩, ⟨28, .phase⟩, ⟨29, .phase⟩, ⟨30, .phase⟩, ⟨31, .phase⟩, ⟨32, .phase⟩, ⟨33, .phase⟩, ⟨34, .phase⟩, ⟨35, .phase⟩], none⟩ rfl (by kernel_rfl) (Or.inl ⟨by rfl, _⟩) _; rotate_left; · (intro s h; (try dsimp only at h); go_simp; try with_reducible rfl)
   try simp only [Act.put,nA,nB,nC]
   refine wpAnyH_done (by kernel_rfl) ?_ _
   go_wp2_with fail
   refine ⟨⟨k + 1, by omega, ?_, HB.out.trans (((Below.refl _ _).drew.alloc hz _).trans hb2), by go_num⟩, by simp [intOf]; omega⟩
   have h3 : words (k + 1) bs = words k bs ++ [Y] := by
    rw [← HY.out, HX.out.1, HX.out.2.1, HX.out.2.2.1, HX.out.2.2.2]; rfl
   rw [h3]
   exact hv2
  ·obtain rfl : k = 16 := by omega
   clear hk hlt
   go_wp2_with fail
   rw [show ((16 : Nat) : Int) = 16 from rfl]
   go_loopw [7, 9] (fun t i wr => ∃ (L : Nat) (m : List (BitVec 32)), 16 ≤ L ∧ L ≤ 64 ∧ m.length = L ∧ Hid (m = schedN (L - 16) (words 16 bs)) ∧ Hid (OwnU wr w.heap.size t m) ∧ Hid (Below w.heap.size w wr) ∧ i = .int .i64 (L : Int)) (fun _ i _ => 64 - (intOf i).toNat)
   case atStart => exact ⟨16, _, by omega, by omega, words_length _ _, rfl, HO, HB, rfl⟩
   case round =>
    clear HO HB
    obtain ⟨L, m, hL1, hL2, hml, HS, HO, HB, rfl⟩ := hrel
    obtain ⟨g7, p7, hu7, hg7, hg7'⟩ := HO.out.form (by omega)
    subst hu7
    rw [hml] at HO ⊢
    by_cases hlt : L < 64
    ·have word : ∀ j, (hj : j < L) → ∃ X : BitVec 32, X = m.getD j 0 ∧ wr.cell? ⟨g7, j, none⟩ = some (.int .u32 (toU X)) :=
      fun j hj => ⟨_, rfl, HO.out.cell j _ rfl (by omega)⟩
     obtain ⟨X16, h16, c16⟩ := word (L - 16) (by omega)
     obtain ⟨X7, h7, c7⟩ := word (L - 7) (by omega)
     obtain ⟨X15, h15, c15⟩ := word (L - 15) (by omega)
     obtain ⟨X2, h2, c2⟩ := word (L - 2) (by omega)
     have HX := Lib.hid (And.intro h16 (And.intro h7 (And.intro h15 h2)))
     have Hml := Lib.hid hml
     clear word h16 h7 h15 h2 hml
     have hz := HB.out.size
     have a2 : IntKind.i64.wrap ((L : Int) - 2) = (L : Int) - 2 := IntWalk.i64_in _ (by omega)
     have a7 : IntKind.i64.wrap ((L : Int) - 7) = (L : Int) - 7 := IntWalk.i64_in _ (by omega)
     have a15 : IntKind.i64.wrap ((L : Int) - 15) = (L : Int) - 15 := IntWalk.i64_in _ (by omega)
     have a16 : IntKind.i64.wrap ((L : Int) - 16) = (L : Int) - 16 := IntWalk.i64_in _ (by omega)
     have n2 : ((L : Int) - 2).toNat = L - 2 := by omega
     have n7 : ((L : Int) - 7).toNat = L - 7 := by omega
     have n15 : ((L : Int) - 15).toNat = L - 15 := by omega
     have n16 : ((L : Int) - 16).toNat = L - 16 := by omega
     have b2 : 0 ≤ (L : Int) - 2 := by omega
     have b7 : 0 ≤ (L : Int) - 7 := by omega
     have b15 : 0 ≤ (L : Int) - 15 := by omega
     have b16 : 0 ≤ (L : Int) - 16 := by omega
     have d2 : (L : Int) - 2 < (L : Int) := by omega
     have d7 : (L : Int) - 7 < (L : Int) := by omega
     have d15 : (L : Int) - 15 < (L : Int) := by omega
     have d16 : (L : Int) - 16 < (L : Int) := by omega
     have q2 : (2 : Int) ≤ (L : Int) := by omega
     have q7 : (7 : Int) ≤ (L : Int) := by omega
     have q15 : (15 : Int) ≤ (L : Int) := by omega
     have q16 : (16 : Int) ≤ (L : Int) := by omega
     have y1 := bits_xor32 (rotr 7 X15) (rotr 18 X15)
     have y2 := bits_xor32 (rotr 7 X15 ^^^ rotr 18 X15) (X15 >>> 3)
     have y3 := bits_xor32 (rotr 17 X2) (rotr 19 X2)
     have y4 := bits_xor32 (rotr 17 X2 ^^^ rotr 19 X2) (X2 >>> 10)
     have y5 := shr3 X15
     have y6 := shr10 X2
     go_upto_region 9 with fail
     go_quiet ((go_at_call 94; exact Calls.quiet_of_same (turn_any _ _ _ (by decide))))
     go_upto_region 10 with fail
     refine wp_name (fun W => OwnU W w.heap.size (.slice (some ⟨g7, 0, none⟩) L p7) m ∧ Below w.heap.size w W) ⟨HO.out, below_drewN HB.out⟩ (fun wa ha => ?_)
     have HOa := Lib.hid ha.1
     have HBa := Lib.hid ha.2
     clear y1 y2 y5 c15 c2 c16 c7 ha HO HB
     have c2 := HOa.out.cell (L - 2) X2 HX.out.2.2.2 (by rw [Hml.out]; omega)
     go_quiet ((go_at_call 94; exact Calls.quiet_of_same (turn_any _ _ _ (by decide))))
     go_upto_region 11 with fail
     refine wp_name (fun W => OwnU W w.heap.size (.slice (some ⟨g7, 0, none⟩) L p7) m ∧ Below w.heap.size w W) ⟨HOa.out, below_drewN HBa.out⟩ (fun wb ha => ?_)
     have HOb := Lib.hid ha.1
     have HBb := Lib.hid ha.2
     clear y3 y4 y6 c2 ha HOa HBa
     have c16 := HOb.out.cell (L - 16) X16 HX.out.1 (by rw [Hml.out]; omega)
     have c7 := HOb.out.cell (L - 7) X7 HX.out.2.1 (by rw [Hml.out]; omega)
     obtain ⟨S0, hS0⟩ : ∃ S0, rotr 7 X15 ^^^ rotr 18 X15 ^^^ X15 >>> 3 = S0 := ⟨_, rfl⟩
     obtain ⟨S1, hS1⟩ : ∃ S1, rotr 17 X2 ^^^ rotr 19 X2 ^^^ X2 >>> 10 = S1 := ⟨_, rfl⟩
     rw [hS0, hS1]
     have HS0 := Lib.hid hS0
     have HS1 := Lib.hid hS1
     clear hS0 hS1
     have p1 := addU X16 S0
     have p2 := addU (X16 + S0) X7
     have p3 := addU (X16 + S0 + X7) S1
     have p1' := addM X16 S0
     have p2' := addM (X16 + S0) X7
     have p3' := addM (X16 + S0 + X7) S1
     have hzb := HBb.out.size
     have hgb' : g7 < wb.heap.size := (HOb.out.lt g7 rfl).2
     have hml6 : m.length ≤ 1000000 := by rw [Hml.out]; omega
     refine wp_region_held_drew (S := fun W => W.cell? ⟨g7, L - 16, none⟩ = some (.int .u32 (toU X16)) ∧ W.cell? ⟨g7, L - 7, none⟩ = some (.int .u32 (toU X7))) (by kernel_rfl) ⟨c16, c7⟩ (fun hHeld => ?_)
     set_option maxRecDepth 100000 in
     refine' tQ 0 ⟨some 105, .move (.tmp 7), 128, "ref.go:188", #[], none⟩ rfl (by kernel_rfl) (Or.inl ⟨by rfl, _⟩) _; rotate_left; · (intro s h; (try dsimp only at h); go_simp; try with_reducible rfl)
     try simp only [Act.put,nA,nB,nC]
     refine' tQ 1 ⟨some 106, .move (.tmp 7), 128, "ref.go:188", #[], none⟩ rfl (by kernel_rfl) (Or.inl ⟨by rfl, _⟩) _; rotate_left; · (intro s h; (try dsimp only at h); go_simp; try with_reducible rfl)
     try simp only [Act.put,nA,nB,nC]
     refine' tQ 2 ⟨some 107, .move (.tmp 9), 3, "ref.go:188", #[], none⟩ rfl (by kernel_rfl) (Or.inl ⟨by rfl, _⟩) _; rotate_left; · (intro s h; (try dsimp only at h); go_simp; try with_reducible rfl)
     try simp only [Act.put,nA,nB,nC]
     refine' tQ 3 ⟨some 108, .binOp .sub 3 (.tmp 107) (.const (.int .i64 16)) 3, 3, "ref.go:188", #[⟨2, .data⟩], none⟩ rfl (by kernel_rfl) (Or.inl ⟨by rfl, _⟩) _; rotate_left; · (intro s h; (try dsimp only at h); go_simp; try with_reducible rfl)
     try simp only [Act.put,nA,nB,nC]
     refine' tQ 4 ⟨some 109, .indexAddr 128 (.tmp 106) (.tmp 108), 0, "ref.go:188", #[⟨1, .data⟩, ⟨3, .data⟩], none⟩ rfl (by kernel_rfl) (Or.inl ⟨by rfl, _⟩) _; rotate_left; · (intro s h; (try dsimp only at h); go_simp; try with_reducible rfl)
     try simp only [Act.put,nA,nB,nC]
     refine' tQ 5 ⟨some 110, .load 122 (.tmp 109), 122, "ref.go:188", #[⟨4, .data⟩], none⟩ rfl (by kernel_rfl) (Or.inl ⟨by rfl, _⟩) _; rotate_left; · (intro s h; (try dsimp only at h); go_simp; try with_reducible rfl)
     try simp only [Act.put,nA,nB,nC]
     refine' tQ 6 ⟨some 111, .move (.tmp 10), 122, "ref.go:188", #[], none⟩ rfl (by kernel_rfl) (Or.inl ⟨by rfl, _⟩) _; rotate_left; · (intro s h; (try dsimp only at h); go_simp; try with_reducible rfl)
     try simp only [Act.put,nA,nB,nC]
     refine' tQ 7 ⟨some 112, .binOp .add 122 (.tmp 110) (.tmp 111) 122, 122, "ref.go:188", #[⟨5, .data⟩, ⟨6, .data⟩], none⟩ rfl (by kernel_rfl) (Or.inl ⟨by rfl, _⟩) _; rotate_left; · (intro s h; (try dsimp only at h); go_simp; try with_reducible rfl)
     try simp only [Act.put,nA,nB,nC]
     refine' tQ 8 ⟨some 113, .move (.tmp 7), 128, "ref.go:188", #[], none⟩ rfl (by kernel_rfl) (Or.inl ⟨by rfl, _⟩) _; rotate_left; · (intro s h; (try dsimp only at h); go_simp; try with_reducible rfl)
     try simp only [Act.put,nA,nB,nC]
     refine' tQ 9 ⟨some 114, .move (.tmp 9), 3, "ref.go:188", #[], none⟩ rfl (by kernel_rfl) (Or.inl ⟨by rfl, _⟩) _; rotate_left; · (intro s h; (try dsimp only at h); go_simp; try with_reducible rfl)
     try simp only [Act.put,nA,nB,nC]
     refine' tQ 10 ⟨some 115, .binOp .sub 3 (.tmp 114) (.const (.int .i64 7)) 3, 3, "ref.go:188", #[⟨9, .data⟩], none⟩ rfl (by kernel_rfl) (Or.inl ⟨by rfl, _⟩) _; rotate_left; · (intro s h; (try dsimp only at h); go_simp; try with_reducible rfl)
     try simp only [Act.put,nA,nB,nC]
     refine' tQ 11 ⟨some 116, .indexAddr 128 (.tmp 113) (.tmp 115), 0, "ref.go:188", #[⟨8, .data⟩, ⟨10, .data⟩], none⟩ rfl (by kernel_rfl) (Or.inl ⟨by rfl, _⟩) _; rotate_left; · (intro s h; (try dsimp only at h); go_simp; try with_reducible rfl)
     try simp only [Act.put,nA,nB,nC]
     refine' tQ 12 ⟨some 117, .load 122 (.tmp 116), 122, "ref.go:188", #[⟨11, .data⟩], none⟩ rfl (by kernel_rfl) (Or.inl ⟨by rfl, _⟩) _; rotate_left; · (intro s h; (try dsimp only at h); go_simp; try with_reducible rfl)
     try simp only [Act.put,nA,nB,nC]
     refine' tQ 13 ⟨some 118, .binOp .add 122 (.tmp 112) (.tmp 117) 122, 122, "ref.go:188", #[⟨7, .data⟩, ⟨12, .data⟩], none⟩ rfl (by kernel_rfl) (Or.inl ⟨by rfl, _⟩) _; rotate_left; · (intro s h; (try dsimp only at h); go_simp; try with_reducible rfl)
     try simp only [Act.put,nA,nB,nC]
     refine' tQ 14 ⟨some 119, .move (.tmp 11), 122, "ref.go:188", #[], none⟩ rfl (by kernel_rfl) (Or.inl ⟨by rfl, _⟩) _; rotate_left; · (intro s h; (try dsimp only at h); go_simp; try with_reducible rfl)
     try simp only [Act.put,nA,nB,nC]
     refine' tQ 15 ⟨some 120, .binOp .add 122 (.tmp 118) (.tmp 119) 122, 122, "ref.go:188", #[⟨13, .data⟩, ⟨14, .data⟩], none⟩ rfl (by kernel_rfl) (Or.inl ⟨by rfl, _⟩) _; rotate_left; · (intro s h; (try dsimp only at h); go_simp; try with_reducible rfl)
     try simp only [Act.put,nA,nB,nC]
     refine wpAnyH_ready (rs := [16]) (by kernel_rfl) (by simp) ?_
     refine AllReadyH.cons (o := ⟨some 121, .buildSlice 128 1 #[(0, .tmp 120)], 128, "ref.go:188", #[⟨15, .data⟩], none⟩) rfl (fun K hK => ?_) AllReadyH.nil
     go_simp
     refine hK.out _ _ ?_ (fun hHeld => ?_)
     ·exact ⟨cellA hHeld.1, cellA hHeld.2⟩
     clear hK K
     try simp only [Act.put,nA,nB,nC]
     refine wpAnyH_ready (rs := [17]) (by kernel_rfl) (by simp) ?_
     refine AllReadyH.cons (o := ⟨some 122, .call ⟨.builtin .append, #[.tmp 105, .tmp 121], #[128, 128]⟩, 128, "ref.go:188", #[⟨0, .data⟩, ⟨16, .data⟩], none⟩) rfl (fun K hK => ?_) AllReadyH.nil
     (set_option maxRecDepth 100000 in refine step_of rfl (wp_appU wb _ (X16 + S0 + X7 + S1) _ _ rfl w.heap.size (.slice (some ⟨g7, 0, none⟩) L p7) m rfl HOb.out ((Below.refl _ _).drew.alloc (Nat.le_refl _) _) 1 _ rfl (by show (wb.alloc _).cell? _ = _; rw [heap_cell (heap_alloc_new _ _)]; rfl) hml6 hzb ?_); intro v2 w2 hv2 hb2 hkp)
     refine hK.out _ _ ?_ (fun hHeld => ?_)
     ·exact ⟨hkp g7 _ _ rfl (by rw [Hml.out]; omega) hHeld.1, hkp g7 _ _ rfl (by rw [Hml.out]; omega) hHeld.2⟩
     clear hK K
     try simp only [Act.put,nA,nB,nC]
     refine' tQ 18 ⟨some 7, .assign (.tmp 122), 128, "ref.go:188", #[⟨17, .data⟩, ⟨17, .chain⟩, ⟨0, .phase⟩, ⟨1, .phase⟩, ⟨2, .phase⟩, ⟨3, .phase⟩, ⟨4, .phase⟩, ⟨5, .phase⟩, ⟨6, .phase⟩, ⟨7, .phase⟩, ⟨8, .phase⟩, ⟨9, .phase⟩, ⟨10, .phase⟩, ⟨11, .phase⟩, ⟨12, .phase⟩, ⟨13, .phase⟩, ⟨14, .phase⟩, ⟨15, .phase⟩, ⟨16, .phase⟩, ⟨17, .phase⟩], none⟩ rfl (by kernel_rfl) (Or.inl ⟨by rfl, _⟩) _; rotate_left; · (intro s h; (try dsimp only at h); go_simp; try with_reducible rfl)
     try simp only [Act.put,nA,nB,nC]
     refine wpAnyH_done (by kernel_rfl) ?_ _
     go_wp2_with fail
     refine ⟨⟨L + 1, m ++ [X16 + S0 + X7 + S1], by omega, by omega, by rw [List.length_append, Hml.out]; rfl, ?_, hv2, HBb.out.trans (((Below.refl _ _).drew.alloc hzb _).trans hb2), by go_num⟩, by simp [intOf]; omega⟩
     show _ = _
     have e : L + 1 - 16 = (L - 16) + 1 := by omega
     rw [e]
     show _ = schedN (L - 16) (words 16 bs) ++ [schedW (schedN (L - 16) (words 16 bs))]
     have e2 : X16 + S0 + X7 + S1 = schedW m := by
      rw [schedW, Hml.out, ← HX.out.1, ← HX.out.2.1, ← HX.out.2.2.1, ← HX.out.2.2.2, ← HS0.out, ← HS1.out]
      show X16 + sg0 X15 + X7 + sg1 X2 = X16 + X7 + sg0 X15 + sg1 X2
      rw [BitVec.add_assoc X16, BitVec.add_comm (sg0 X15), ← BitVec.add_assoc]
     rw [← HS.out, e2]
    ·obtain rfl : L = 64 := by omega
     clear hL1 hL2 hlt
     rw [show ((64 : Nat) : Int) = 64 from rfl]
     have HHr : Hid (UR wr (.slice (some ⟨gh, 0, none⟩) 8 ch) v.list) := HH.out.below HB.out
     have hhc : ∀ j (h : j < v.list.length), wr.cell? ⟨gh, j, none⟩ = some (.int .u32 (toU v.list[j])) := fun j h => HHr.out.at j _ (by simp [List.getD, h]) h
     have Hhc := Lib.hid hhc
     clear hhc
     go_upto_region 14 with (at_builtin; refine wpList_copyU _ rfl _ _ rfl rfl gh 8 ch v.list rfl rfl Hhc.out (by omega) ?_; intro v3 w3 hv3 hb3)
     have HV3 := Lib.hid (UR.of hv3 (by rw [S8.list_length]; omega))
     have HO3 := Lib.hid (HO.out.below hb3 (fun g hg => (HO.out.lt g hg).2))
     have HB3 := Lib.hid (HB.out.trans (hb3.mono HB.out.size))
     clear hv3 hb3 HO HB Hhc HHr hg7'
     go_wp2_with fail
     go_loopw [12, 13] (fun t i wr => ∃ (n : Nat) (x : S8), n ≤ 64 ∧ Hid (x = roundsN shaKB m n v) ∧ Hid (UR wr t x.list) ∧ Hid (Below w3.heap.size w3 wr) ∧ i = .int .i64 (n : Int)) (fun _ i _ => 64 - (intOf i).toNat)
     case atStart => exact ⟨0, v, by omega, rfl, HV3, Below.refl _ _, rfl⟩
     case round =>
      clear HV3
      obtain ⟨n, x, hn, Hx, HV, HBe, rfl⟩ := hrel
      obtain ⟨g12, p12, hu12, hg12, hc12⟩ := HV.out
      rw [S8.list_length] at hu12
      subst hu12
      by_cases hlt : n < 64
      ·have hg7w : g7 < w3.heap.size := (HO3.out.lt g7 rfl).2
       have ckN := cellB HBe.out (Nat.lt_of_lt_of_le hgk HB3.out.size) ((HK.out.below HB3.out).at n _ rfl hlt)
       have cwN := cellB HBe.out hg7w (HO3.out.cell n _ rfl (by rw [hml]; exact hlt))
       obtain ⟨KN, hKN⟩ : ∃ KN, shaKB.getD n 0 = KN := ⟨_, rfl⟩
       rw [hKN] at ckN
       obtain ⟨WN, hWN⟩ : ∃ WN, m.getD n 0 = WN := ⟨_, rfl⟩
       rw [hWN] at cwN
       have HKN := Lib.hid hKN
       have HWN := Lib.hid hWN
       clear hKN hWN
       obtain ⟨v0, v1, v2, v3', v4, v5, v6, v7⟩ := HV.out.eight
       have HR0 : Hid (RR w3 wr g12 gk g7 n x KN WN) := ⟨v0, v1, v2, v3', v4, v5, v6, v7, ckN, cwN, HBe.out⟩
       clear v0 v1 v2 v3' v5 v6 v7 ckN cwN HBe HV hc12 hg12
       have y1 := bits_xor32 (rotr 6 x.e) (rotr 11 x.e)
       have y2 := bits_xor32 (rotr 6 x.e ^^^ rotr 11 x.e) (rotr 25 x.e)
       go_upto_region 17 with fail
       go_quiet ((go_at_call 94; exact Calls.quiet_of_same (turn_any _ _ _ (by decide))))
       go_upto_region 18 with fail
       refine wp_name (fun W => RR w3 W g12 gk g7 n x KN WN) HR0.out.drewN (fun wa ha => ?_)
       have HR1 := Lib.hid ha
       clear ha y1 y2 v4 HR0
       have v4 := HR1.out.c4
       have v5 := HR1.out.c5
       have v6 := HR1.out.c6
       have n1 := notU x.e
       have n2 := bits_and32 x.e x.f
       have n3 := bits_and32 (~~~ x.e) x.g
       have n4 := bits_xor32 (x.e &&& x.f) (~~~ x.e &&& x.g)
       go_quiet (fail)
       go_upto_region 19 with fail
       refine wp_name (fun W => RR w3 W g12 gk g7 n x KN WN) HR1.out.drewN (fun wb hb => ?_)
       have HR2 := Lib.hid hb
       clear hb n1 n2 n3 n4 v4 v5 v6 HR1
       rw [chB]
       obtain ⟨E1, hE1⟩ : ∃ E1, rotr 6 x.e ^^^ rotr 11 x.e ^^^ rotr 25 x.e = E1 := ⟨_, rfl⟩
       obtain ⟨C1, hC1⟩ : ∃ C1, chF x.e x.f x.g = C1 := ⟨_, rfl⟩
       rw [hE1, hC1]
       have HE1 := Lib.hid hE1
       have HC1 := Lib.hid hC1
       clear hE1 hC1
       have v7 := HR2.out.c7
       have ckN := HR2.out.ck
       have cwN := HR2.out.cw
       have p1 := addM x.h E1
       have p2 := addM (x.h + E1) C1
       have p3 := addM (x.h + E1 + C1) KN
       have p4 := addM (x.h + E1 + C1 + KN) WN
       have p1' := addU x.h E1
       have p2' := addU (x.h + E1) C1
       have p3' := addU (x.h + E1 + C1) KN
       have p4' := addU (x.h + E1 + C1 + KN) WN
       go_quiet (fail)
       go_upto_region 20 with fail
       refine wp_name (fun W => RR w3 W g12 gk g7 n x KN WN) HR2.out.drewN (fun wc hc => ?_)
       have HR3 := Lib.hid hc
       clear hc p1 p2 p3 p4 p1' p2' p3' p4' v7 ckN cwN HR2
       obtain ⟨O1, hO1⟩ : ∃ O1, x.h + E1 + C1 + KN + WN = O1 := ⟨_, rfl⟩
       rw [hO1]
       have HO1 := Lib.hid hO1
       clear hO1
       have v0 := HR3.out.c0
       have y1 := bits_xor32 (rotr 2 x.a) (rotr 13 x.a)
       have y2 := bits_xor32 (rotr 2 x.a ^^^ rotr 13 x.a) (rotr 22 x.a)
       go_quiet ((go_at_call 94; exact Calls.quiet_of_same (turn_any _ _ _ (by decide))))
       go_upto_region 21 with fail
       refine wp_name (fun W => RR w3 W g12 gk g7 n x KN WN) HR3.out.drewN (fun wd hd => ?_)
       have HR4 := Lib.hid hd
       clear hd y1 y2 v0 HR3
       have v0 := HR4.out.c0
       have v1 := HR4.out.c1
       have v2 := HR4.out.c2
       have n1 := bits_and32 x.a x.b
       have n2 := bits_and32 x.a x.c
       have n3 := bits_xor32 (x.a &&& x.b) (x.a &&& x.c)
       have n4 := bits_and32 x.b x.c
       have n5 := bits_xor32 ((x.a &&& x.b) ^^^ (x.a &&& x.c)) (x.b &&& x.c)
       go_quiet (fail)
       go_upto_region 22 with fail
       refine wp_name (fun W => RR w3 W g12 gk g7 n x KN WN) HR4.out.drewN (fun we he => ?_)
       have HR5 := Lib.hid he
       clear he n1 n2 n3 n4 n5 v0 v1 v2 HR4
       obtain ⟨S2, hS2⟩ : ∃ S2, rotr 2 x.a ^^^ rotr 13 x.a ^^^ rotr 22 x.a = S2 := ⟨_, rfl⟩
       obtain ⟨M2, hM2⟩ : ∃ M2, x.a &&& x.b ^^^ x.a &&& x.c ^^^ x.b &&& x.c = M2 := ⟨_, rfl⟩
       rw [hS2, hM2]
       have HS2 := Lib.hid hS2
       have HM2 := Lib.hid hM2
       clear hS2 hM2
       have p1 := addM O1 S2
       have p2 := addM (O1 + S2) M2
       have p3 := addM x.d O1
       have p1' := addU O1 S2
       have p2' := addU (O1 + S2) M2
       have p3' := addU x.d O1
       refine wp_region_held_drew (S := fun W => W.cell? ⟨g12, 0, none⟩ = some (.int .u32 (toU x.a)) ∧ W.cell? ⟨g12, 1, none⟩ = some (.int .u32 (toU x.b)) ∧ W.cell? ⟨g12, 2, none⟩ = some (.int .u32 (toU x.c)) ∧ W.cell? ⟨g12, 3, none⟩ = some (.int .u32 (toU x.d)) ∧ W.cell? ⟨g12, 4, none⟩ = some (.int .u32 (toU x.e)) ∧ W.cell? ⟨g12, 5, none⟩ = some (.int .u32 (toU x.f)) ∧ W.cell? ⟨g12, 6, none⟩ = some (.int .u32 (toU x.g))) (by kernel_rfl) ⟨HR5.out.c0, HR5.out.c1, HR5.out.c2, HR5.out.c3, HR5.out.c4, HR5.out.c5, HR5.out.c6⟩ (fun hHeld => ?_)
       set_option maxRecDepth 100000 in
       refine' tQ 0 ⟨some 214, .move (.tmp 16), 122, "ref.go:198", #[], none⟩ rfl (by kernel_rfl) (Or.inl ⟨by rfl, _⟩) _; rotate_left; · (intro s h; (try dsimp only at h); go_simp; try with_reducible rfl)
       try simp only [Act.put,nA,nB,nC]
       refine' tQ 1 ⟨some 215, .move (.tmp 17), 122, "ref.go:198", #[], none⟩ rfl (by kernel_rfl) (Or.inl ⟨by rfl, _⟩) _; rotate_left; · (intro s h; (try dsimp only at h); go_simp; try with_reducible rfl)
       try simp only [Act.put,nA,nB,nC]
       refine' tQ 2 ⟨some 216, .binOp .add 122 (.tmp 214) (.tmp 215) 122, 122, "ref.go:198", #[⟨0, .data⟩, ⟨1, .data⟩], none⟩ rfl (by kernel_rfl) (Or.inl ⟨by rfl, _⟩) _; rotate_left; · (intro s h; (try dsimp only at h); go_simp; try with_reducible rfl)
       try simp only [Act.put,nA,nB,nC]
       refine' tQ 3 ⟨some 217, .move (.tmp 18), 122, "ref.go:198", #[], none⟩ rfl (by kernel_rfl) (Or.inl ⟨by rfl, _⟩) _; rotate_left; · (intro s h; (try dsimp only at h); go_simp; try with_reducible rfl)
       try simp only [Act.put,nA,nB,nC]
       refine' tQ 4 ⟨some 218, .binOp .add 122 (.tmp 216) (.tmp 217) 122, 122, "ref.go:198", #[⟨2, .data⟩, ⟨3, .data⟩], none⟩ rfl (by kernel_rfl) (Or.inl ⟨by rfl, _⟩) _; rotate_left; · (intro s h; (try dsimp only at h); go_simp; try with_reducible rfl)
       try simp only [Act.put,nA,nB,nC]
       refine' tQ 5 ⟨some 219, .move (.tmp 12), 128, "ref.go:198", #[], none⟩ rfl (by kernel_rfl) (Or.inl ⟨by rfl, _⟩) _; rotate_left; · (intro s h; (try dsimp only at h); go_simp; try with_reducible rfl)
       try simp only [Act.put,nA,nB,nC]
       refine' tQ 6 ⟨some 220, .indexAddr 128 (.tmp 219) (.const (.int .i64 0)), 0, "ref.go:198", #[⟨5, .data⟩], none⟩ rfl (by kernel_rfl) (Or.inl ⟨by rfl, _⟩) _; rotate_left; · (intro s h; (try dsimp only at h); go_simp; try with_reducible rfl)
       try simp only [Act.put,nA,nB,nC]
       refine' tQ 7 ⟨some 221, .load 122 (.tmp 220), 122, "ref.go:198", #[⟨6, .data⟩], none⟩ rfl (by kernel_rfl) (Or.inl ⟨by rfl, _⟩) _; rotate_left; · (intro s h; (try dsimp only at h); go_simp; try with_reducible rfl)
       try simp only [Act.put,nA,nB,nC]
       refine' tQ 8 ⟨some 222, .move (.tmp 12), 128, "ref.go:198", #[], none⟩ rfl (by kernel_rfl) (Or.inl ⟨by rfl, _⟩) _; rotate_left; · (intro s h; (try dsimp only at h); go_simp; try with_reducible rfl)
       try simp only [Act.put,nA,nB,nC]
       refine' tQ 9 ⟨some 223, .indexAddr 128 (.tmp 222) (.const (.int .i64 1)), 0, "ref.go:198", #[⟨8, .data⟩], none⟩ rfl (by kernel_rfl) (Or.inl ⟨by rfl, _⟩) _; rotate_left; · (intro s h; (try dsimp only at h); go_simp; try with_reducible rfl)
       try simp only [Act.put,nA,nB,nC]
       refine' tQ 10 ⟨some 224, .load 122 (.tmp 223), 122, "ref.go:198", #[⟨9, .data⟩], none⟩ rfl (by kernel_rfl) (Or.inl ⟨by rfl, _⟩) _; rotate_left; · (intro s h; (try dsimp only at h); go_simp; try with_reducible rfl)
       try simp only [Act.put,nA,nB,nC]
       refine' tQ 11 ⟨some 225, .move (.tmp 12), 128, "ref.go:198", #[], none⟩ rfl (by kernel_rfl) (Or.inl ⟨by rfl, _⟩) _; rotate_left; · (intro s h; (try dsimp only at h); go_simp; try with_reducible rfl)
       try simp only [Act.put,nA,nB,nC]
       refine' tQ 12 ⟨some 226, .indexAddr 128 (.tmp 225) (.const (.int .i64 2)), 0, "ref.go:198", #[⟨11, .data⟩], none⟩ rfl (by kernel_rfl) (Or.inl ⟨by rfl, _⟩) _; rotate_left; · (intro s h; (try dsimp only at h); go_simp; try with_reducible rfl)
       try simp only [Act.put,nA,nB,nC]
       refine' tQ 13 ⟨some 227, .load 122 (.tmp 226), 122, "ref.go:198", #[⟨12, .data⟩], none⟩ rfl (by kernel_rfl) (Or.inl ⟨by rfl, _⟩) _; rotate_left; · (intro s h; (try dsimp only at h); go_simp; try with_reducible rfl)
       try simp only [Act.put,nA,nB,nC]
       refine' tQ 14 ⟨some 228, .move (.tmp 12), 128, "ref.go:198", #[], none⟩ rfl (by kernel_rfl) (Or.inl ⟨by rfl, _⟩) _; rotate_left; · (intro s h; (try dsimp only at h); go_simp; try with_reducible rfl)
       try simp only [Act.put,nA,nB,nC]
       refine' tQ 15 ⟨some 229, .indexAddr 128 (.tmp 228) (.const (.int .i64 3)), 0, "ref.go:198", #[⟨14, .data⟩], none⟩ rfl (by kernel_rfl) (Or.inl ⟨by rfl, _⟩) _; rotate_left; · (intro s h; (try dsimp only at h); go_simp; try with_reducible rfl)
       try simp only [Act.put,nA,nB,nC]
       refine' tQ 16 ⟨some 230, .load 122 (.tmp 229), 122, "ref.go:198", #[⟨15, .data⟩], none⟩ rfl (by kernel_rfl) (Or.inl ⟨by rfl, _⟩) _; rotate_left; · (intro s h; (try dsimp only at h); go_simp; try with_reducible rfl)
       try simp only [Act.put,nA,nB,nC]
       refine' tQ 17 ⟨some 231, .move (.tmp 16), 122, "ref.go:198", #[], none⟩ rfl (by kernel_rfl) (Or.inl ⟨by rfl, _⟩) _; rotate_left; · (intro s h; (try dsimp only at h); go_simp; try with_reducible rfl)
       try simp only [Act.put,nA,nB,nC]
       refine' tQ 18 ⟨some 232, .binOp .add 122 (.tmp 230) (.tmp 231) 122, 122, "ref.go:198", #[⟨16, .data⟩, ⟨17, .data⟩], none⟩ rfl (by kernel_rfl) (Or.inl ⟨by rfl, _⟩) _; rotate_left; · (intro s h; (try dsimp only at h); go_simp; try with_reducible rfl)
       try simp only [Act.put,nA,nB,nC]
       refine' tQ 19 ⟨some 233, .move (.tmp 12), 128, "ref.go:198", #[], none⟩ rfl (by kernel_rfl) (Or.inl ⟨by rfl, _⟩) _; rotate_left; · (intro s h; (try dsimp only at h); go_simp; try with_reducible rfl)
       try simp only [Act.put,nA,nB,nC]
       refine' tQ 20 ⟨some 234, .indexAddr 128 (.tmp 233) (.const (.int .i64 4)), 0, "ref.go:198", #[⟨19, .data⟩], none⟩ rfl (by kernel_rfl) (Or.inl ⟨by rfl, _⟩) _; rotate_left; · (intro s h; (try dsimp only at h); go_simp; try with_reducible rfl)
       try simp only [Act.put,nA,nB,nC]
       refine' tQ 21 ⟨some 235, .load 122 (.tmp 234), 122, "ref.go:198", #[⟨20, .data⟩], none⟩ rfl (by kernel_rfl) (Or.inl ⟨by rfl, _⟩) _; rotate_left; · (intro s h; (try dsimp only at h); go_simp; try with_reducible rfl)
       try simp only [Act.put,nA,nB,nC]
       refine' tQ 22 ⟨some 236, .move (.tmp 12), 128, "ref.go:198", #[], none⟩ rfl (by kernel_rfl) (Or.inl ⟨by rfl, _⟩) _; rotate_left; · (intro s h; (try dsimp only at h); go_simp; try with_reducible rfl)
       try simp only [Act.put,nA,nB,nC]
       refine' tQ 23 ⟨some 237, .indexAddr 128 (.tmp 236) (.const (.int .i64 5)), 0, "ref.go:198", #[⟨22, .data⟩], none⟩ rfl (by kernel_rfl) (Or.inl ⟨by rfl, _⟩) _; rotate_left; · (intro s h; (try dsimp only at h); go_simp; try with_reducible rfl)
       try simp only [Act.put,nA,nB,nC]
       refine' tQ 24 ⟨some 238, .load 122 (.tmp 237), 122, "ref.go:198", #[⟨23, .data⟩], none⟩ rfl (by kernel_rfl) (Or.inl ⟨by rfl, _⟩) _; rotate_left; · (intro s h; (try dsimp only at h); go_simp; try with_reducible rfl)
       try simp only [Act.put,nA,nB,nC]
       refine' tQ 25 ⟨some 239, .move (.tmp 12), 128, "ref.go:198", #[], none⟩ rfl (by kernel_rfl) (Or.inl ⟨by rfl, _⟩) _; rotate_left; · (intro s h; (try dsimp only at h); go_simp; try with_reducible rfl)
       try simp only [Act.put,nA,nB,nC]
       refine' tQ 26 ⟨some 240, .indexAddr 128 (.tmp 239) (.const (.int .i64 6)), 0, "ref.go:198", #[⟨25, .data⟩], none⟩ rfl (by kernel_rfl) (Or.inl ⟨by rfl, _⟩) _; rotate_left; · (intro s h; (try dsimp only at h); go_simp; try with_reducible rfl)
       try simp only [Act.put,nA,nB,nC]
       refine' tQ 27 ⟨some 241, .load 122 (.tmp 240), 122, "ref.go:198", #[⟨26, .data⟩], none⟩ rfl (by kernel_rfl) (Or.inl ⟨by rfl, _⟩) _; rotate_left; · (intro s h; (try dsimp only at h); go_simp; try with_reducible rfl)
       try simp only [Act.put,nA,nB,nC]
       refine wpAnyH_ready (rs := [28]) (by kernel_rfl) (by simp) ?_
       refine AllReadyH.cons (o := ⟨some 242, .buildSlice 128 8 #[(0, .tmp 218), (1, .tmp 221), (2, .tmp 224), (3, .tmp 227), (4, .tmp 232), (5, .tmp 235), (6, .tmp 238), (7, .tmp 241)], 128, "ref.go:198", #[⟨4, .data⟩, ⟨7, .data⟩, ⟨10, .data⟩, ⟨13, .data⟩, ⟨18, .data⟩, ⟨21, .data⟩, ⟨24, .data⟩, ⟨27, .data⟩], none⟩) rfl (fun K hK => ?_) AllReadyH.nil
       go_simp
       refine hK.out _ _ ?_ (fun hHeld => ?_)
       ·exact ⟨cellA hHeld.1, cellA hHeld.2.1, cellA hHeld.2.2.1, cellA hHeld.2.2.2.1, cellA hHeld.2.2.2.2.1, cellA hHeld.2.2.2.2.2.1, cellA hHeld.2.2.2.2.2.2⟩
       clear hK K
       try simp only [Act.put,nA,nB,nC]
       refine' tQ 29 ⟨some 12, .assign (.tmp 242), 128, "ref.go:198", #[⟨28, .data⟩, ⟨0, .phase⟩, ⟨1, .phase⟩, ⟨2, .phase⟩, ⟨3, .phase⟩, ⟨4, .phase⟩, ⟨5, .phase⟩, ⟨6, .phase⟩, ⟨7, .phase⟩, ⟨8, .phase⟩, ⟨9, .phase⟩, ⟨10, .phase⟩, ⟨11, .phase⟩, ⟨12, .phase⟩, ⟨13, .phase⟩, ⟨14, .phase⟩, ⟨15, .phase⟩, ⟨16, .phase⟩, ⟨17, .phase⟩, ⟨18, .phase⟩, ⟨19, .phase⟩, ⟨20, .phase⟩, ⟨21, .phase⟩, ⟨22, .phase⟩, ⟨23, .phase⟩, ⟨24, .phase⟩, ⟨25, .phase⟩, ⟨26, .phase⟩, ⟨27, .phase⟩, ⟨28, .phase⟩], none⟩ rfl (by kernel_rfl) (Or.inl ⟨by rfl, _⟩) _; rotate_left; · (intro s h; (try dsimp only at h); go_simp; try with_reducible rfl)
       try simp only [Act.put,nA,nB,nC]
       refine wpAnyH_done (by kernel_rfl) ?_ _
       go_wp2_with fail
       have HN : Hid (roundS KN WN x = ⟨O1 + S2 + M2, x.a, x.b, x.c, x.d + O1, x.e, x.f, x.g⟩) := by
        show _ = _
        have e1 : O1 = x.h + KN + WN + bigE x.e + chF x.e x.f x.g := by
         rw [← HO1.out, ← HE1.out, ← HC1.out]
         show x.h + bigE x.e + chF x.e x.f x.g + KN + WN = _
         ac_rfl
        have e2 : O1 + S2 + M2 = O1 + (bigA x.a + majF x.a x.b x.c) := by
         rw [← HS2.out, ← HM2.out, BitVec.add_assoc]; rfl
        rw [e2, roundS, ← e1]
       refine ⟨⟨n + 1, roundS KN WN x, by omega, ?_, ?_, HR5.out.bel.drew.alloc HR5.out.bel.size _, by go_num⟩, by simp [intOf]; omega⟩
       ·show _ = roundS (shaKB.getD n 0) (m.getD n 0) (roundsN shaKB m n v)
        rw [HKN.out, HWN.out, ← Hx.out]
       ·show UR _ _ _
        rw [HN.out]
        exact UR.new _ ⟨O1 + S2 + M2, x.a, x.b, x.c, x.d + O1, x.e, x.f, x.g⟩ _ _ rfl
      ·obtain rfl : n = 64 := by omega
       have hS : m = schedN 48 (words 16 bs) := HS.out
       have HF : Hid (shaBlock v bs = addS v x) := by show shaBlock v bs = _; rw [Hx.out, hS]; rfl
       clear hS
       have HVH : Hid (UR wr (.slice (some ⟨gh, 0, none⟩) 8 ch) v.list) := (HH.out.below HB3.out).below HBe.out
       have HVr := HV
       have HB4 := Lib.hid (HB3.out.trans (HBe.out.mono HB3.out.size))
       clear HV HBe hc12 hlt hn Hx
       go_wp2_with fail
       rw [show ((64 : Nat) : Int) = 64 from rfl]
       obtain ⟨w4, hw4⟩ : ∃ w4 : World, w4 = wr := ⟨_, rfl⟩
       rw [← hw4] at HVH HVr HB4 ⊢
       clear hw4
       go_loopw [19, 20] (fun t i wi => ∃ (j : Nat), j ≤ 8 ∧ Hid (OwnU wi w4.heap.size t ((addS v x).list.take j)) ∧ Hid (Below w4.heap.size w4 wi) ∧ i = .int .i64 (j : Int)) (fun _ i _ => 8 - (intOf i).toNat)
       case atStart => exact ⟨0, by omega, OwnU.nil _ _, Below.refl _ _, rfl⟩
       case round =>
        obtain ⟨j, hj, HO, HBe, rfl⟩ := hrel
        by_cases hlt : j < 8
        ·have hc1 := cellB HBe.out (by obtain ⟨g, c, e, hg, _⟩ := HVH.out; cases e; exact hg) (HVH.out.at j _ rfl hlt)
         have hc2 := cellB HBe.out (by obtain ⟨g, c, e, hg, _⟩ := HVr.out; cases e; exact hg) (HVr.out.at j _ rfl hlt)
         have hg1 : gh < w4.heap.size := by obtain ⟨g, c, e, hg, _⟩ := HVH.out; cases e; exact hg
         have hg2 : g12 < w4.heap.size := by obtain ⟨g, c, e, hg, _⟩ := HVr.out; cases e; exact hg
         have hadd := add_list v x j hlt
         obtain ⟨A1, hA1⟩ : ∃ A1, v.list.getD j 0 = A1 := ⟨_, rfl⟩
         obtain ⟨A2, hA2⟩ : ∃ A2, x.list.getD j 0 = A2 := ⟨_, rfl⟩
         rw [hA1] at hc1 hadd
         rw [hA2] at hc2 hadd
         have Hadd := Lib.hid hadd
         clear hA1 hA2 hadd
         have p1 := addM A1 A2
         have p1' := addU A1 A2
         have hz := HBe.out.size
         have hl8 : ((addS v x).list.take j).length ≤ 1000000 := by rw [List.length_take, S8.list_length]; omega
         have l4 : (j : Int) < 8 := by omega
         go_upto_region 27 with fail
         refine wp_region_held_drew (S := fun W => W.cell? ⟨gh, j, none⟩ = some (.int .u32 (toU A1)) ∧ W.cell? ⟨g12, j, none⟩ = some (.int .u32 (toU A2))) (by kernel_rfl) ⟨hc1, hc2⟩ (fun hHeld => ?_)
         set_option maxRecDepth 100000 in
         refine' tQ 0 ⟨some 247, .move (.tmp 19), 128, "ref.go:202", #[], none⟩ rfl (by kernel_rfl) (Or.inl ⟨by rfl, _⟩) _; rotate_left; · (intro s h; (try dsimp only at h); go_simp; try with_reducible rfl)
         try simp only [Act.put,nA,nB,nC]
         refine' tQ 1 ⟨some 248, .move (.tmp 0), 128, "ref.go:202", #[], none⟩ rfl (by kernel_rfl) (Or.inl ⟨by rfl, _⟩) _; rotate_left; · (intro s h; (try dsimp only at h); go_simp; try with_reducible rfl)
         try simp only [Act.put,nA,nB,nC]
         refine' tQ 2 ⟨some 249, .move (.tmp 20), 3, "ref.go:202", #[], none⟩ rfl (by kernel_rfl) (Or.inl ⟨by rfl, _⟩) _; rotate_left; · (intro s h; (try dsimp only at h); go_simp; try with_reducible rfl)
         try simp only [Act.put,nA,nB,nC]
         refine' tQ 3 ⟨some 250, .indexAddr 128 (.tmp 248) (.tmp 249), 0, "ref.go:202", #[⟨1, .data⟩, ⟨2, .data⟩], none⟩ rfl (by kernel_rfl) (Or.inl ⟨by rfl, _⟩) _; rotate_left; · (intro s h; (try dsimp only at h); go_simp; try with_reducible rfl)
         try simp only [Act.put,nA,nB,nC]
         refine' tQ 4 ⟨some 251, .load 122 (.tmp 250), 122, "ref.go:202", #[⟨3, .data⟩], none⟩ rfl (by kernel_rfl) (Or.inl ⟨by rfl, _⟩) _; rotate_left; · (intro s h; (try dsimp only at h); go_simp; try with_reducible rfl)
         try simp only [Act.put,nA,nB,nC]
         refine' tQ 5 ⟨some 252, .move (.tmp 12), 128, "ref.go:202", #[], none⟩ rfl (by kernel_rfl) (Or.inl ⟨by rfl, _⟩) _; rotate_left; · (intro s h; (try dsimp only at h); go_simp; try with_reducible rfl)
         try simp only [Act.put,nA,nB,nC]
         refine' tQ 6 ⟨some 253, .move (.tmp 20), 3, "ref.go:202", #[], none⟩ rfl (by kernel_rfl) (Or.inl ⟨by rfl, _⟩) _; rotate_left; · (intro s h; (try dsimp only at h); go_simp; try with_reducible rfl)
         try simp only [Act.put,nA,nB,nC]
         refine' tQ 7 ⟨some 254, .indexAddr 128 (.tmp 252) (.tmp 253), 0, "ref.go:202", #[⟨5, .data⟩, ⟨6, .data⟩], none⟩ rfl (by kernel_rfl) (Or.inl ⟨by rfl, _⟩) _; rotate_left; · (intro s h; (try dsimp only at h); go_simp; try with_reducible rfl)
         try simp only [Act.put,nA,nB,nC]
         refine' tQ 8 ⟨some 255, .load 122 (.tmp 254), 122, "ref.go:202", #[⟨7, .data⟩], none⟩ rfl (by kernel_rfl) (Or.inl ⟨by rfl, _⟩) _; rotate_left; · (intro s h; (try dsimp only at h); go_simp; try with_reducible rfl)
         try simp only [Act.put,nA,nB,nC]
         refine' tQ 9 ⟨some 256, .binOp .add 122 (.tmp 251) (.tmp 255) 122, 122, "ref.go:202", #[⟨4, .data⟩, ⟨8, .data⟩], none⟩ rfl (by kernel_rfl) (Or.inl ⟨by rfl, _⟩) _; rotate_left; · (intro s h; (try dsimp only at h); go_simp; try with_reducible rfl)
         try simp only [Act.put,nA,nB,nC]
         refine wpAnyH_ready (rs := [10]) (by kernel_rfl) (by simp) ?_
         refine AllReadyH.cons (o := ⟨some 257, .buildSlice 128 1 #[(0, .tmp 256)], 128, "ref.go:202", #[⟨9, .data⟩], none⟩) rfl (fun K hK => ?_) AllReadyH.nil
         go_simp
         refine hK.out _ _ ?_ (fun hHeld => ?_)
         ·exact ⟨cellA hHeld.1, cellA hHeld.2⟩
         clear hK K
         try simp only [Act.put,nA,nB,nC]
         refine wpAnyH_ready (rs := [11]) (by kernel_rfl) (by simp) ?_
         refine AllReadyH.cons (o := ⟨some 258, .call ⟨.builtin .append, #[.tmp 247, .tmp 257], #[128, 128]⟩, 128, "ref.go:202", #[⟨0, .data⟩, ⟨10, .data⟩], none⟩) rfl (fun K hK => ?_) AllReadyH.nil
         (set_option maxRecDepth 100000 in refine step_of rfl (wp_appU wr _ (A1 + A2) _ _ rfl w4.heap.size u19 ((addS v x).list.take j) rfl HO.out ((Below.refl _ _).drew.alloc (Nat.le_refl _) _) 1 _ rfl (by show (wr.alloc _).cell? _ = _; rw [heap_cell (heap_alloc_new _ _)]; rfl) hl8 hz ?_); intro v2 w2 hv2 hb2 hkp)
         refine hK.out _ _ ?_ (fun hHeld => ?_)
         ·exact ⟨cellB hb2 hg1 hHeld.1, cellB hb2 hg2 hHeld.2⟩
         clear hK K
         try simp only [Act.put,nA,nB,nC]
         refine' tQ 12 ⟨some 19, .assign (.tmp 258), 128, "ref.go:202", #[⟨11, .data⟩, ⟨11, .chain⟩, ⟨0, .phase⟩, ⟨1, .phase⟩, ⟨2, .phase⟩, ⟨3, .phase⟩, ⟨4, .phase⟩, ⟨5, .phase⟩, ⟨6, .phase⟩, ⟨7, .phase⟩, ⟨8, .phase⟩, ⟨9, .phase⟩, ⟨10, .phase⟩, ⟨11, .phase⟩], none⟩ rfl (by kernel_rfl) (Or.inl ⟨by rfl, _⟩) _; rotate_left; · (intro s h; (try dsimp only at h); go_simp; try with_reducible rfl)
         try simp only [Act.put,nA,nB,nC]
         refine wpAnyH_done (by kernel_rfl) ?_ _
         go_wp2_with fail
         refine ⟨⟨j + 1, by omega, ?_, HBe.out.trans (((Below.refl _ _).drew.alloc hz _).trans hb2), by go_num⟩, by simp [intOf]; omega⟩
         have hl : j < (addS v x).list.length := hlt
         have e : (addS v x).list.take (j + 1) = (addS v x).list.take j ++ [A1 + A2] := by
          rw [List.take_succ_eq_append_getElem hl, ← Hadd.out]
          simp [List.getD, hl]
         rw [e]
         exact hv2
        ·obtain rfl : j = 8 := by omega
         go_wp2_with fail
         go_ret
         refine ⟨_, rfl, ?_, HB4.out.trans (HBe.out.mono HB4.out.size)⟩
         rw [HF.out]
         have h1 := HO.out.mono HB4.out.size
         rw [List.take_of_length_le (by rw [S8.list_length]; omega)] at h1
         exact h1
end Go.Proofs.Ytihbhpggpnmifaa
