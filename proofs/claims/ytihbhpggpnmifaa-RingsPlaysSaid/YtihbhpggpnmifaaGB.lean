/-
 SHA-256: the walk of state.block.
-/
import Derived.Test.YtihbhpggpnmifaaGA
import Derived.StillTailTactics
set_option linter.unusedSimpArgs false
set_option linter.unusedVariables false
namespace Go.Proofs.Ytihbhpggpnmifaa
open Go.RowKit Go.Lib Hw
def wv (x : BitVec 32) : Value := .int .u32 (toU x)
def wRow (m : List (BitVec 32)) : List Value := (m ++ List.replicate (64 - m.length) 0#32).map wv
section
variable {P : Program} {ops : Array Oper} {rest : List Oper} {op : Oper} {a : Act} {w : World} {Q : Exit → Act → World → Prop}
theorem wpList_boxB (hg : op.guard = none) (t : TypeId) (x : Operand) (ho : op.op = .box t x) (N : Nat) (hN : w.heap.size = N) (cells : Array Value) (hx : (a.eval x).cells = cells)
  (h : ∀ W, W.heap[N]? = some (.cells cells t (0, 0)) → Below N w W → W.heap.size = N + 1 → wpList P ops Q rest (a.put op.dst (.pointer (some ⟨N, 0, none⟩))) W) : wpList P ops Q (op :: rest) a w := by
 subst hN hx
 refine wpList_plain hg fun K hK => ?_
 unfold Oper.wp execOp
 simp only [ho, Sem.run_bind, Instr.box, newVar, newRow, run_newObj_alloc, Sem.run_pure, Result.andThen_ok]
 exact hK _ _ (h _ (heap_new w _) ((Below.refl _ _).alloc (Nat.le_refl _) _) (by simp))
theorem wpList_allocB (hg : op.guard = none) (t : TypeId) (ho : op.op = .alloc t) (N : Nat) (hN : w.heap.size = N) (z : Value) (hz : ∀ w, (zeroValue t).run P w = .ok z w)
  (h : ∀ W, W.heap[N]? = some (.cells z.cells t (0, 0)) → Below N w W → W.heap.size = N + 1 → wpList P ops Q rest (a.put op.dst (.pointer (some ⟨N, 0, none⟩))) W) : wpList P ops Q (op :: rest) a w := by
 subst hN
 refine wpList_plain hg fun K hK => ?_
 unfold Oper.wp execOp
 simp only [ho, Sem.run_bind, Instr.alloc, hz, newVar, newRow, run_newObj_alloc, Sem.run_pure, Result.andThen_ok]
 exact hK _ _ (h _ (heap_new w _) ((Below.refl _ _).alloc (Nat.le_refl _) _) (by simp))
end
theorem zero_W (w : World) : (zeroValue 147).run Try.prog w = .ok (.agg (wRow []).toArray) w := by kernel_rfl
theorem wRow_get (m : List (BitVec 32)) (k : Nat) (h : k < m.length) : (wRow m)[k]? = some (wv m[k]) := by
 unfold wRow
 rw [List.getElem?_map, List.getElem?_append_left h, List.getElem?_eq_getElem h]; rfl
theorem wRow_snoc (m : List (BitVec 32)) (x : BitVec 32) (h : m.length < 64) : (wRow m).toArray.setIfInBounds m.length (wv x) = (wRow (m ++ [x])).toArray := by
 rw [List.setIfInBounds_toArray]
 congr 1
 unfold wRow
 have e : 64 - m.length = (64 - (m ++ [x]).length) + 1 := by simp; omega
 rw [e, List.replicate_succ, List.map_append, List.map_cons, List.set_append_right _ _ (by simp)]
 simp
theorem shl24 (X : BitVec 32) : toU X * 16777216 % 4294967296 = toU (X <<< 24) := toU_shl X 24
theorem shl16 (X : BitVec 32) : toU X * 65536 % 4294967296 = toU (X <<< 16) := toU_shl X 16
theorem shl8 (X : BitVec 32) : toU X * 256 % 4294967296 = toU (X <<< 8) := toU_shl X 8
theorem wrapU (X : BitVec 32) : IntKind.u32.wrap (toU X) = toU X := by have := toU_bd X; exact IntWalk.u32_in _ (by omega)
theorem wrap24 (X : BitVec 32) : IntKind.u32.wrap (toU X * 16777216) = toU (X <<< 24) := by rw [IntKind.wrap_u32]; exact shl24 X
theorem wrap16 (X : BitVec 32) : IntKind.u32.wrap (toU X * 65536) = toU (X <<< 16) := by rw [IntKind.wrap_u32]; exact shl16 X
theorem wrap8 (X : BitVec 32) : IntKind.u32.wrap (toU X * 256) = toU (X <<< 8) := by rw [IntKind.wrap_u32]; exact shl8 X
theorem rot_q (X : BitVec 32) (n : Nat) (k : Int) (w : World) (hn : 0 < n ∧ n < 32) (hk : bits .and .u64 (IntKind.u64.wrap k) 31 = ((32 - n : Nat) : Int)) :
  Calls Try.prog 95 #[.int .u32 (toU X), .int .i64 k] w fun e w' => e = .returned (.int .u32 (toU (rotr n X))) ∧ w' = w :=
 (rotr_any X n k w hn hk).mono fun e w' h => ⟨h.1, h.2.symm⟩
theorem addU (x y : BitVec 32) : IntKind.u32.wrap (toU x + toU y) = toU (x + y) := by
 rw [IntKind.wrap_u32]
 unfold toU
 rw [BitVec.toNat_add]
 omega
theorem shr3 (X : BitVec 32) : toU X / (8 : Int) = toU (X >>> 3) := by rw [toU_shift]; rfl
theorem shr10 (X : BitVec 32) : toU X / (1024 : Int) = toU (X >>> 10) := by rw [toU_shift]; rfl
theorem word_cell {W : World} {b : Nat} {m : List (BitVec 32)} {t : TypeId} (h : W.heap[b]? = some (.cells (wRow m).toArray t (0, 0))) (j : Nat) (X : BitVec 32) (hX : X = m.getD j 0) (hj : j < m.length) :
  W.cell? ⟨b, j, none⟩ = some (.int .u32 (toU X)) := by
 rw [heap_cell h, List.getElem?_toArray, wRow_get m j hj, hX]
 simp [wv, List.getD, List.getElem?_eq_getElem hj]
theorem end_cell {W : World} {b : Nat} {m : List (BitVec 32)} {t : TypeId} {x : BitVec 32} (hm : m.length < 64) (h : W.heap[b]? = some (.cells ((wRow m).toArray.setIfInBounds m.length (wv x)) t (0, 0))) :
  W.cell? ⟨b, m.length, none⟩ = some (.int .u32 (toU x)) := by
 rw [wRow_snoc m x hm] at h
 exact word_cell h m.length x (by simp [List.getD]) (by simp)
theorem step0 (Y X : BitVec 32) : (toU Y + bits .xor .u32 (toU (rotr 7 X ^^^ rotr 18 X)) (toU X / (8 : Int))) % 4294967296 = toU (Y + sg0 X) := by
 rw [shr3, bits_xor32, ← IntKind.wrap_u32, addU]; rfl
theorem step1 (Y X : BitVec 32) : (toU Y + bits .xor .u32 (toU (rotr 17 X ^^^ rotr 19 X)) (toU X / (1024 : Int))) % 4294967296 = toU (Y + sg1 X) := by
 rw [shr10, bits_xor32, ← IntKind.wrap_u32, addU]; rfl
theorem shaKs_get (n : Nat) (hn : n < 64) : shaKs[n]? = some (.int .u32 (toU (shaKB.getD n 0))) := by
 have h : ∀ n, n < 64 → shaKs[n]? = some (.int .u32 (toU (shaKB.getD n 0))) := by
  intro n hn
  have hl : n < shaK.length := hn
  have hb : ∀ x ∈ shaK, 0 ≤ x ∧ x < 4294967296 := by decide +kernel
  have hx := hb _ (List.getElem_mem hl)
  simp only [shaKs, List.getElem?_toArray, List.getElem?_map, List.getElem?_eq_getElem hl, Option.map_some, shaKB, List.getD]
  rw [Option.getD_some, toU_ofInt hx.1 hx.2]
 exact h n hn
def VB (W : World) (b : Nat) (x : S8) : Prop := W.heap[b]? = some (.cells #[wv x.a, wv x.b, wv x.c, wv x.d, wv x.e, wv x.f, wv x.g, wv x.h] 139 (0, 0))
theorem VB.cells {W : World} {b : Nat} {x : S8} (h : VB W b x) : W.cell? ⟨b, 0, none⟩ = some (.int .u32 (toU x.a)) ∧ W.cell? ⟨b, 1, none⟩ = some (.int .u32 (toU x.b)) ∧ W.cell? ⟨b, 2, none⟩ = some (.int .u32 (toU x.c)) ∧ W.cell? ⟨b, 3, none⟩ = some (.int .u32 (toU x.d)) ∧
  W.cell? ⟨b, 4, none⟩ = some (.int .u32 (toU x.e)) ∧ W.cell? ⟨b, 5, none⟩ = some (.int .u32 (toU x.f)) ∧ W.cell? ⟨b, 6, none⟩ = some (.int .u32 (toU x.g)) ∧ W.cell? ⟨b, 7, none⟩ = some (.int .u32 (toU x.h)) :=
 ⟨by rw [heap_cell h]; rfl, by rw [heap_cell h]; rfl, by rw [heap_cell h]; rfl, by rw [heap_cell h]; rfl, by rw [heap_cell h]; rfl, by rw [heap_cell h]; rfl, by rw [heap_cell h]; rfl, by rw [heap_cell h]; rfl⟩
theorem notU (X : BitVec 32) : bits .xor .u32 IntKind.u32.max (toU X) = toU (~~~ X) := by rw [toU_max, bits_xor32, allOnes_xor]
theorem addM (x y : BitVec 32) : (toU x + toU y) % 4294967296 = toU (x + y) := by rw [← IntKind.wrap_u32, addU]
theorem rot_ands : ∀ n : Fin 32, n.val ≠ 0 → bits .and .u64 (IntKind.u64.wrap (-(n.val : Int))) 31 = ((32 - n.val : Nat) : Int) := by decide +kernel
theorem rot_neg (X : BitVec 32) (k : Int) (w : World) (hk : -32 < k ∧ k < 0) : Calls Try.prog 95 #[.int .u32 (toU X), .int .i64 k] w fun e w' => e = .returned (.int .u32 (toU (rotr (-k).toNat X))) ∧ w = w' := by
 have h1 : (-k).toNat < 32 := by omega
 have h2 := rot_ands ⟨(-k).toNat, h1⟩ (by show (-k).toNat ≠ 0; omega)
 have h3 : (-(((-k).toNat : Nat) : Int)) = k := by omega
 simp only [h3] at h2
 exact rotr_any X (-k).toNat k w (by omega) h2
theorem chW (Y e f g : BitVec 32) : (toU Y + bits .xor .u32 (toU (e &&& f)) (bits .and .u32 (bits .xor .u32 (if IntKind.u32.signed = true then -1 else IntKind.u32.max) (toU e)) (toU g))) % 4294967296 = toU (Y + chF e f g) := by
 rw [if_neg (by decide), notU, bits_and32, bits_xor32, addM]; rfl
theorem set8 {W : World} {b : Nat} {t : TypeId} {c0 c1 c2 c3 c4 c5 c6 c7 : Value} (h : W.heap[b]? = some (.cells #[c0, c1, c2, c3, c4, c5, c6, c7] t (0, 0))) (d0 d1 d2 d3 d4 d5 d6 d7 : Value) :
  ((((((((W.setCell ⟨b, 0, none⟩ d0).setCell ⟨b, 1, none⟩ d1).setCell ⟨b, 2, none⟩ d2).setCell ⟨b, 3, none⟩ d3).setCell ⟨b, 4, none⟩ d4).setCell ⟨b, 5, none⟩ d5).setCell ⟨b, 6, none⟩ d6).setCell ⟨b, 7, none⟩ d7).heap[b]? = some (.cells #[d0, d1, d2, d3, d4, d5, d6, d7] t (0, 0)) ∧ Below b W ((((((((W.setCell ⟨b, 0, none⟩ d0).setCell ⟨b, 1, none⟩ d1).setCell ⟨b, 2, none⟩ d2).setCell ⟨b, 3, none⟩ d3).setCell ⟨b, 4, none⟩ d4).setCell ⟨b, 5, none⟩ d5).setCell ⟨b, 6, none⟩ d6).setCell ⟨b, 7, none⟩ d7) := by
 have h0 : (W.setCell ⟨b, 0, none⟩ d0).heap[b]? = some (.cells #[d0, c1, c2, c3, c4, c5, c6, c7] t (0, 0)) := heap_set (o := 0) h d0
 have h1 : ((W.setCell ⟨b, 0, none⟩ d0).setCell ⟨b, 1, none⟩ d1).heap[b]? = some (.cells #[d0, d1, c2, c3, c4, c5, c6, c7] t (0, 0)) := heap_set (o := 1) h0 d1
 have h2 : (((W.setCell ⟨b, 0, none⟩ d0).setCell ⟨b, 1, none⟩ d1).setCell ⟨b, 2, none⟩ d2).heap[b]? = some (.cells #[d0, d1, d2, c3, c4, c5, c6, c7] t (0, 0)) := heap_set (o := 2) h1 d2
 have h3 : ((((W.setCell ⟨b, 0, none⟩ d0).setCell ⟨b, 1, none⟩ d1).setCell ⟨b, 2, none⟩ d2).setCell ⟨b, 3, none⟩ d3).heap[b]? = some (.cells #[d0, d1, d2, d3, c4, c5, c6, c7] t (0, 0)) := heap_set (o := 3) h2 d3
 have h4 : (((((W.setCell ⟨b, 0, none⟩ d0).setCell ⟨b, 1, none⟩ d1).setCell ⟨b, 2, none⟩ d2).setCell ⟨b, 3, none⟩ d3).setCell ⟨b, 4, none⟩ d4).heap[b]? = some (.cells #[d0, d1, d2, d3, d4, c5, c6, c7] t (0, 0)) := heap_set (o := 4) h3 d4
 have h5 : ((((((W.setCell ⟨b, 0, none⟩ d0).setCell ⟨b, 1, none⟩ d1).setCell ⟨b, 2, none⟩ d2).setCell ⟨b, 3, none⟩ d3).setCell ⟨b, 4, none⟩ d4).setCell ⟨b, 5, none⟩ d5).heap[b]? = some (.cells #[d0, d1, d2, d3, d4, d5, c6, c7] t (0, 0)) := heap_set (o := 5) h4 d5
 have h6 : (((((((W.setCell ⟨b, 0, none⟩ d0).setCell ⟨b, 1, none⟩ d1).setCell ⟨b, 2, none⟩ d2).setCell ⟨b, 3, none⟩ d3).setCell ⟨b, 4, none⟩ d4).setCell ⟨b, 5, none⟩ d5).setCell ⟨b, 6, none⟩ d6).heap[b]? = some (.cells #[d0, d1, d2, d3, d4, d5, d6, c7] t (0, 0)) := heap_set (o := 6) h5 d6
 have h7 : ((((((((W.setCell ⟨b, 0, none⟩ d0).setCell ⟨b, 1, none⟩ d1).setCell ⟨b, 2, none⟩ d2).setCell ⟨b, 3, none⟩ d3).setCell ⟨b, 4, none⟩ d4).setCell ⟨b, 5, none⟩ d5).setCell ⟨b, 6, none⟩ d6).setCell ⟨b, 7, none⟩ d7).heap[b]? = some (.cells #[d0, d1, d2, d3, d4, d5, d6, d7] t (0, 0)) := heap_set (o := 7) h6 d7
 exact ⟨h7, (((((((((Below.refl b W).setCell (p := ⟨b, 0, none⟩) (Nat.le_refl b) d0).setCell (p := ⟨b, 1, none⟩) (Nat.le_refl b) d1).setCell (p := ⟨b, 2, none⟩) (Nat.le_refl b) d2).setCell (p := ⟨b, 3, none⟩) (Nat.le_refl b) d3).setCell (p := ⟨b, 4, none⟩) (Nat.le_refl b) d4).setCell (p := ⟨b, 5, none⟩) (Nat.le_refl b) d5).setCell (p := ⟨b, 6, none⟩) (Nat.le_refl b) d6).setCell (p := ⟨b, 7, none⟩) (Nat.le_refl b) d7)⟩
theorem setL_snoc (l : List Value) (o : Nat) (cs : Array Value) (y : Value) : setL cs o (l ++ [y]) = (setL cs o l).setIfInBounds (o + l.length) y := by
 induction l generalizing o cs with
 | nil => rfl
 | cons a l ih =>
  show setL (cs.setIfInBounds o a) (o + 1) (l ++ [y]) = _
  rw [ih]
  show _ = (setL (cs.setIfInBounds o a) (o + 1) l).setIfInBounds _ _
  congr 1
  rw [List.length_cons]; omega
theorem S8.list_length (v : S8) : v.list.length = 8 := rfl
theorem add_list (v x : S8) (i : Nat) (hi : i < 8) : (addS v x).list.getD i 0 = v.list.getD i 0 + x.list.getD i 0 := by
 match i, hi with
 | 0, _ => rfl
 | 1, _ => rfl
 | 2, _ => rfl
 | 3, _ => rfl
 | 4, _ => rfl
 | 5, _ => rfl
 | 6, _ => rfl
 | 7, _ => rfl
def lay8 (cs : Array Value) (o : Nat) (y : S8) (i : Nat) : Array Value := setL cs o ((y.list.take i).map wv)
theorem lay8_succ (cs : Array Value) (o : Nat) (y : S8) (i : Nat) (hi : i < 8) : lay8 cs o y (i + 1) = (lay8 cs o y i).setIfInBounds (o + i) (wv (y.list.getD i 0)) := by
 unfold lay8
 have hl : i < y.list.length := hi
 rw [List.take_succ_eq_append_getElem hl, List.map_append, List.map_cons, List.map_nil, setL_snoc, List.length_map, List.length_take, Nat.min_eq_left (by omega)]
 simp [List.getD, List.getElem?_eq_getElem hl]
theorem lay8_get (cs : Array Value) (o : Nat) (y : S8) (i : Nat) (hi : i ≤ 8) (ho : o + 8 ≤ cs.size) : (lay8 cs o y i)[o + i]? = cs[o + i]? := by
 unfold lay8
 rw [setL_get _ _ _ (by rw [List.length_map, List.length_take]; omega), if_neg (by rw [List.length_map, List.length_take, S8.list_length]; omega)]
theorem VB.at {W : World} {b : Nat} {x : S8} (h : VB W b x) (j : Nat) (hj : j < 8) : W.cell? ⟨b, j, none⟩ = some (.int .u32 (toU (x.list.getD j 0))) := by
 obtain ⟨h0, h1, h2, h3, h4, h5, h6, h7⟩ := VB.cells h
 match j, hj with
 | 0, _ => exact h0
 | 1, _ => exact h1
 | 2, _ => exact h2
 | 3, _ => exact h3
 | 4, _ => exact h4
 | 5, _ => exact h5
 | 6, _ => exact h6
 | 7, _ => exact h7
set_option maxHeartbeats 4000000 in
theorem block_any (p o : Nat) (v : S8) (bs : List UInt8) (cs : Array Value) (t : TypeId) (w : World) (hb : bs.length = 64) (hp : Hid (w.heap[p]? = some (.cells cs t (0, 0)))) (ho : o + 8 ≤ cs.size)
  (hv : ∀ j (h : j < 8), cs[o + j]? = some (wv (v.list[j]'h))) :
  Calls Try.prog 93 #[.pointer (some ⟨p, o, none⟩), .agg (bs.map bv).toArray] w fun e w' => e = .returned (.tuple #[]) ∧ w'.heap[p]? = some (.cells (lay8 cs o (shaBlock v bs) 8) t (0, 0)) ∧ Kept p w w' := by
 set_option maxRecDepth 100000 in
 go_enter Try.func93, Try.ntmps93
 go_upto_region 0 with fail
 refine wp_region_list ?_
 refine wpList_boxB rfl 144 _ rfl w.heap.size rfl (bs.map bv).toArray rfl ?_
 intro w1 hb1 hB1 hz1
 have Hb1 := Lib.hid hb1
 have HB1 := Lib.hid hB1
 clear hb1 hB1
 go_upto_region 1 with fail
 refine wp_region_list ?_
 refine wpList_allocB rfl 147 rfl (w.heap.size + 1) hz1 (.agg (wRow []).toArray) zero_W ?_
 intro w2 hm2 hB2 hz2
 have Hm2 := Lib.hid hm2
 have Hb2 := Lib.hid (heap_below Hb1.out hB2 (by omega))
 have HB2 := Lib.hid (HB1.out.trans (hB2.mono (by omega)))
 have Hp2 := Lib.hid (heap_below hp.out HB2.out (heap_lt hp.out))
 clear hm2 hB2 Hb1 HB1
 go_wp2_with fail
 go_loopw [18] (fun i wr => ∃ (k : Nat), k ≤ 16 ∧ Hid (wr.heap[w.heap.size + 1]? = some (.cells (wRow (words k bs)).toArray 147 (0, 0))) ∧ Hid (Below (w.heap.size + 1) w2 wr) ∧ i = .int .i64 (k : Int)) (fun i _ => 16 - (intOf i).toNat)
 case atStart => exact ⟨0, by omega, Hm2, Below.refl _ _, rfl⟩
 case round =>
  obtain ⟨k, hk, Hm, HB, rfl⟩ := hrel
  by_cases hlt : k < 16
  ·have Hb3 := Lib.hid (heap_below Hb2.out HB.out (by omega))
   have byte : ∀ j, (hj : j < 4) → ∃ X : BitVec 32, X = ext8 (bs.getD (4 * k + j) 0) ∧ wr.cell? ⟨w.heap.size, 4 * k + j, none⟩ = some (.int .u8 (toU X)) := by
    intro j hj
    refine ⟨_, rfl, ?_⟩
    rw [heap_cell Hb3.out, ← toU_ext8]
    have hl : 4 * k + j < bs.length := by omega
    simp [List.getElem?_eq_getElem hl, bv, List.getD]
   obtain ⟨X0, hX0, c0⟩ := byte 0 (by omega)
   obtain ⟨X1, hX1, c1⟩ := byte 1 (by omega)
   obtain ⟨X2, hX2, c2⟩ := byte 2 (by omega)
   obtain ⟨X3, hX3, c3⟩ := byte 3 (by omega)
   rw [Nat.add_zero] at hX0 c0
   have hz := heap_lt Hm.out
   have hml : (words k bs).length = k := words_length k bs
   have m0 : wr.cell? ⟨w.heap.size + 1, k, none⟩ = some (.int .u32 0) := by
    rw [heap_cell Hm.out]
    simp only [wRow, List.getElem?_toArray]
    rw [List.getElem?_map, List.getElem?_append_right (by omega), List.getElem?_replicate, if_pos (by omega)]; rfl
   have m1 := heap_free Hm.out k
   have HX := Lib.hid (And.intro hX0 (And.intro hX1 (And.intro hX2 hX3)))
   have Hml := Lib.hid hml
   clear byte hX0 hX1 hX2 hX3 hml
   have u0 := wrapU X0
   have u1 := wrapU X1
   have u2 := wrapU X2
   have u3 := wrapU X3
   have s0 := wrap24 X0
   have s1 := wrap16 X1
   have s2 := wrap8 X2
   have o1 := bits_or32 (X0 <<< 24) (X1 <<< 16)
   have o2 := bits_or32 (X0 <<< 24 ||| X1 <<< 16) (X2 <<< 8)
   have o3 := bits_or32 (X0 <<< 24 ||| X1 <<< 16 ||| X2 <<< 8) X3
   have a0 : IntKind.i64.wrap (4 * (k : Int)) = 4 * (k : Int) := IntWalk.i64_in _ (by omega)
   have a1 : IntKind.i64.wrap (4 * (k : Int) + 1) = 4 * (k : Int) + 1 := IntWalk.i64_in _ (by omega)
   have a2 : IntKind.i64.wrap (4 * (k : Int) + 2) = 4 * (k : Int) + 2 := IntWalk.i64_in _ (by omega)
   have a3 : IntKind.i64.wrap (4 * (k : Int) + 3) = 4 * (k : Int) + 3 := IntWalk.i64_in _ (by omega)
   have n0 : (4 * (k : Int)).toNat = 4 * k := by omega
   have n1 : (4 * (k : Int) + 1).toNat = 4 * k + 1 := by omega
   have n2 : (4 * (k : Int) + 2).toNat = 4 * k + 2 := by omega
   have n3 : (4 * (k : Int) + 3).toNat = 4 * k + 3 := by omega
   have l0 : 4 * (k : Int) < 64 := by omega
   have l1 : 4 * (k : Int) + 1 < 64 := by omega
   have l2 : 4 * (k : Int) + 2 < 64 := by omega
   have l3 : 4 * (k : Int) + 3 < 64 := by omega
   have e0 : 0 ≤ 4 * (k : Int) := by omega
   have e1 : 0 ≤ 4 * (k : Int) + 1 := by omega
   have e2 : 0 ≤ 4 * (k : Int) + 2 := by omega
   have e3 : 0 ≤ 4 * (k : Int) + 3 := by omega
   have l4 : (k : Int) < 64 := by omega
   go_upto_region 5 with fail
   set_option maxRecDepth 100000 in go_still_tail 31, (by kernel_rfl)
   change wpList _ _ _ _ _ wr.drew
   go_wp2_with fail
   go_roundw
   case rel =>
    refine ⟨k + 1, by omega, ?_, HB.out.drew.setCell (by show _ ≤ w.heap.size + 1; omega) _, by go_num⟩
    have h1 := heap_set (o := k) Hm.out (.int .u32 (toU (X0 <<< 24 ||| X1 <<< 16 ||| X2 <<< 8 ||| X3)))
    have h2 := wRow_snoc (words k bs) (X0 <<< 24 ||| X1 <<< 16 ||| X2 <<< 8 ||| X3) (by rw [Hml.out]; omega)
    rw [Hml.out] at h2
    have h3 : words (k + 1) bs = words k bs ++ [X0 <<< 24 ||| X1 <<< 16 ||| X2 <<< 8 ||| X3] := by
     rw [HX.out.1, HX.out.2.1, HX.out.2.2.1, HX.out.2.2.2]; rfl
    show _ = _
    rw [h3, ← h2]
    exact h1
   case measure => simp [intOf]; omega
  ·have : k = 16 := by omega
   subst this
   clear hk hlt
   go_wp2_with fail
   go_loopw [6] (fun i wr => ∃ (L : Nat) (m : List (BitVec 32)), 16 ≤ L ∧ L ≤ 64 ∧ m.length = L ∧ Hid (m = schedN (L - 16) (words 16 bs)) ∧ Hid (wr.heap[w.heap.size + 1]? = some (.cells (wRow m).toArray 147 (0, 0))) ∧ Hid (Below (w.heap.size + 1) w2 wr) ∧ i = .int .i64 (L : Int)) (fun i _ => 64 - (intOf i).toNat)
   case atStart => exact ⟨16, _, by omega, by omega, words_length _ _, rfl, Hm, HB, rfl⟩
   case round =>
    clear Hm HB
    obtain ⟨L, m, hL1, hL2, hml, HS, Hm, HB, rfl⟩ := hrel
    by_cases hlt : L < 64
    ·have word : ∀ j, (hj : j < L) → ∃ X : BitVec 32, X = m.getD j 0 ∧ wr.cell? ⟨w.heap.size + 1, j, none⟩ = some (.int .u32 (toU X)) := by
      intro j hj
      refine ⟨_, rfl, ?_⟩
      rw [heap_cell Hm.out]
      have hl : j < m.length := by omega
      rw [List.getElem?_toArray, wRow_get m j hl]
      simp [wv, List.getD, List.getElem?_eq_getElem hl]
     obtain ⟨X16, h16, c16⟩ := word (L - 16) (by omega)
     obtain ⟨X7, h7, c7⟩ := word (L - 7) (by omega)
     obtain ⟨X15, h15, c15⟩ := word (L - 15) (by omega)
     obtain ⟨X2, h2, c2⟩ := word (L - 2) (by omega)
     have m0 : wr.cell? ⟨w.heap.size + 1, L, none⟩ = some (.int .u32 0) := by
      rw [heap_cell Hm.out]
      simp only [wRow, List.getElem?_toArray]
      rw [List.getElem?_map, List.getElem?_append_right (by omega), List.getElem?_replicate, if_pos (by omega)]; rfl
     have m1 := heap_free Hm.out L
     have hz := heap_lt Hm.out
     have HX := Lib.hid (And.intro h16 (And.intro h7 (And.intro h15 h2)))
     clear word h16 h7 h15 h2
     have a2 : IntKind.i64.wrap ((L : Int) - 2) = (L : Int) - 2 := IntWalk.i64_in _ (by omega)
     have a7 : IntKind.i64.wrap ((L : Int) - 7) = (L : Int) - 7 := IntWalk.i64_in _ (by omega)
     have a15 : IntKind.i64.wrap ((L : Int) - 15) = (L : Int) - 15 := IntWalk.i64_in _ (by omega)
     have a16 : IntKind.i64.wrap ((L : Int) - 16) = (L : Int) - 16 := IntWalk.i64_in _ (by omega)
     have n2 : ((L : Int) - 2).toNat = L - 2 := by omega
     have n7 : ((L : Int) - 7).toNat = L - 7 := by omega
     have n15 : ((L : Int) - 15).toNat = L - 15 := by omega
     have n16 : ((L : Int) - 16).toNat = L - 16 := by omega
     have b2 : 0 ≤ (L : Int) - 2 := by omega
     have b7 : 0 ≤ (L : Int) - 7 := by omega
     have b15 : 0 ≤ (L : Int) - 15 := by omega
     have b16 : 0 ≤ (L : Int) - 16 := by omega
     have d2 : (L : Int) - 2 < 64 := by omega
     have d7 : (L : Int) - 7 < 64 := by omega
     have d15 : (L : Int) - 15 < 64 := by omega
     have d16 : (L : Int) - 16 < 64 := by omega
     have q2 : (2 : Int) ≤ (L : Int) := by omega
     have q7 : (7 : Int) ≤ (L : Int) := by omega
     have q15 : (15 : Int) ≤ (L : Int) := by omega
     have q16 : (16 : Int) ≤ (L : Int) := by omega
     have r2 : 2 ≤ L := by omega
     have r7 : 7 ≤ L := by omega
     have r15 : 15 ≤ L := by omega
     have t2 : (L : Int) < 66 := by omega
     have t7 : (L : Int) < 71 := by omega
     have t15 : (L : Int) < 79 := by omega
     have t16 : (L : Int) < 80 := by omega
     have l4 : (L : Int) < 64 := by omega
     have p1 := addU X16 X7
     go_upto_region 10 with fail
     refine wp_region_held_drew (S := fun W => W.cell? ⟨w.heap.size + 1, L - 15, none⟩ = some (.int .u32 (toU X15)) ∧ W.cell? ⟨w.heap.size + 1, L - 2, none⟩ = some (.int .u32 (toU X2))) (by kernel_rfl) ⟨c15, c2⟩ (fun hHeld => ?_)
     refine' tQ 0 ⟨some 57, .move (.tmp 6), 3, "hash.go:38", #[], none⟩ rfl (by kernel_rfl) (Or.inl ⟨by rfl, _⟩) _; rotate_left; · (intro s h; (try dsimp only at h); go_simp; try with_reducible rfl)
     try simp only [Act.put,nA,nB,nC]
     refine' tQ 1 ⟨some 58, .binOp .sub 3 (.tmp 57) (.const (.int .i64 15)) 3, 3, "hash.go:38", #[⟨0, .data⟩], none⟩ rfl (by kernel_rfl) (Or.inl ⟨by rfl, _⟩) _; rotate_left; · (intro s h; (try dsimp only at h); go_simp; try with_reducible rfl)
     try simp only [Act.put,nA,nB,nC]
     refine' tQ 2 ⟨some 59, .indexAddr 147 (.tmp 4) (.tmp 58), 0, "hash.go:38", #[⟨1, .data⟩], none⟩ rfl (by kernel_rfl) (Or.inl ⟨by rfl, _⟩) _; rotate_left; · (intro s h; (try dsimp only at h); go_simp; try with_reducible rfl)
     try simp only [Act.put,nA,nB,nC]
     refine' tQ 3 ⟨some 60, .load 122 (.tmp 59), 122, "hash.go:38", #[⟨2, .data⟩], none⟩ rfl (by kernel_rfl) (Or.inl ⟨by rfl, _⟩) _; rotate_left; · (intro s h; (try dsimp only at h); go_simp; try with_reducible rfl)
     try simp only [Act.put,nA,nB,nC]
     refine' tQ 4 ⟨some 61, .move (.tmp 6), 3, "hash.go:38", #[⟨8, .gcOnly .lateStores⟩], none⟩ rfl (by kernel_rfl) (Or.inl ⟨by rfl, _⟩) _; rotate_left; · (intro s h; (try dsimp only at h); go_simp; try with_reducible rfl)
     try simp only [Act.put,nA,nB,nC]
     refine' tQ 5 ⟨some 62, .binOp .sub 3 (.tmp 61) (.const (.int .i64 2)) 3, 3, "hash.go:38", #[⟨4, .data⟩, ⟨8, .gcOnly .lateStores⟩], none⟩ rfl (by kernel_rfl) (Or.inl ⟨by rfl, _⟩) _; rotate_left; · (intro s h; (try dsimp only at h); go_simp; try with_reducible rfl)
     try simp only [Act.put,nA,nB,nC]
     refine' tQ 6 ⟨some 63, .indexAddr 147 (.tmp 4) (.tmp 62), 0, "hash.go:38", #[⟨5, .data⟩, ⟨8, .gcOnly .lateStores⟩], none⟩ rfl (by kernel_rfl) (Or.inl ⟨by rfl, _⟩) _; rotate_left; · (intro s h; (try dsimp only at h); go_simp; try with_reducible rfl)
     try simp only [Act.put,nA,nB,nC]
     refine' tQ 7 ⟨some 64, .load 122 (.tmp 63), 122, "hash.go:38", #[⟨6, .data⟩, ⟨8, .gcOnly .lateStores⟩], none⟩ rfl (by kernel_rfl) (Or.inl ⟨by rfl, _⟩) _; rotate_left; · (intro s h; (try dsimp only at h); go_simp; try with_reducible rfl)
     try simp only [Act.put,nA,nB,nC]
     refine' tQ 8 ⟨some 7, .assign (.tmp 60), 122, "hash.go:38", #[⟨3, .data⟩, ⟨0, .phase⟩, ⟨1, .phase⟩, ⟨2, .phase⟩, ⟨3, .phase⟩, ⟨4, .textOnly .lateStores⟩, ⟨5, .textOnly .lateStores⟩, ⟨6, .textOnly .lateStores⟩, ⟨7, .textOnly .lateStores⟩], none⟩ rfl (by kernel_rfl) (Or.inl ⟨by rfl, _⟩) _; rotate_left; · (intro s h; (try dsimp only at h); go_simp; try with_reducible rfl)
     try simp only [Act.put,nA,nB,nC]
     refine' tQ 9 ⟨some 8, .assign (.tmp 64), 122, "hash.go:38", #[⟨7, .data⟩, ⟨8, .chain⟩, ⟨0, .phase⟩, ⟨1, .phase⟩, ⟨2, .phase⟩, ⟨3, .phase⟩, ⟨4, .phase⟩, ⟨5, .phase⟩, ⟨6, .phase⟩, ⟨7, .phase⟩, ⟨8, .phase⟩], none⟩ rfl (by kernel_rfl) (Or.inl ⟨by rfl, _⟩) _; rotate_left; · (intro s h; (try dsimp only at h); go_simp; try with_reducible rfl)
     try simp only [Act.put,nA,nB,nC]
     refine wpAnyH_done (by kernel_rfl) ?_ _
     go_upto_region 11 with fail
     refine wp_name (fun W => W.heap[w.heap.size + 1]? = some (.cells (wRow m).toArray 147 (0, 0)) ∧ Below (w.heap.size + 1) w2 W) ⟨Hm.out, HB.out.drew⟩ (fun wa ha => ?_)
     have Hma := Lib.hid ha.1
     have HBa := Lib.hid ha.2
     clear c16 c7 c15 c2 m0 m1 ha Hm HB
     have c16 := word_cell Hma.out (L - 16) X16 HX.out.1 (by omega)
     have c7 := word_cell Hma.out (L - 7) X7 HX.out.2.1 (by omega)
     have m0 : wa.cell? ⟨w.heap.size + 1, L, none⟩ = some (.int .u32 0) := by
      rw [heap_cell Hma.out]
      simp only [wRow, List.getElem?_toArray]
      rw [List.getElem?_map, List.getElem?_append_right (by omega), List.getElem?_replicate, if_pos (by omega)]; rfl
     have m1 := heap_free Hma.out L
     set_option maxRecDepth 100000 in go_still_tail 11, (by kernel_rfl)
     change wpList _ _ _ _ _ wa.drew
     go_upto_region 12 with fail
     refine wp_name (fun W => W.heap[w.heap.size + 1]? = some (.cells ((wRow m).toArray.setIfInBounds L (wv (X16 + X7))) 147 (0, 0)) ∧ Below (w.heap.size + 1) w2 W) ⟨heap_set (o := L) (w := wa.drew) Hma.out _, HBa.out.drew.setCell (by show _ ≤ w.heap.size + 1; omega) _⟩ (fun wq hq => ?_)
     have Hmq := Lib.hid hq.1
     have HBq := Lib.hid hq.2
     clear c16 c7 m0 m1 hq Hma HBa
     have c0 : wq.cell? ⟨w.heap.size + 1, L, none⟩ = some (.int .u32 (toU (X16 + X7))) := by have := Hmq.out; subst hml; exact end_cell hlt this
     have m1 := heap_free Hmq.out L
     have y1 := bits_xor32 (rotr 7 X15) (rotr 18 X15)
     have y2 := step0 (X16 + X7) X15
     set_option maxRecDepth 100000 in go_still_tail 13, (by kernel_rfl)
     still_call (rot_q X15 7 (-7) _ (by omega) (by decide +kernel))
     repeat still_step
     still_call (rot_q X15 18 (-18) _ (by omega) (by decide +kernel))
     repeat still_step
     refine wpStill_nil ?_
     change wpList _ _ _ _ _ wq.drew
     go_upto_region 13 with fail
     refine wp_name (fun W => W.heap[w.heap.size + 1]? = some (.cells ((wRow m).toArray.setIfInBounds L (wv (X16 + X7 + sg0 X15))) 147 (0, 0)) ∧ Below (w.heap.size + 1) w2 W)
      ⟨by rw [y2]; have := heap_set (o := L) (w := wq.drew) Hmq.out (.int .u32 (toU (X16 + X7 + sg0 X15))); rw [Array.setIfInBounds_setIfInBounds] at this; exact this, HBq.out.drew.setCell (by show _ ≤ w.heap.size + 1; omega) _⟩ (fun wk hw => ?_)
     have Hmk := Lib.hid hw.1
     have HBk := Lib.hid hw.2
     clear c0 m1 hw Hmq HBq y1 y2
     have c0 : wk.cell? ⟨w.heap.size + 1, L, none⟩ = some (.int .u32 (toU (X16 + X7 + sg0 X15))) := by have := Hmk.out; subst hml; exact end_cell hlt this
     have m1 := heap_free Hmk.out L
     have y1 := bits_xor32 (rotr 17 X2) (rotr 19 X2)
     have y2 := step1 (X16 + X7 + sg0 X15) X2
     set_option maxRecDepth 100000 in go_still_tail 13, (by kernel_rfl)
     still_call (rot_q X2 17 (-17) _ (by omega) (by decide +kernel))
     repeat still_step
     still_call (rot_q X2 19 (-19) _ (by omega) (by decide +kernel))
     repeat still_step
     refine wpStill_nil ?_
     change wpList _ _ _ _ _ wk.drew
     go_wp2_with fail
     go_roundw
     case rel =>
      (repeat apply Exists.intro)
      refine ⟨⟨L + 1, m ++ [X16 + X7 + sg0 X15 + sg1 X2], by omega, by omega, by rw [List.length_append, hml]; rfl, ?_, ?_, HBk.out.drew.setCell (p := ⟨w.heap.size + 1, L, none⟩) (by show _ ≤ w.heap.size + 1; omega) _, by go_num⟩, rfl⟩
      ·show _ = _
       have e : L + 1 - 16 = (L - 16) + 1 := by omega
       rw [e]
       show _ = schedN (L - 16) (words 16 bs) ++ [schedW (schedN (L - 16) (words 16 bs))]
       rw [← HS.out, schedW, hml, HX.out.1, HX.out.2.1, HX.out.2.2.1, HX.out.2.2.2]
      ·have h1 := heap_set (o := L) (w := wk.drew) Hmk.out (.int .u32 (toU (X16 + X7 + sg0 X15 + sg1 X2)))
       rw [Array.setIfInBounds_setIfInBounds] at h1
       have h2 := wRow_snoc m (X16 + X7 + sg0 X15 + sg1 X2) (by omega)
       rw [hml] at h2
       show _ = _
       rw [← h2]
       exact h1
     case measure => simp [intOf]; omega
    ·obtain rfl : L = 64 := by omega
     clear hL1 hL2 hlt
     go_upto_region 14 with fail
     have hzr := heap_lt Hm.out
     go_upto_region 15 with (first
      | (go_at_call 96; refine (constants_any _).mono ?_; rintro e wc ⟨rfl, hbc⟩)
      | (refine wpList_allocB rfl 147 rfl _ rfl (.agg (wRow []).toArray) zero_W ?_; intro wd hmd hBd hzd)
      | (refine wpList_store_mid rfl 147 _ _ rfl wc.heap.size 0 shaKs rfl rfl (by have := there_all hmd; exact this) info_K shaKs_one ?_))
     have hzc := hbc.size
     have hK0 := setCells_heap shaKs.toList wd wc.heap.size 0 _ _ _ hmd
     rw [setL_all _ _ (by decide +kernel)] at hK0
     have hB0 := hBd.trans (setCells_below shaKs.toList wd wc.heap.size 0 wc.heap.size (Nat.le_refl _))
     have hHp := heap_below Hp2.out (HB.out.mono (Nat.le_refl _)) (by have := heap_lt hp.out; omega)
     obtain ⟨kb, hkb⟩ : ∃ kb, wc.heap.size = kb := ⟨_, rfl⟩
     rw [hkb] at hK0 hB0 hzc hzd
     rw [hkb]
     refine wp_name (fun W => W.heap[kb]? = some (.cells shaKs 147 (0, 0)) ∧ W.heap[w.heap.size + 1]? = some (.cells (wRow m).toArray 147 (0, 0)) ∧ W.heap[p]? = some (.cells cs t (0, 0)) ∧ Below (w.heap.size + 1) w2 W ∧ kb < W.heap.size)
      ⟨hK0, heap_below (heap_below Hm.out hbc hzr) hB0 (by omega), heap_below (heap_below hHp hbc (heap_lt hHp)) hB0 (by have := heap_lt hHp; omega), (HB.out.trans (hbc.mono (by omega))).trans (hB0.mono (by omega)), heap_lt hK0⟩ (fun we he => ?_)
     have HK := Lib.hid he.1
     have HW := Lib.hid he.2.1
     have HP := Lib.hid he.2.2.1
     have HB5 := Lib.hid he.2.2.2.1
     have hze := he.2.2.2.2
     clear he hK0 hB0 hHp hbc hBd hmd hzd hkb Hm HB
     have g : ∀ j (h : j < 8), we.cell? ⟨p, o + j, none⟩ = some (wv (v.list[j]'h)) := fun j h => by rw [heap_cell HP.out]; exact hv j h
     have g0 : we.cell? ⟨p, o, none⟩ = some (.int .u32 (toU v.a)) := g 0 (by decide)
     have g1 : we.cell? ⟨p, o + 1, none⟩ = some (.int .u32 (toU v.b)) := g 1 (by decide)
     have g2 : we.cell? ⟨p, o + 2, none⟩ = some (.int .u32 (toU v.c)) := g 2 (by decide)
     have g3 : we.cell? ⟨p, o + 3, none⟩ = some (.int .u32 (toU v.d)) := g 3 (by decide)
     have g4 : we.cell? ⟨p, o + 4, none⟩ = some (.int .u32 (toU v.e)) := g 4 (by decide)
     have g5 : we.cell? ⟨p, o + 5, none⟩ = some (.int .u32 (toU v.f)) := g 5 (by decide)
     have g6 : we.cell? ⟨p, o + 6, none⟩ = some (.int .u32 (toU v.g)) := g 6 (by decide)
     have g7 : we.cell? ⟨p, o + 7, none⟩ = some (.int .u32 (toU v.h)) := g 7 (by decide)
     clear g
     go_wp2_with fail
     clear g0 g1 g2 g3 g4 g5 g6 g7
     have hml64 : m.length = 64 := hml
     go_loopw [106] (fun i wr => ∃ (n : Nat) (x : S8), n ≤ 64 ∧ Hid (x = roundsN shaKB m n v) ∧ Hid (VB wr we.heap.size x) ∧ Hid (Below we.heap.size we wr) ∧ i = .int .i64 (n : Int)) (fun i _ => 64 - (intOf i).toNat)
     case atStart => exact ⟨0, v, by omega, rfl, heap_new _ _, (Below.refl _ _).alloc (Nat.le_refl _) _, rfl⟩
     case round =>
      obtain ⟨n, x, hn, Hx, HV, HBe, rfl⟩ := hrel
      by_cases hlt : n < 64
      ·have hz := heap_lt HV.out
       have ck : wr.cell? ⟨kb, n, none⟩ = some (.int .u32 (toU (shaKB.getD n 0))) := by rw [heap_cell (heap_below HK.out HBe.out hze), shaKs_get n hlt]
       obtain ⟨KN, hKN⟩ : ∃ KN, shaKB.getD n 0 = KN := ⟨_, rfl⟩
       rw [hKN] at ck
       have hzW := heap_lt HW.out
       have cw : wr.cell? ⟨w.heap.size + 1, n, none⟩ = some (.int .u32 (toU (m.getD n 0))) := word_cell (heap_below HW.out HBe.out hzW) n _ rfl (by omega)
       obtain ⟨WN, hWN⟩ : ∃ WN, m.getD n 0 = WN := ⟨_, rfl⟩
       rw [hWN] at cw
       have HKN := Lib.hid hKN
       have HWN := Lib.hid hWN
       clear hKN hWN
       obtain ⟨v0, v1, v2, v3, v4, v5, v6, v7⟩ := VB.cells HV.out
       have l4 : (n : Int) < 64 := by omega
       go_upto_region 18 with fail
       refine wp_region_held_drew (S := fun W => W.cell? ⟨kb, n, none⟩ = some (.int .u32 (toU KN))) (by kernel_rfl) ck (fun hHeld => ?_)
       refine' tQ 0 ⟨some 108, .move (.tmp 106), 3, "hash.go:45", #[], none⟩ rfl (by kernel_rfl) (Or.inl ⟨by rfl, _⟩) _; rotate_left; · (intro s h; (try dsimp only at h); go_simp; try with_reducible rfl)
       try simp only [Act.put,nA,nB,nC]
       refine' tQ 1 ⟨some 109, .nilCheck (.tmp 9), 0, "hash.go:45", #[⟨4, .gcOnly .lateStores⟩], none⟩ rfl (by kernel_rfl) (Or.inl ⟨by rfl, _⟩) _; rotate_left; · (intro s h; (try dsimp only at h); go_simp; try with_reducible rfl)
       try simp only [Act.put,nA,nB,nC]
       refine' tQ 2 ⟨some 110, .indexAddr 147 (.tmp 109) (.tmp 106), 0, "hash.go:45", #[⟨1, .data⟩, ⟨4, .gcOnly .lateStores⟩], none⟩ rfl (by kernel_rfl) (Or.inl ⟨by rfl, _⟩) _; rotate_left; · (intro s h; (try dsimp only at h); go_simp; try with_reducible rfl)
       try simp only [Act.put,nA,nB,nC]
       refine' tQ 3 ⟨some 111, .load 122 (.tmp 110), 122, "hash.go:45", #[⟨2, .data⟩, ⟨4, .gcOnly .lateStores⟩], none⟩ rfl (by kernel_rfl) (Or.inl ⟨by rfl, _⟩) _; rotate_left; · (intro s h; (try dsimp only at h); go_simp; try with_reducible rfl)
       try simp only [Act.put,nA,nB,nC]
       refine' tQ 4 ⟨some 11, .assign (.tmp 108), 3, "hash.go:45", #[⟨0, .data⟩, ⟨0, .phase⟩, ⟨1, .textOnly .lateStores⟩, ⟨2, .textOnly .lateStores⟩, ⟨3, .textOnly .lateStores⟩], none⟩ rfl (by kernel_rfl) (Or.inl ⟨by rfl, _⟩) _; rotate_left; · (intro s h; (try dsimp only at h); go_simp; try with_reducible rfl)
       try simp only [Act.put,nA,nB,nC]
       refine' tQ 5 ⟨some 12, .assign (.tmp 111), 122, "hash.go:45", #[⟨3, .data⟩, ⟨4, .chain⟩, ⟨0, .phase⟩, ⟨1, .phase⟩, ⟨2, .phase⟩, ⟨3, .phase⟩, ⟨4, .phase⟩], none⟩ rfl (by kernel_rfl) (Or.inl ⟨by rfl, _⟩) _; rotate_left; · (intro s h; (try dsimp only at h); go_simp; try with_reducible rfl)
       try simp only [Act.put,nA,nB,nC]
       refine wpAnyH_done (by kernel_rfl) ?_ _
       go_upto_region 19 with fail
       refine wp_name (fun W => VB W we.heap.size x ∧ Below we.heap.size we W) ⟨HV.out, HBe.out.drew⟩ (fun wf hn1 => ?_)
       have HV1 := Lib.hid hn1.1
       have HE1 := Lib.hid hn1.2
       clear hn1
       clear v0 v1 v2 v3 v4 v5 v6 v7 ck cw hHeld
       obtain ⟨v0, v1, v2, v3, v4, v5, v6, v7⟩ := VB.cells HV1.out
       have cw : wf.cell? ⟨w.heap.size + 1, n, none⟩ = some (.int .u32 (toU WN)) := by rw [← HWN.out]; exact word_cell (heap_below HW.out HE1.out hzW) n _ rfl (by omega)
       have a1 := addU x.h KN
       have a2 := addU (x.h + KN) WN
       have a1' := addM x.h KN
       have a2' := addM (x.h + KN) WN
       go_upto_region 20 with fail
       refine wp_region_held_drew (S := fun W => W.cell? ⟨we.heap.size, 7, none⟩ = some (.int .u32 (toU x.h)) ∧ W.cell? ⟨w.heap.size + 1, n, none⟩ = some (.int .u32 (toU WN))) (by kernel_rfl) ⟨v7, cw⟩ (fun hHeld => ?_)
       refine' tQ 0 ⟨some 114, .indexAddr 139 (.tmp 10) (.const (.int .i64 7)), 0, "hash.go:47", #[], none⟩ rfl (by kernel_rfl) (Or.inl ⟨by rfl, _⟩) _; rotate_left; · (intro s h; (try dsimp only at h); go_simp; try with_reducible rfl)
       try simp only [Act.put,nA,nB,nC]
       refine' tQ 1 ⟨some 115, .load 122 (.tmp 114), 122, "hash.go:47", #[⟨0, .data⟩], none⟩ rfl (by kernel_rfl) (Or.inl ⟨by rfl, _⟩) _; rotate_left; · (intro s h; (try dsimp only at h); go_simp; try with_reducible rfl)
       try simp only [Act.put,nA,nB,nC]
       refine' tQ 2 ⟨some 116, .move (.tmp 12), 122, "hash.go:47", #[], none⟩ rfl (by kernel_rfl) (Or.inl ⟨by rfl, _⟩) _; rotate_left; · (intro s h; (try dsimp only at h); go_simp; try with_reducible rfl)
       try simp only [Act.put,nA,nB,nC]
       refine' tQ 3 ⟨some 117, .binOp .add 122 (.tmp 115) (.tmp 116) 122, 122, "hash.go:47", #[⟨1, .data⟩, ⟨2, .data⟩], none⟩ rfl (by kernel_rfl) (Or.inl ⟨by rfl, _⟩) _; rotate_left; · (intro s h; (try dsimp only at h); go_simp; try with_reducible rfl)
       try simp only [Act.put,nA,nB,nC]
       refine' tQ 4 ⟨some 118, .move (.tmp 11), 3, "hash.go:47", #[], none⟩ rfl (by kernel_rfl) (Or.inl ⟨by rfl, _⟩) _; rotate_left; · (intro s h; (try dsimp only at h); go_simp; try with_reducible rfl)
       try simp only [Act.put,nA,nB,nC]
       refine' tQ 5 ⟨some 119, .indexAddr 147 (.tmp 4) (.tmp 118), 0, "hash.go:47", #[⟨4, .data⟩], none⟩ rfl (by kernel_rfl) (Or.inl ⟨by rfl, _⟩) _; rotate_left; · (intro s h; (try dsimp only at h); go_simp; try with_reducible rfl)
       try simp only [Act.put,nA,nB,nC]
       refine' tQ 6 ⟨some 120, .load 122 (.tmp 119), 122, "hash.go:47", #[⟨5, .data⟩], none⟩ rfl (by kernel_rfl) (Or.inl ⟨by rfl, _⟩) _; rotate_left; · (intro s h; (try dsimp only at h); go_simp; try with_reducible rfl)
       try simp only [Act.put,nA,nB,nC]
       refine' tQ 7 ⟨some 121, .binOp .add 122 (.tmp 117) (.tmp 120) 122, 122, "hash.go:47", #[⟨3, .data⟩, ⟨6, .data⟩], none⟩ rfl (by kernel_rfl) (Or.inl ⟨by rfl, _⟩) _; rotate_left; · (intro s h; (try dsimp only at h); go_simp; try with_reducible rfl)
       try simp only [Act.put,nA,nB,nC]
       refine' tQ 8 ⟨some 14, .assign (.tmp 121), 122, "hash.go:47", #[⟨7, .data⟩, ⟨0, .phase⟩, ⟨1, .phase⟩, ⟨2, .phase⟩, ⟨3, .phase⟩, ⟨4, .phase⟩, ⟨5, .phase⟩, ⟨6, .phase⟩, ⟨7, .phase⟩], none⟩ rfl (by kernel_rfl) (Or.inl ⟨by rfl, _⟩) _; rotate_left; · (intro s h; (try dsimp only at h); go_simp; try with_reducible rfl)
       try simp only [Act.put,nA,nB,nC]
       refine wpAnyH_done (by kernel_rfl) ?_ _
       go_upto_region 21 with fail
       clear v0 v1 v2 v3 v4 v5 v6 v7 cw hHeld a1 a2 a1' a2'
       refine wp_name (fun W => VB W we.heap.size x ∧ Below we.heap.size we W) ⟨HV1.out, HE1.out.drew⟩ (fun wg hn2 => ?_)
       have HV2 := Lib.hid hn2.1
       have HE2 := Lib.hid hn2.2
       clear hn2
       obtain ⟨v0, v1, v2, v3, v4, v5, v6, v7⟩ := VB.cells HV2.out
       obtain ⟨one, hone⟩ : ∃ one, x.h + KN + WN = one := ⟨_, rfl⟩
       rw [hone]
       have Hone := Lib.hid hone
       clear hone
       have y1 := bits_xor32 (rotr 6 x.e) (rotr 11 x.e)
       have y2 := bits_xor32 (rotr 6 x.e ^^^ rotr 11 x.e) (rotr 25 x.e)
       have y3 := addU one (rotr 6 x.e ^^^ rotr 11 x.e ^^^ rotr 25 x.e)
       have y4 := addM one (rotr 6 x.e ^^^ rotr 11 x.e ^^^ rotr 25 x.e)
       go_upto_region 22 with (go_at_call 95; refine (rot_neg _ _ _ (by decide)).mono ?_; rintro e w3 ⟨rfl, rfl⟩)
       clear y1 y2 y3 y4
       have n1 := notU x.e
       have n2 := bits_and32 x.e x.f
       have n3 := bits_and32 (~~~ x.e) x.g
       have n4 := bits_xor32 (x.e &&& x.f) (~~~ x.e &&& x.g)
       have n5 := addM (one + (rotr 6 x.e ^^^ rotr 11 x.e ^^^ rotr 25 x.e)) ((x.e &&& x.f) ^^^ (~~~ x.e &&& x.g))
       go_upto_region 23 with fail
       clear n1 n2 n3 n4 n5
       have y1 := bits_xor32 (rotr 2 x.a) (rotr 13 x.a)
       have y2 := bits_xor32 (rotr 2 x.a ^^^ rotr 13 x.a) (rotr 22 x.a)
       go_upto_region 25 with (go_at_call 95; refine (rot_neg _ _ _ (by decide)).mono ?_; rintro e w3 ⟨rfl, rfl⟩)
       clear y1 y2
       have n1 := bits_and32 x.a x.b
       have n2 := bits_and32 x.a x.c
       have n3 := bits_xor32 (x.a &&& x.b) (x.a &&& x.c)
       have n4 := bits_and32 x.b x.c
       have n5 := bits_xor32 ((x.a &&& x.b) ^^^ (x.a &&& x.c)) (x.b &&& x.c)
       have n6 := addM (rotr 2 x.a ^^^ rotr 13 x.a ^^^ rotr 22 x.a) ((x.a &&& x.b) ^^^ (x.a &&& x.c) ^^^ (x.b &&& x.c))
       go_upto_region 26 with fail
       clear n1 n2 n3 n4 n5 n6
       rw [chW, addM]
       obtain ⟨o1, ho1⟩ : ∃ o1, one + (rotr 6 x.e ^^^ rotr 11 x.e ^^^ rotr 25 x.e) + chF x.e x.f x.g = o1 := ⟨_, rfl⟩
       obtain ⟨o2, ho2⟩ : ∃ o2, (rotr 2 x.a ^^^ rotr 13 x.a ^^^ rotr 22 x.a) + ((x.a &&& x.b) ^^^ (x.a &&& x.c) ^^^ (x.b &&& x.c)) = o2 := ⟨_, rfl⟩
       rw [ho1, ho2]
       have Ho1 := Lib.hid ho1
       have Ho2 := Lib.hid ho2
       clear ho1 ho2
       have a1 := addU o1 o2
       have a2 := addU x.d o1
       have f0 := heap_free HV2.out 0
       have f1 := heap_free HV2.out 1
       have f2 := heap_free HV2.out 2
       have f3 := heap_free HV2.out 3
       have f4 := heap_free HV2.out 4
       have f5 := heap_free HV2.out 5
       have f6 := heap_free HV2.out 6
       have f7 := heap_free HV2.out 7
       have hr : Hid (roundS KN WN x = ⟨o1 + o2, x.a, x.b, x.c, x.d + o1, x.e, x.f, x.g⟩) := by
        show _ = _
        rw [← Ho1.out, ← Ho2.out, ← Hone.out]; rfl
       go_wp2_with fail
       go_roundw
       case rel =>
        have h8 := set8 HV2.out (wv (o1 + o2)) (wv x.a) (wv x.b) (wv x.c) (wv (x.d + o1)) (wv x.e) (wv x.f) (wv x.g)
        refine ⟨n + 1, roundS KN WN x, by omega, ?_, ?_, HE2.out.trans h8.2, by go_num⟩
        ·show _ = roundS (shaKB.getD n 0) (m.getD n 0) (roundsN shaKB m n v)
         rw [HKN.out, HWN.out, ← Hx.out]
        ·show VB _ _ _
         rw [hr.out]
         exact h8.1
       case measure => simp [intOf]; omega
      ·obtain rfl : n = 64 := by omega
       clear hn hlt
       have hzp := heap_lt HP.out
       have HP2 := Lib.hid (heap_below HP.out HBe.out hzp)
       have HKK := Lib.hid (Kept.of (B := p) ((HB2.out.trans (HB5.out.mono (by omega))).trans (HBe.out.mono (by have := HB2.out.size; have := HB5.out.size; omega))))
       go_wp2_with fail
       go_loopw [192] (fun i wr2 => ∃ (j : Nat), j ≤ 8 ∧ Hid (wr2.heap[p]? = some (.cells (lay8 cs o (addS v x) j) t (0, 0))) ∧ Hid (VB wr2 we.heap.size x) ∧ Hid (Kept p w wr2) ∧ i = .int .i64 (j : Int)) (fun i _ => 8 - (intOf i).toNat)
       case atStart => exact ⟨0, by omega, HP2, HV, HKK, rfl⟩
       case round =>
        obtain ⟨j, hj, Hp3, HV3, HK3, rfl⟩ := hrel
        by_cases hlt : j < 8
        ·have l4 : (j : Int) < 8 := by omega
         have cp : wr.cell? ⟨p, o + j, none⟩ = some (.int .u32 (toU (v.list.getD j 0))) := by
          rw [heap_cell Hp3.out, lay8_get cs o _ j hj ho, hv j hlt]
          have hl : j < v.list.length := hlt
          rw [List.getD_eq_getElem?_getD, List.getElem?_eq_getElem hl]
          rfl
         have fp := heap_free Hp3.out (o + j)
         have cx := VB.at HV3.out j hlt
         have a1 := addU (v.list.getD j 0) (x.list.getD j 0)
         have a2 := addM (v.list.getD j 0) (x.list.getD j 0)
         go_upto_region 31 with fail
         set_option maxRecDepth 100000 in go_still_tail 11, (by kernel_rfl)
         change wpList _ _ _ _ _ wr.drew
         go_wp2_with fail
         go_roundw
         case rel =>
          (repeat apply Exists.intro)
          have h1 := heap_set (o := o + j) Hp3.out (wv (v.list.getD j 0 + x.list.getD j 0))
          rw [← add_list v x j hlt, ← lay8_succ _ _ _ _ hlt, add_list v x j hlt] at h1
          refine ⟨⟨j + 1, by omega, by rw [addM]; exact h1, heap_setOther HV3.out (by show we.heap.size ≠ p; omega) _, HK3.out.drew.trans (Kept.set _ _ _), by go_num⟩, rfl⟩
         case measure => simp [intOf]; omega
        ·obtain rfl : j = 8 := by omega
         have e1 : Hid (addS v x = shaBlock v bs) := by show _ = _; rw [Hx.out, HS.out]; rfl
         have Hp4 := Lib.hid (e1.out ▸ Hp3.out)
         go_wp2_with fail
         go_end0
         exact ⟨rfl, Hp4.out, HK3.out⟩
end Go.Proofs.Ytihbhpggpnmifaa
