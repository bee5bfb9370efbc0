/-
  SHA-256: the walks of the small functions.
-/
import Derived.Test.YtmjikebbknjahaaCrcW
import Derived.Test.YtmjikebbknjahaaRowB
import Derived.Deep.CutRange
import Derived.Deep.DeepCutAuto
import Derived.Deep.MidRow
namespace Go.Proofs.Ytmjikebbknjahaa
open Go.RowKit Go.Lib Hw
set_option linter.unusedVariables false

theorem bits_or32 (x y : BitVec 32) : bits .or .u32 (toU x) (toU y) = toU (x ||| y) := by
  simp only [bits, IntKind.bits]
  rw [ofInt_toU, ofInt_toU, IntKind.wrap_u32]
  show ((x ||| y).toNat : Int) % 4294967296 = _
  have := (x ||| y).isLt
  unfold toU; omega
theorem toU_shl (x : BitVec 32) (m : Nat) : toU x * 2 ^ m % 4294967296 = toU (x <<< m) := by
  unfold toU
  rw [BitVec.toNat_shiftLeft, Nat.shiftLeft_eq]
  have h : ((2 : Int) ^ m) = (((2 : Nat) ^ m : Nat) : Int) := by simp
  rw [h, ← Int.natCast_mul]
  omega
/-- SHA-256's turn to the right -/
def rotr (n : Nat) (x : BitVec 32) : BitVec 32 := (x <<< (32 - n)) ||| (x >>> n)
theorem rot_any (X : BitVec 32) (k : Int) (m : Nat) (w : World) (hm : 0 < m ∧ m < 32) (hk : bits .and .u64 (IntKind.u64.wrap k) 31 = (m : Int)) :
    Calls Try.prog 83 #[.int .u32 (toU X), .int .i64 k] w fun e w' => e = .returned (.int .u32 (toU ((X <<< m) ||| (X >>> (32 - m))))) ∧ w = w' := by
  go_enter Try.func83, Try.ntmps83
  go_wp2_with fail
  go_ret
  refine ⟨?_, rfl⟩
  rw [← bits_or32, ← toU_shl, toU_shift]
  rfl
/-- the turns of the text -/
theorem rotr_any (X : BitVec 32) (n : Nat) (k : Int) (w : World) (hn : 0 < n ∧ n < 32) (hk : bits .and .u64 (IntKind.u64.wrap k) 31 = ((32 - n : Nat) : Int)) :
    Calls Try.prog 83 #[.int .u32 (toU X), .int .i64 k] w fun e w' => e = .returned (.int .u32 (toU (rotr n X))) ∧ w = w' := by
  have h := rot_any X k (32 - n) w (by omega) hk
  have e : 32 - (32 - n) = n := by omega
  rw [e] at h
  exact h
theorem wide_any (n : Int) (w : World) : Calls Try.prog 71 #[.int .i64 n] w fun e w' => e = .returned (.bool (decide (1 ≤ n) && decide (n ≤ 32))) ∧ w = w' := by
  go_enter Try.func71, Try.ntmps71
  cases h1 : decide (1 ≤ n)
  · go_wp2
    go_ret
    exact ⟨rfl, rfl⟩
  · cases h2 : decide (n ≤ 32)
    · go_wp2
      go_ret
      exact ⟨rfl, rfl⟩
    · go_wp2
      go_ret
      exact ⟨rfl, rfl⟩
theorem begin_any (w : World) : Calls Try.prog 74 #[] w fun e w' => e = .returned (.agg #[.int .u32 0x6a09e667, .int .u32 0xbb67ae85, .int .u32 0x3c6ef372, .int .u32 0xa54ff53a, .int .u32 0x510e527f, .int .u32 0x9b05688c, .int .u32 0x1f83d9ab, .int .u32 0x5be0cd19]) ∧ Below w.heap.size w w' := by
  go_enter Try.func74, Try.ntmps74
  go_wp2_with fail
  exact bodyPost_ret (v := .agg #[.int .u32 0x6a09e667, .int .u32 0xbb67ae85, .int .u32 0x3c6ef372, .int .u32 0xa54ff53a, .int .u32 0x510e527f, .int .u32 0x9b05688c, .int .u32 0x1f83d9ab, .int .u32 0x5be0cd19]) (by simp [results, Try.results74, go_sem]) rfl ⟨rfl, (Below.refl _ _).alloc (Nat.le_refl _) _⟩
/-- SHA-256's 64 constants -/
def shaK : List Int := [1116352408, 1899447441, 3049323471, 3921009573, 961987163, 1508970993, 2453635748, 2870763221, 3624381080, 310598401, 607225278, 1426881987, 1925078388, 2162078206, 2614888103, 3248222580, 3835390401, 4022224774, 264347078, 604807628, 770255983, 1249150122, 1555081692, 1996064986, 2554220882, 2821834349, 2952996808, 3210313671, 3336571891, 3584528711, 113926993, 338241895, 666307205, 773529912, 1294757372, 1396182291, 1695183700, 1986661051, 2177026350, 2456956037, 2730485921, 2820302411, 3259730800, 3345764771, 3516065817, 3600352804, 4094571909, 275423344, 430227734, 506948616, 659060556, 883997877, 958139571, 1322822218, 1537002063, 1747873779, 1955562222, 2024104815, 2227730452, 2361852424, 2428436474, 2756734187, 3204031479, 3329325298]
def shaKs : Array Value := (shaK.map (Value.int .u32 ·)).toArray
theorem there_new (w : World) (cs : Array Value) (ty : TypeId) (n : Nat) (hn : n ≤ cs.size) : (w.alloc (.cells cs ty)).there w.heap.size 0 n := by
  intro j hj
  rw [Nat.zero_add, heap_cell (heap_new w _), heap_free (heap_new w _)]
  exact ⟨by simp; omega, rfl⟩
theorem shaKs_one : shaKs.all (·.oneCell') = true := by decide +kernel
theorem build_K (ρ : Operand → Value) (hρ : ∀ v, ρ (.const v) = v) (w : World) : (execOp ρ ({ dst := Option.some 1, op := Op.build 111 #[(0, Operand.const (Value.int IntKind.u32 1116352408)), (1, Operand.const (Value.int IntKind.u32 1899447441)), (2, Operand.const (Value.int IntKind.u32 3049323471)), (3, Operand.const (Value.int IntKind.u32 3921009573)), (4, Operand.const (Value.int IntKind.u32 961987163)), (5, Operand.const (Value.int IntKind.u32 1508970993)), (6, Operand.const (Value.int IntKind.u32 2453635748)), (7, Operand.const (Value.int IntKind.u32 2870763221)), (8, Operand.const (Value.int IntKind.u32 3624381080)), (9, Operand.const (Value.int IntKind.u32 310598401)), (10, Operand.const (Value.int IntKind.u32 607225278)), (11, Operand.const (Value.int IntKind.u32 1426881987)), (12, Operand.const (Value.int IntKind.u32 1925078388)), (13, Operand.const (Value.int IntKind.u32 2162078206)), (14, Operand.const (Value.int IntKind.u32 2614888103)), (15, Operand.const (Value.int IntKind.u32 3248222580)), (16, Operand.const (Value.int IntKind.u32 3835390401)), (17, Operand.const (Value.int IntKind.u32 4022224774)), (18, Operand.const (Value.int IntKind.u32 264347078)), (19, Operand.const (Value.int IntKind.u32 604807628)), (20, Operand.const (Value.int IntKind.u32 770255983)), (21, Operand.const (Value.int IntKind.u32 1249150122)), (22, Operand.const (Value.int IntKind.u32 1555081692)), (23, Operand.const (Value.int IntKind.u32 1996064986)), (24, Operand.const (Value.int IntKind.u32 2554220882)), (25, Operand.const (Value.int IntKind.u32 2821834349)), (26, Operand.const (Value.int IntKind.u32 2952996808)), (27, Operand.const (Value.int IntKind.u32 3210313671)), (28, Operand.const (Value.int IntKind.u32 3336571891)), (29, Operand.const (Value.int IntKind.u32 3584528711)), (30, Operand.const (Value.int IntKind.u32 113926993)), (31, Operand.const (Value.int IntKind.u32 338241895)), (32, Operand.const (Value.int IntKind.u32 666307205)), (33, Operand.const (Value.int IntKind.u32 773529912)), (34, Operand.const (Value.int IntKind.u32 1294757372)), (35, Operand.const (Value.int IntKind.u32 1396182291)), (36, Operand.const (Value.int IntKind.u32 1695183700)), (37, Operand.const (Value.int IntKind.u32 1986661051)), (38, Operand.const (Value.int IntKind.u32 2177026350)), (39, Operand.const (Value.int IntKind.u32 2456956037)), (40, Operand.const (Value.int IntKind.u32 2730485921)), (41, Operand.const (Value.int IntKind.u32 2820302411)), (42, Operand.const (Value.int IntKind.u32 3259730800)), (43, Operand.const (Value.int IntKind.u32 3345764771)), (44, Operand.const (Value.int IntKind.u32 3516065817)), (45, Operand.const (Value.int IntKind.u32 3600352804)), (46, Operand.const (Value.int IntKind.u32 4094571909)), (47, Operand.const (Value.int IntKind.u32 275423344)), (48, Operand.const (Value.int IntKind.u32 430227734)), (49, Operand.const (Value.int IntKind.u32 506948616)), (50, Operand.const (Value.int IntKind.u32 659060556)), (51, Operand.const (Value.int IntKind.u32 883997877)), (52, Operand.const (Value.int IntKind.u32 958139571)), (53, Operand.const (Value.int IntKind.u32 1322822218)), (54, Operand.const (Value.int IntKind.u32 1537002063)), (55, Operand.const (Value.int IntKind.u32 1747873779)), (56, Operand.const (Value.int IntKind.u32 1955562222)), (57, Operand.const (Value.int IntKind.u32 2024104815)), (58, Operand.const (Value.int IntKind.u32 2227730452)), (59, Operand.const (Value.int IntKind.u32 2361852424)), (60, Operand.const (Value.int IntKind.u32 2428436474)), (61, Operand.const (Value.int IntKind.u32 2756734187)), (62, Operand.const (Value.int IntKind.u32 3204031479)), (63, Operand.const (Value.int IntKind.u32 3329325298))], type := 111, pos := "hash.go:11", after := #[], guard := Option.none })).run Try.prog w = .ok (.value (.agg shaKs)) w := by
  simp only [execOp, List.map_toArray, List.map_cons, List.map_nil, hρ]
  kernel_rfl
theorem info_K : (Try.prog.info? 111).map (·.size) = some shaKs.size := by kernel_rfl
/-- a row written over from a place on -/
def setL (cs : Array Value) : Nat → List Value → Array Value
  | _, [] => cs
  | o, v :: r => setL (cs.setIfInBounds o v) (o + 1) r
theorem setL_size (vs : List Value) (o : Nat) (cs : Array Value) : (setL cs o vs).size = cs.size := by
  induction vs generalizing o cs with
  | nil => rfl
  | cons v r ih => simp only [setL]; rw [ih]; simp
theorem setL_get (vs : List Value) (o : Nat) (cs : Array Value) (h : o + vs.length ≤ cs.size) (k : Nat) : (setL cs o vs)[k]? = if o ≤ k ∧ k < o + vs.length then vs[k - o]? else cs[k]? := by
  induction vs generalizing o cs with
  | nil => rw [if_neg (by simp)]; rfl
  | cons v r ih =>
    simp only [setL]
    rw [List.length_cons] at h
    rw [ih (o + 1) _ (by simp; omega)]
    by_cases h1 : o + 1 ≤ k ∧ k < o + 1 + r.length
    · rw [if_pos h1, if_pos (by rw [List.length_cons]; omega)]
      have : k - o = (k - (o + 1)) + 1 := by omega
      rw [this, List.getElem?_cons_succ]
    · rw [if_neg h1, Array.getElem?_setIfInBounds]
      by_cases h2 : o = k
      · subst h2; rw [if_pos rfl, if_pos (by omega), if_pos (by rw [List.length_cons]; omega)]; simp
      · rw [if_neg h2, if_neg (by rw [List.length_cons]; omega)]
theorem setL_all (vs : List Value) (cs : Array Value) (h : vs.length = cs.size) : setL cs 0 vs = vs.toArray := by
  apply Array.ext_getElem?
  intro k
  rw [setL_get vs 0 cs (by omega) k]
  by_cases hk : k < vs.length
  · rw [if_pos (by omega)]; simp
  · rw [if_neg (by omega), Array.getElem?_eq_none (by omega), Array.getElem?_eq_none (by simp; omega)]
theorem setCells_heap (vs : List Value) (w : World) (b o : Nat) (cs : Array Value) (ty : TypeId) (fz : Nat × Nat) (h : w.heap[b]? = some (.cells cs ty fz)) : (w.setCells b o vs).heap[b]? = some (.cells (setL cs o vs) ty fz) := by
  induction vs generalizing o w cs with
  | nil => exact h
  | cons v r ih => exact ih _ _ _ (heap_set h v)
theorem setCells_below (vs : List Value) (w : World) (b o B : Nat) (hB : B ≤ b) : Below B w (w.setCells b o vs) := by
  induction vs generalizing o w with
  | nil => exact Below.refl _ _
  | cons v r ih => exact ((Below.refl B w).setCell (p := ⟨b, o, none⟩) hB v).trans (ih _ _)
theorem setCells_other (vs : List Value) (w : World) (b o c : Nat) (hc : c ≠ b) : (w.setCells b o vs).heap[c]? = w.heap[c]? := by
  induction vs generalizing o w with
  | nil => rfl
  | cons v r ih =>
    simp only [World.setCells]
    rw [ih]
    exact Below.heap_setCell _ _ _ _ hc
/-- a block known whole is a range -/
theorem range_all {w : World} {b : Nat} {cs : List Value} {ty : TypeId} {fz : Nat × Nat} (h : w.heap[b]? = some (.cells cs.toArray ty fz)) : w.rangeAt b 0 cs := by
  intro j v hv
  rw [Nat.zero_add, heap_cell h]
  simpa using hv
theorem there_all {w : World} {b : Nat} {cs : Array Value} {ty : TypeId} (h : w.heap[b]? = some (.cells cs ty (0, 0))) : w.there b 0 cs.size := by
  intro j hj
  rw [Nat.zero_add, heap_cell h, heap_free h]
  exact ⟨by simp; omega, rfl⟩
theorem new_set (w : World) (cs vs : Array Value) (ty : TypeId) (h : vs.toList.length = cs.size) :
    ((w.alloc (.cells cs ty)).setCells w.heap.size 0 vs.toList).heap[w.heap.size]? = some (.cells vs ty (0, 0)) ∧ Below w.heap.size w ((w.alloc (.cells cs ty)).setCells w.heap.size 0 vs.toList) := by
  have h1 := setCells_heap vs.toList _ w.heap.size 0 _ _ _ (heap_new w (.cells cs ty))
  rw [setL_all _ _ h] at h1
  exact ⟨h1, ((Below.refl _ _).alloc (Nat.le_refl _) _).trans (setCells_below _ _ _ _ _ (Nat.le_refl _))⟩
theorem wpList_name {P : Program} {ops : Array Oper} {l : List Oper} {Q : Exit → Act → World → Prop} {a : Act} {w : World} (F : World → Prop) (h0 : F w) (h : ∀ W, F W → wpList P ops Q l a W) : wpList P ops Q l a w := h w h0
theorem loadK (W : World) (b : Nat) (h : W.heap[b]? = some (.cells shaKs 111 (0, 0))) : (loadVar 111 ⟨b, 0, none⟩).run Try.prog W = .ok (.agg shaKs) W :=
  run_loadVar_mid (P := Try.prog) W b 0 111 shaKs.toList _ (range_all (cs := shaKs.toList) (by exact h)) Try.underlying111 rfl (by kernel_rfl)
theorem results_cell1 {P : Program} {fn : Func} {tmps : Array Value} {a : Nat} {t : TypeId} {A : Addr} {v : Value} {w : World} (hr : fn.results = #[.cell a t]) (ha : tmps.getD a undef = .pointer (some A)) (hl : (loadVar t A).run P w = .ok v w) :
    (results fn tmps).run P w = .ok v w := by
  unfold results
  rw [hr]
  have ha' : tmps[a]?.getD undef = .pointer (some A) := by rw [← ha]; simp
  simp [ha', hl, asAddr]
set_option maxRecDepth 100000 in
theorem constants_any (w : World) : Calls Try.prog 84 #[] w fun e w' => e = .returned (.agg shaKs) ∧ Below w.heap.size w w' := by
  go_enter Try.func84, Try.ntmps84
  go_upto_region 1 with fail
  refine wp_region_list ?_
  refine wpList_plain rfl fun K hK => ?_
  show Oper.upon _ _ _ _ _ ((execOp _ _).run _ _)
  rw [build_K _ (fun v => rfl)]
  refine hK _ _ ?_
  refine wpList_store_mid rfl 111 _ _ rfl w.heap.size 0 shaKs rfl rfl (there_new w _ _ _ (by decide +kernel)) info_K shaKs_one ?_
  refine wpList_name (fun W => W.heap[w.heap.size]? = some (.cells shaKs 111 (0, 0)) ∧ Below w.heap.size w W) (new_set w _ shaKs _ (by decide +kernel)) (fun W2 hW2 => ?_)
  have h2 := Lib.hid hW2.1
  have hb := Lib.hid hW2.2
  clear hW2
  have hl := loadK W2 w.heap.size h2.out
  go_wp2_with fail
  refine bodyPost_ret (v := .agg shaKs) ?_ rfl ⟨rfl, hb.out⟩
  exact results_cell1 Try.results84 rfl hl
end Go.Proofs.Ytmjikebbknjahaa
