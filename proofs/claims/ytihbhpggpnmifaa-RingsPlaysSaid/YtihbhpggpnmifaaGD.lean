/-
 SHA-256: the walk of Hash.Sum; digests in blocks.
-/
import Derived.Test.YtihbhpggpnmifaaGC
import Derived.Laws.AppendOwnNone
import Derived.Laws.CopyOwn
import Derived.Test.YtihbhpggpnmifaaGA
import Derived.Stop.BytesEq
set_option linter.unusedSimpArgs false
set_option linter.unusedVariables false
namespace Go.Proofs.Ytihbhpggpnmifaa
open Go.RowKit Go.Lib Hw
def DB (w : World) (b : Nat) (l : List UInt8) : Prop := w.heap[b]? = some (.cells (l.map bv).toArray 23 (0, 0))
def zeros32 : List UInt8 := List.replicate 32 0
theorem zero_D (w : World) : (zeroValue 23).run Try.prog w = .ok (.agg (zeros32.map bv).toArray) w := by kernel_rfl
theorem info_D : (Try.prog.info? 23).map (·.size) = some 32 := by kernel_rfl
theorem DB.load {w : World} {b : Nat} {l : List UInt8} (h : DB w b l) (hl : l.length = 32) : (loadVar 23 ⟨b, 0, none⟩).run Try.prog w = .ok (.agg (l.map bv).toArray) w :=
 run_loadVar_mid (P := Try.prog) w b 0 23 (l.map bv) _ (range_all (cs := l.map bv) h) Try.underlying23 rfl (info_D.trans (congrArg some ((List.length_map _).trans hl).symm))
theorem DB.set {w : World} {b : Nat} {l : List UInt8} (h : DB w b l) (j : Nat) (x : UInt8) : DB (w.setCell ⟨b, j, none⟩ (.int .u8 (x.toNat : Int))) b (l.set j x) := by
 unfold DB
 have h1 := heap_set (o := j) h (.int .u8 (x.toNat : Int))
 rw [List.map_set, ← List.setIfInBounds_toArray]
 exact h1
theorem DB.cell {w : World} {b : Nat} {l : List UInt8} (h : DB w b l) (j : Nat) (hj : j < l.length) : w.cell? ⟨b, j, none⟩ = some (.int .u8 ((l[j]'hj).toNat : Int)) := by
 rw [heap_cell h]; simp [List.getElem?_eq_getElem hj, bv]
theorem DB.free {w : World} {b : Nat} {l : List UInt8} (h : DB w b l) (j : Nat) : w.frozen? ⟨b, j, none⟩ = false := heap_free h j
theorem DB.below {w w' : World} {b B : Nat} {l : List UInt8} (h : DB w b l) (hb : Below B w w') (hB : b < B) : DB w' b l := heap_below h hb hB
theorem DB.alloc {w : World} {b : Nat} {l : List UInt8} (h : DB w b l) (o : Obj) : DB (w.alloc o) b l := heap_alloc h
theorem DB.store {w : World} {b : Nat} {l : List UInt8} (h : DB w b l) (m : List UInt8) (hm : m.length = l.length) : DB (w.setCells b 0 (m.map bv)) b m := by
 have h1 := setCells_heap (m.map bv) w b 0 _ _ _ h
 rw [setL_all _ _ (by simp [hm])] at h1
 exact h1
theorem HashB.below {w w' : World} {B p C : Nat} {rv : Value} {l : List UInt8} {n : Int} (h : HashB w B p rv l n) (hb : Below C w w') (hp : p < C) (hr : ∀ k, rv.ownBlock = some k → k < C) : HashB w' B p rv l n :=
 ⟨heap_below h.cells hb hp, h.rest.below hb hr, h.ne⟩
theorem HashB.lt {w : World} {B p : Nat} {rv : Value} {l : List UInt8} {n : Int} (h : HashB w B p rv l n) : p < w.heap.size ∧ ∀ k, rv.ownBlock = some k → k < w.heap.size :=
 ⟨heap_lt h.cells, fun k hk => (World.ownsRow.lt h.rest k hk).2⟩
theorem HashB.words {W : World} {B p : Nat} {rv : Value} {l : List UInt8} {n : Int} (h : HashB W B p rv l n) : W.cell? ⟨p, 1, none⟩ = some (.int .u32 (toU (stOf l).a)) ∧ W.cell? ⟨p, 2, none⟩ = some (.int .u32 (toU (stOf l).b)) ∧ W.cell? ⟨p, 3, none⟩ = some (.int .u32 (toU (stOf l).c)) ∧ W.cell? ⟨p, 4, none⟩ = some (.int .u32 (toU (stOf l).d)) ∧
  W.cell? ⟨p, 5, none⟩ = some (.int .u32 (toU (stOf l).e)) ∧ W.cell? ⟨p, 6, none⟩ = some (.int .u32 (toU (stOf l).f)) ∧ W.cell? ⟨p, 7, none⟩ = some (.int .u32 (toU (stOf l).g)) ∧ W.cell? ⟨p, 8, none⟩ = some (.int .u32 (toU (stOf l).h)) :=
 ⟨by rw [heap_cell h.cells]; rfl, by rw [heap_cell h.cells]; rfl, by rw [heap_cell h.cells]; rfl, by rw [heap_cell h.cells]; rfl, by rw [heap_cell h.cells]; rfl, by rw [heap_cell h.cells]; rfl, by rw [heap_cell h.cells]; rfl, by rw [heap_cell h.cells]; rfl⟩
theorem wpList_copyB {ops : Array Oper} {rest : List Oper} {o : Oper} {a : Act} {Q : Exit → Act → World → Prop} (w : World) (hgd : o.guard = none) (s x : Operand)
  (ho : o.op = .call { callee := .builtin .append, args := #[s, x], argTypes := #[121, 121] })
  (hs : a.eval s = .slice none 0 0) (B : Nat) (v : Value) (bs : List UInt8) (hx : a.eval x = v) (hown : OwnB w B v bs) (hlen : bs.length ≤ 140737488355328) (H : Nat) (hH : w.heap.size = H)
  (h : ∀ v' w', OwnB w' H v' bs → Below H w w' → wpList Try.prog ops Q rest (a.put o.dst v') w') : wpList Try.prog ops Q (o :: rest) a w := by
 subst hH
 obtain ⟨i, hi, hz0, hz1, hz2⟩ := info_parts info_u8
 rcases hown.2 with ⟨rfl, h0⟩ | ⟨g, cap, cur, rfl, hb, hg, hn, hc, hsz, ht⟩
 ·have : bs = [] := List.eq_nil_of_length_eq_zero h0
  subst this
  exact wpList_append_own_none hgd s x 121 ho w.heap.size 5 i 1 Try.underlying121 hi (.slice none 0 0) 0 [] hs (World.ownsRow_nil w w.heap.size _ 1) hx (h _ w (OwnB.nil _ _) (Below.refl _ _))
 ·refine wpList_append_own w hgd s x 121 ho w.heap.size 5 i (.int .u8 0) 1 1 Try.underlying121 hi hz0 hz1 hz2 rfl (by decide) (.slice none 0 0) 0 [] hs (World.ownsRow_nil w w.heap.size _ 1) ⟨g, 0, none⟩ bs.length cap (bs.map bv) hx (by simp) (World.ownsRow.cells (w := w) hown (g := g) rfl) (bv_one bs) (by rw [maxLen_eq]; omega) (by omega) (Nat.le_refl _) ?_
  intro v' w' h1 h2 h3
  rw [Nat.zero_add, List.nil_append] at h1
  exact h v' w' h1 ((Below.refl _ _).grown h2 (Nat.le_refl _) (fun k hk => by simp [Value.ownBlock] at hk))
theorem OwnB.mono {w : World} {B C : Nat} {v : Value} {bs : List UInt8} (h : OwnB w B v bs) (hC : C ≤ B) : OwnB w C v bs := by
 refine ⟨h.1, ?_⟩
 rcases h.2 with hn | ⟨g, cap, cur, rfl, hb, r⟩
 ·exact .inl hn
 ·exact .inr ⟨g, cap, cur, rfl, by omega, r⟩
theorem wpList_app1 {ops : Array Oper} {rest : List Oper} {o : Oper} {a : Act} {Q : Exit → Act → World → Prop} (W : World) (t : TypeId) (b : UInt8) (hgd : o.guard = none) (s x : Operand)
  (ho : o.op = .call { callee := .builtin .append, args := #[s, x], argTypes := #[121, 121] })
  (B : Nat) (v : Value) (bs : List UInt8) (N : Nat) (hN : bs.length = N) (hs : a.eval s = v) (hown : OwnB W B v bs) (c : Nat) (hx : a.eval x = .slice (some ⟨W.heap.size, 0, none⟩) 1 c)
  (hlen : N ≤ 140737488355327) (hB : B ≤ W.heap.size)
  (h : ∀ g cap w', OwnB w' B (.slice (some ⟨g, 0, none⟩) (N + 1) cap) (bs ++ [b]) → Below B W w' → B ≤ g → wpList Try.prog ops Q rest (a.put o.dst (.slice (some ⟨g, 0, none⟩) (N + 1) cap)) w') :
  wpList Try.prog ops Q (o :: rest) a (W.alloc (.cells #[.int .u8 (b.toNat : Int)] t)) := by
 subst hN
 refine wpList_appB _ hgd s x ho B v bs hs (hown.alloc _) ⟨W.heap.size, 0, none⟩ c [b] hx (app_cell1 W b t) (by simp) (by simp only [List.length_singleton]; omega) (by simp only [World.size_alloc]; omega) _ rfl ?_
 intro g cap w' h1 h2 h3 h4
 refine h g cap w' h1 (((Below.refl B W).alloc hB _).grown h2 (by simp only [World.size_alloc]; omega) (fun k hk => (World.ownsRow.lt hown k hk).1)) ?_
 rcases h3 with h3 | h3
 ·exact (World.ownsRow.lt hown g h3).1
 ·rw [h3]; simp only [World.size_alloc]; omega
structure SS (w W : World) (st : S8) : Prop where
 d0 : DB W w.heap.size zeros32
 d1 : DB W (w.heap.size + 1) zeros32
 sb : VB W (w.heap.size + 2) st
 bel : Below w.heap.size w W
theorem SS.size {w W : World} {st : S8} (h : SS w W st) : w.heap.size + 3 ≤ W.heap.size := by have := heap_lt h.sb; omega
theorem SS.below {w W W' : World} {st : S8} (h : SS w W st) (hb : Below (w.heap.size + 3) W W') : SS w W' st :=
 ⟨heap_below h.d0 hb (by omega), heap_below h.d1 hb (by omega), heap_below h.sb hb (by omega), h.bel.trans (hb.mono (by omega))⟩
theorem SS.alloc {w W : World} {st : S8} (h : SS w W st) (o : Obj) : SS w (W.alloc o) st := h.below ((Below.refl _ _).alloc h.size _)
theorem wpList_load64 {ops : Array Oper} {rest : List Oper} {o : Oper} {a : Act} {w : World} {Q : Exit → Act → World → Prop} (hgd : o.guard = none) (x : Operand) (ho : o.op = .load 144 x) (g off : Nat) (hx : a.eval x = .pointer (some ⟨g, off, none⟩)) (bs : List UInt8) (hl : bs.length = 64) (hr : w.rangeAt g off (bs.map bv))
  (h : wpList Try.prog ops Q rest (a.put o.dst (.agg (bs.map bv).toArray)) w) : wpList Try.prog ops Q (o :: rest) a w :=
 wpList_plain hgd fun _ hK => wp_load64 x ho g off hx bs hl hr (hK _ _ h)
def words8 (v : S8) : Array Value := #[wv v.a, wv v.b, wv v.c, wv v.d, wv v.e, wv v.f, wv v.g, wv v.h]
theorem words8_get (st : S8) : ∀ j (h : j < 8), (words8 st)[0 + j]? = some (wv (st.list[j]'h)) := by
 intro j h
 match j, h with
 | 0, _ => rfl
 | 1, _ => rfl
 | 2, _ => rfl
 | 3, _ => rfl
 | 4, _ => rfl
 | 5, _ => rfl
 | 6, _ => rfl
 | 7, _ => rfl
theorem lay8_words (st st' : S8) : lay8 (words8 st) 0 st' 8 = words8 st' := by simp [lay8, setL, S8.list, words8]
theorem SS.block {w W W' : World} {st st' : S8} (h : SS w W st) (hk : Kept (w.heap.size + 2) W W') (hs : W'.heap[w.heap.size + 2]? = some (.cells (words8 st') 139 (0, 0))) : SS w W' st' :=
 ⟨hk.heap h.d0 (by omega), hk.heap h.d1 (by omega), hs, h.bel.trans (hk.below (by omega) (by have := h.size; omega))⟩
theorem index8 (V : S8) (w : World) (i : Nat) (hi : i < 8) : (Instr.index 139 (.agg #[.int .u32 (toU V.a), .int .u32 (toU V.b), .int .u32 (toU V.c), .int .u32 (toU V.d), .int .u32 (toU V.e), .int .u32 (toU V.f), .int .u32 (toU V.g), .int .u32 (toU V.h)]) (.int .i64 (i : Int))).run Try.prog w = .ok (.int .u32 (toU (V.list.getD i 0))) w := by
 match i, hi with
 | 0, _ => show _ = _; kernel_rfl
 | 1, _ => show _ = _; kernel_rfl
 | 2, _ => show _ = _; kernel_rfl
 | 3, _ => show _ = _; kernel_rfl
 | 4, _ => show _ = _; kernel_rfl
 | 5, _ => show _ = _; kernel_rfl
 | 6, _ => show _ = _; kernel_rfl
 | 7, _ => show _ = _; kernel_rfl
theorem own_blk {g n c k : Nat} (h : (Value.slice (some ⟨g, 0, none⟩) n c).ownBlock = some k) : g = k := Option.some.inj h
theorem flat4_get (l : List (BitVec 32)) (i k : Nat) (hi : i < l.length) (hk : k < 4) : (l.flatMap (fun x => be 4 x.toNat))[4 * i + k]? = (be 4 (l.getD i 0).toNat)[k]? := by
 induction l generalizing i with
 | nil => simp at hi
 | cons a l ih =>
  rw [List.flatMap_cons]
  cases i with
  | zero => rw [List.getElem?_append_left (by rw [be_length]; omega)]; simp
  | succ i =>
   have e : 4 * (i + 1) + k - 4 = 4 * i + k := by omega
   rw [List.getElem?_append_right (by rw [be_length]; omega), be_length, e, ih i (by simpa using hi)]
   rfl
theorem out_byte (V : S8) (i k : Nat) (hi : i < 8) (hk : k < 4) : ∃ b : UInt8, (shaOut V)[4 * i + k]? = some b ∧ toU (V.list.getD i 0) / 2 ^ (24 - 8 * k) % 256 = (b.toNat : Int) := by
 refine ⟨_, (flat4_get V.list i k hi hk).trans (be_get 4 _ k hk), ?_⟩
 have h := byte_of (toU (V.list.getD i 0)) (toU_nonneg _) (3 - k)
 have e : 8 * (3 - k) = 24 - 8 * k := by omega
 rw [e] at h
 have e2 : 4 - 1 - k = 3 - k := by omega
 rw [h, e2]
 rfl
def lay32 (l : List UInt8) (n : Nat) : List UInt8 := l.take n ++ List.replicate (32 - n) 0
theorem lay32_length (l : List UInt8) (n : Nat) (hl : l.length = 32) (hn : n ≤ 32) : (lay32 l n).length = 32 := by simp [lay32, hl]; omega
theorem lay32_zero (l : List UInt8) : lay32 l 0 = zeros32 := by simp [lay32, zeros32]
theorem lay32_all (l : List UInt8) (hl : l.length = 32) : lay32 l 32 = l := by simp [lay32, List.take_of_length_le (Nat.le_of_eq hl)]
theorem lay32_succ (l : List UInt8) (n : Nat) (b : UInt8) (hl : l.length = 32) (hn : n < 32) (hb : l[n]? = some b) : (lay32 l n).set n b = lay32 l (n + 1) := by
 unfold lay32
 have e : 32 - n = (32 - (n + 1)) + 1 := by omega
 have e2 : (l.take n).length = n := by rw [List.length_take]; omega
 rw [e, List.replicate_succ, List.set_append_right _ _ (by omega), e2, Nat.sub_self, List.set_cons_zero, List.take_add_one, hb, List.append_assoc]
 rfl
def sliceLen : Value → Nat
 | .slice _ n _ => n
 | _ => 0
theorem pad_test (r N : Nat) (hr : r < 64) (h1 : r + 1 ≤ N) (h2 : N < r + 1 + (119 - r % 64) % 64) : (((N : Int) % 64) != 56) = true := by
 rw [bne_iff_ne]; omega
theorem pad_done (r N : Nat) (hr : r < 64) (h2 : N = r + 1 + (119 - r % 64) % 64) : (((N : Int) % 64) != 56) = false := by
 rw [bne_eq_false_iff_eq]; omega
def nextA (a : Addr) (c : Nat) : Addr := if c = 64 then a else a.add 64
theorem elem_bytes : Try.prog.elem 121 = 5 := by kernel_rfl
theorem size_u8 (w : World) : (sizeOf 5).run Try.prog w = .ok 1 w := by kernel_rfl
theorem slice64 (a : Addr) (K C : Nat) (hK : 64 ≤ K) (w : World) : (Instr.slice 121 (.slice (some a) K C) (some (.int .i64 64)) none none).run Try.prog w = .ok (.slice (some (nextA a C)) (K - 64) (C - 64)) w := by
 rw [run_slice_l (P := Try.prog) w 121 (some a) K C (by rw [elem_bytes]; exact Try.underlying121) .i64 64 (by omega) (by omega), elem_bytes, size_u8]
 simp [Result.andThen, sliced, nextA]
 split <;> rfl
theorem add_flat1 (g o k : Nat) : (⟨g, o, none⟩ : Addr).add k = ⟨g, o + k, none⟩ := by unfold Addr.add; split <;> simp_all
theorem OwnB.part {w : World} {B g n cap : Nat} {bs : List UInt8} (h : OwnB w B (.slice (some ⟨g, 0, none⟩) n cap) bs) (o k : Nat) : w.rangeAt g o (((bs.drop o).take k).map bv) := by
 intro j v hv
 have h1 := h.range (o + j) v
 rw [Nat.zero_add] at h1
 apply h1
 rw [List.getElem?_map] at hv ⊢
 rw [List.getElem?_take, List.getElem?_drop] at hv
 split at hv
 ·exact hv
 ·cases hv
set_option maxHeartbeats 4000000 in
theorem HSum_any (B p : Nat) (rv : Value) (l : List UInt8) (w : World) (hw : Hid (HashB w B p rv l l.length)) (hs : l.length ≤ 1000000000000000000) :
  Calls Try.prog 88 #[.pointer (some ⟨p, 0, none⟩)] w fun e w' => e = .returned (.agg ((sha256 l).map bv).toArray) ∧ Below w.heap.size w w' := by
 set_option maxRecDepth 100000 in
 go_enter Try.func88, Try.ntmps88
 go_upto_region 0 with fail
 refine wp_region_list ?_
 refine wpList_allocB rfl 23 rfl w.heap.size rfl _ zero_D ?_
 intro w1 h1 hB1 hz1
 have Hd0 := Lib.hid h1
 have HB1 := Lib.hid hB1
 clear h1 hB1
 go_upto_region 1 with fail
 refine wp_region_list ?_
 refine wpList_allocB rfl 23 rfl (w.heap.size + 1) hz1 _ zero_D ?_
 intro w2 h2 hB2 hz2
 have Hd1 := Lib.hid h2
 have Hd2 := Lib.hid (heap_below Hd0.out hB2 (by omega))
 have HB2 := Lib.hid (HB1.out.trans (hB2.mono (by omega)))
 clear h2 hB2 Hd0 HB1
 have HW2 := Lib.hid (hw.out.below HB2.out hw.out.lt.1 hw.out.lt.2)
 go_upto_region 4 with (go_at_call 92; refine (dead_any _ _ _ _ _ _ HW2.out).mono ?_; rintro e w3 ⟨rfl, rfl⟩)
 obtain ⟨v1, v2, v3, v4, v5, v6, v7, v8⟩ := HW2.out.words
 go_upto_region 5 with fail
 clear v1 v2 v3 v4 v5 v6 v7 v8
 refine wp_name (fun W => SS w W (stOf l)) ⟨heap_alloc Hd2.out, heap_alloc Hd1.out, by have := heap_new w2 (.cells #[wv (stOf l).a, wv (stOf l).b, wv (stOf l).c, wv (stOf l).d, wv (stOf l).e, wv (stOf l).f, wv (stOf l).g, wv (stOf l).h] 139); rw [hz2] at this; exact this, HB2.out.alloc (by omega) _⟩ (fun w3 h3 => ?_)
 have HS := Lib.hid h3
 clear h3 Hd1 Hd2 HB2 HW2 hz1 hz2
 have HW3 := Lib.hid (hw.out.below HS.out.bel hw.out.lt.1 hw.out.lt.2)
 have c9 : w3.cell? ⟨p, 9, none⟩ = some rv := by rw [heap_cell HW3.out.cells]; rfl
 have hr64 := restOf_lt l
 obtain ⟨R, hR⟩ : ∃ R, restOf l = R := ⟨_, rfl⟩
 have Hown := Lib.hid HW3.out.rest
 rw [hR] at Hown hr64
 have HR := Lib.hid hR
 clear hR
 go_upto_region 6 with (at_builtin; refine wpList_copyB _ rfl _ _ rfl rfl B rv R rfl Hown.out (by omega) _ rfl ?_; intro tv w4 hT hb4)
 have HT := Lib.hid hT
 have HS4 := Lib.hid (HS.out.below (hb4.mono HS.out.size))
 have HT4 := Lib.hid (hT.mono HS.out.size)
 clear hT hb4 c9 HT HS HW3 Hown
 have hz4 := HS4.out.size
 go_upto_region 7 with (at_builtin; refine wpList_app1 w4 5 0x80 rfl _ _ rfl (w.heap.size + 3) tv R R.length rfl rfl HT4.out _ rfl (by omega) hz4 ?_; intro g cap w5 hT5 hb5 hg5)
 have HT5 := Lib.hid hT5
 have HS5 := Lib.hid (HS4.out.below hb5)
 clear hT5 hb5 HS4 HT4 hz4
 obtain ⟨Z, hZ⟩ : ∃ Z, (119 - R.length % 64) % 64 = Z := ⟨_, rfl⟩
 have hZ64 : Z < 64 := by omega
 have HZ := Lib.hid hZ
 clear hZ
 go_loopw [5] (fun v wr => ∃ (N g cap : Nat), R.length + 1 ≤ N ∧ N ≤ R.length + 1 + Z ∧ w.heap.size + 3 ≤ g ∧ Hid (OwnB wr (w.heap.size + 3) (.slice (some ⟨g, 0, none⟩) N cap) (R ++ 0x80 :: List.replicate (N - (R.length + 1)) 0)) ∧ Hid (SS w wr (stOf l)) ∧ v = .slice (some ⟨g, 0, none⟩) N cap) (fun v _ => R.length + 1 + Z - sliceLen v)
 case atStart => exact ⟨R.length + 1, g, cap, by omega, by omega, hg5, by simpa using HT5, HS5, rfl⟩
 case round =>
  clear HT5 HS5
  obtain ⟨N, g, cap, hN1, hN2, hg, HT, HS, rfl⟩ := hrel
  by_cases hlt : N < R.length + 1 + Z
  ·have ht := pad_test R.length N hr64 hN1 (by rw [HZ.out]; exact hlt)
   have hz := HS.out.size
   have hl : (R ++ 0x80 :: List.replicate (N - (R.length + 1)) 0).length = N := by simp; omega
   obtain ⟨bs, hbs⟩ : ∃ bs, R ++ 0x80 :: List.replicate (N - (R.length + 1)) (0 : UInt8) = bs := ⟨_, rfl⟩
   rw [hbs] at HT hl
   have Hbs := Lib.hid hbs
   have Hl := Lib.hid hl
   clear hbs hl
   go_wp2_with (at_builtin; refine wpList_app1 wr 5 0 rfl _ _ rfl (w.heap.size + 3) _ bs N Hl.out rfl HT.out _ rfl (by omega) hz ?_; intro g6 cap6 w6 hT6 hb6 hg6)
   refine ⟨⟨N + 1, g6, cap6, by omega, by omega, hg6, ?_, HS.out.below hb6, rfl⟩, by simp [sliceLen]; omega⟩
   have e : N + 1 - (R.length + 1) = (N - (R.length + 1)) + 1 := by omega
   show OwnB _ _ _ _
   rw [e, List.replicate_succ', ← List.cons_append, ← List.append_assoc, Hbs.out]
   exact hT6
  ·have HNe : Hid (N = R.length + 1 + Z) := by show _ = _; omega
   have hNb : N ≤ 128 := by omega
   have ht := pad_done R.length N hr64 (by rw [HZ.out]; exact HNe.out)
   have HW := Lib.hid (hw.out.below HS.out.bel hw.out.lt.1 hw.out.lt.2)
   have c10 : wr.cell? ⟨p, 10, none⟩ = some (.int .i64 (l.length : Int)) := by rw [heap_cell HW.out.cells]; rfl
   go_upto_region 10 with fail
   clear c10 ht
   obtain ⟨M, hM⟩ : ∃ M : Int, (l.length : Int) * 8 = M := ⟨_, rfl⟩
   have hM0 : 0 ≤ M ∧ M ≤ 9223372036854775807 := by omega
   rw [hM]
   have HM := Lib.hid hM
   clear hM
   have eZ : N - (R.length + 1) = Z := by have := HNe.out; omega
   rw [eZ] at HT
   obtain ⟨P0, hP0⟩ : ∃ P0, R ++ 0x80 :: List.replicate Z (0 : UInt8) = P0 := ⟨_, rfl⟩
   have hPl : P0.length = N := by have := HNe.out; rw [← hP0]; simp; omega
   rw [hP0] at HT
   have HP0 := Lib.hid hP0
   have HPl := Lib.hid hPl
   clear hP0 hPl eZ hN1 hN2 hlt
   go_wp2_with fail
   go_loopw [5, 7] (fun v i wr => ∃ (k g cap L : Nat) (I : Int), k ≤ 8 ∧ -8 ≤ I ∧ I ≤ 56 ∧ Hid (I = 56 - 8 * (k : Int)) ∧ Hid (L = N + k) ∧ L ≤ 200 ∧ w.heap.size + 3 ≤ g ∧ Hid (OwnB wr (w.heap.size + 3) (.slice (some ⟨g, 0, none⟩) L cap) (P0 ++ (be 8 M.toNat).take k)) ∧ Hid (SS w wr (stOf l)) ∧ v = .slice (some ⟨g, 0, none⟩) L cap ∧ i = .int .i64 I) (fun _ i _ => (intOf i + 8).toNat)
   case atStart => exact ⟨0, g, cap, N, 56, by omega, by omega, by omega, rfl, rfl, by omega, hg, by simpa using HT, HS, rfl, rfl⟩
   case round =>
    clear HT HS HW hg
    obtain ⟨k, g, cap, L, I, hk, hI1, hI2, HI, HL, hL, hg, HT, HS, rfl, rfl⟩ := hrel
    by_cases hlt : 0 ≤ I
    ·have d0 : decide ((0 : Int) ≤ I) = true := by simpa using hlt
     have hk8 : k < 8 := by have := HI.out; omega
     obtain ⟨b, hb⟩ : ∃ b : UInt8, M / 2 ^ I.toNat % 256 = (b.toNat : Int) := ⟨UInt8.ofNat (M.toNat / 256 ^ (7 - k) % 256), by
      have e1 : I.toNat = 8 * (7 - k) := by have := HI.out; omega
      rw [e1]; exact byte_of M hM0.1 _⟩
     have Hb : Hid ((be 8 M.toNat).take (k + 1) = (be 8 M.toNat).take k ++ [b]) := by
      show _ = _
      rw [be_take_succ _ _ _ hk8]
      have e1 : I.toNat = 8 * (7 - k) := by have := HI.out; omega
      rw [e1, byte_of M hM0.1] at hb
      have h9 : (UInt8.ofNat (M.toNat / 256 ^ (7 - k) % 256)).toNat = b.toNat := by omega
      have h10 : UInt8.ofNat (M.toNat / 256 ^ (8 - 1 - k) % 256) = b := UInt8.toNat_inj.1 h9
      rw [h10]
     have hz := HS.out.size
     have hl : (P0 ++ (be 8 M.toNat).take k).length = L := by have := HL.out; have := HPl.out; rw [List.length_append, List.length_take, be_length]; omega
     obtain ⟨bs, hbs⟩ : ∃ bs, P0 ++ (be 8 M.toNat).take k = bs := ⟨_, rfl⟩
     rw [hbs] at HT hl
     have Hbs := Lib.hid hbs
     have Hl := Lib.hid hl
     clear hbs hl
     go_wp2_with (at_builtin; refine wpList_app1 wr 5 b rfl _ _ rfl (w.heap.size + 3) _ bs L Hl.out rfl HT.out _ rfl (by omega) hz ?_; intro g6 cap6 w6 hT6 hb6 hg6)
     go_roundw
     case rel =>
      refine ⟨k + 1, g6, cap6, L + 1, I - 8, by omega, by omega, by omega, ?_, ?_, by have := HL.out; omega, hg6, ?_, HS.out.below hb6, rfl, rfl⟩
      ·have := HI.out; show _ = _; omega
      ·have := HL.out; show _ = _; omega
      ·show OwnB _ _ _ _
       rw [Hb.out, ← List.append_assoc, Hbs.out]
       exact hT6
     case measure => simp [intOf]; omega
    ·have d0 : decide ((0 : Int) ≤ I) = false := by simpa using hlt
     obtain rfl : k = 8 := by have := HI.out; omega
     go_wp2_with fail
     obtain ⟨T, hT⟩ : ∃ T, P0 ++ (be 8 M.toNat).take 8 = T := ⟨_, rfl⟩
     rw [hT] at HT
     have hTl : T.length = L := by have := HL.out; have := HPl.out; rw [← hT, List.length_append, List.length_take, be_length]; omega
     have HTe : Hid (T = R ++ padOf l.length) := by
      show _ = _
      rw [← hT, ← HP0.out, List.take_of_length_le (by rw [be_length]; omega), List.append_assoc, List.cons_append]
      have e1 : M.toNat = 8 * l.length := by have := HM.out; omega
      have e2 : l.length % 64 = R.length % 64 := by rw [← HR.out, restOf_length]; omega
      rw [padOf_mod _ _ e2, HZ.out, e1]
     have hL64 : L % 64 = 0 := by have := HL.out; have := HNe.out; have := HZ.out; omega
     have HT0 := Lib.hid hT
     have HTl := Lib.hid hTl
     have HL64 := Lib.hid hL64
     obtain ⟨_, _, e, _, hcap⟩ := own_size HT.out
     have hcapL : L ≤ cap := by
      injection e with e1 e2 e3
      subst e3
      obtain ⟨_, _, _, _, h⟩ := hcap _ e1.symm
      omega
     clear hT hTl hL64 hcap e hlt
     go_loopw [5] (fun v wr => ∃ (q K C : Nat) (ad : Addr), Hid (K + 64 * q = L) ∧ K ≤ C ∧ Hid (0 < K → ad = ⟨g, 64 * q, none⟩) ∧ Hid (OwnB wr (w.heap.size + 3) (.slice (some ⟨g, 0, none⟩) L cap) T) ∧ Hid (SS w wr (shaN (stOf l) T q)) ∧ v = .slice (some ad) K C) (fun v _ => sliceLen v)
     case atStart => exact ⟨0, L, cap, _, by show _ = _; omega, hcapL, fun _ => rfl, HT, HS, rfl⟩
     case round =>
      clear HT HS
      obtain ⟨q, K, C, ad, HK, hKC, HA, HT, HS, rfl⟩ := hrel
      by_cases hlt : 0 < K
      ·have hK64 : 64 ≤ K := by have := HK.out; have := HL64.out; omega
       have had := HA.out hlt
       subst had
       have hs := slice64 ⟨g, 64 * q, none⟩ K C hK64
       have harr := arr64 ⟨g, 64 * q, none⟩ C
       have hC64 : 64 ≤ C := by omega
       go_upto_region 16 with fail
       have h64 : ((T.drop (64 * q)).take 64).length = 64 := by have := HTl.out; have := HK.out; rw [List.length_take, List.length_drop]; omega
       have hrg := HT.out.part (64 * q) 64
       have Hst : Hid (shaN (stOf l) T (q + 1) = shaBlock (shaN (stOf l) T q) ((T.drop (64 * q)).take 64)) := rfl
       obtain ⟨Y, hY⟩ : ∃ Y, (T.drop (64 * q)).take 64 = Y := ⟨_, rfl⟩
       rw [hY] at h64 hrg Hst
       have H64 := Lib.hid h64
       have Hrg := Lib.hid hrg
       clear hY h64 hrg
       obtain ⟨V, hV⟩ : ∃ V, shaN (stOf l) T q = V := ⟨_, rfl⟩
       rw [hV] at HS Hst
       clear hV
       have HV := Lib.hid HS.out.sb
       go_upto_region 15 with (first
        | (refine wpList_load64 rfl _ rfl g (64 * q) rfl Y H64.out Hrg.out ?_)
        | (go_at_call 93; refine (block_any (w.heap.size + 1 + 1) 0 V Y (words8 V) _ wr H64.out HV (by show 0 + 8 ≤ 8; omega) (words8_get _)).mono ?_; rintro e w5 ⟨rfl, hp5, hk5⟩))
       rw [lay8_words] at hp5
       have HS5 := Lib.hid (HS.out.block hk5 hp5)
       have HT5 := Lib.hid (OwnB.mod (w := wr) HT.out (Mod.kept (S := fun k => k = w.heap.size + 1 + 1) hk5 rfl) (fun k h e => by have := own_blk h; omega))
       clear hp5 hk5
       go_wp2_with fail
       refine ⟨⟨q + 1, K - 64, C - 64, nextA ⟨g, 64 * q, none⟩ C, ?_, by omega, ?_, HT5, by rw [Hst.out]; exact HS5, rfl⟩, by simp [sliceLen]; omega⟩
       ·have := HK.out; show _ = _; omega
       ·intro h
        unfold nextA
        rw [if_neg (by omega), add_flat1, Nat.mul_add]
      ·obtain rfl : K = 0 := by omega
       have HF : Hid (sha256 l = shaOut (shaN (stOf l) T q)) := by
        show _ = _
        rw [sha256_eq, HR.out, ← HTe.out]
        have e1 : T.length / 64 = q := by have := HTl.out; have := HK.out; omega
        rw [e1]
       obtain ⟨V, hV⟩ : ∃ V, shaN (stOf l) T q = V := ⟨_, rfl⟩
       rw [hV] at HS HF
       have HVB : VB wr (w.heap.size + 1 + 1) V := HS.out.sb
       obtain ⟨v1, v2, v3, v4, v5, v6, v7, v8⟩ := VB.cells HVB
       go_upto_region 18 with fail
       clear hV HT HA HK HT0 HTl HL64 HTe HP0 HPl HM HNe HR HZ HI HL hI1 hI2 hL hk hKC hcapL hlt
       have HD0 := Lib.hid HS.out.d0
       have HD1 := Lib.hid HS.out.d1
       have HBe := Lib.hid HS.out.bel
       rw [← lay32_zero (shaOut V)] at HD1
       clear HS HVB v1 v2 v3 v4 v5 v6 v7 v8 hg
       go_loopw [61] (fun t wr => ∃ (i : Nat), i ≤ 8 ∧ Hid (DB wr w.heap.size zeros32) ∧ Hid (DB wr (w.heap.size + 1) (lay32 (shaOut V) (4 * i))) ∧ Hid (Below w.heap.size w wr) ∧ t = .int .i64 (i : Int)) (fun t _ => 8 - (intOf t).toNat)
       case atStart => exact ⟨0, by omega, HD0, HD1, HBe, rfl⟩
       case round =>
        clear HD0 HD1 HBe
        obtain ⟨i, hi, HD0, HD1, HBe, rfl⟩ := hrel
        by_cases hlt : i < 8
        ·have hix := fun w => index8 V w i hlt
         have hob := fun k hk => out_byte V i k hlt hk
         obtain ⟨X, hX⟩ : ∃ X, V.list.getD i 0 = X := ⟨_, rfl⟩
         rw [hX] at hix hob
         have Hob := Lib.hid hob
         clear hX hob
         go_upto_region 20 with fail
         clear hix
         go_upto_region 21 with fail
         go_loopw [65] (fun t wr => ∃ (k : Nat), k ≤ 4 ∧ Hid (DB wr w.heap.size zeros32) ∧ Hid (DB wr (w.heap.size + 1) (lay32 (shaOut V) (4 * i + k))) ∧ Hid (Below w.heap.size w wr) ∧ t = .int .i64 (k : Int)) (fun t _ => 4 - (intOf t).toNat)
         case atStart => exact ⟨0, by omega, HD0, HD1, HBe, rfl⟩
         case round =>
          clear HD0 HD1 HBe
          obtain ⟨k, hk, HD0, HD1, HBe, rfl⟩ := hrel
          by_cases hlk : k < 4
          ·obtain ⟨b, hb1, hb2⟩ := Hob.out k hlk
           have hl32 := lay32_length (shaOut V) (4 * i + k) (shaOut_length V) (by omega)
           obtain ⟨old, c1⟩ : ∃ old : Value, wr.cell? ⟨w.heap.size + 1, 4 * i + k, none⟩ = some old := ⟨_, HD1.out.cell (4 * i + k) (by omega)⟩
           have f1 := HD1.out.free (4 * i + k)
           have Hb1 := Lib.hid hb1
           clear hb1 hl32
           go_wp2_with fail
           refine ⟨⟨k + 1, by omega, heap_setOther HD0.out (by show w.heap.size ≠ w.heap.size + 1; omega) _, ?_, HBe.out.setCell (by show w.heap.size ≤ w.heap.size + 1; omega) _, by go_num⟩, by simp [intOf]; omega⟩
           have h1 := HD1.out.set (4 * i + k) b
           rw [lay32_succ _ _ _ (shaOut_length V) (by omega) Hb1.out] at h1
           exact h1
          ·obtain rfl : k = 4 := by omega
           go_wp2_with fail
           exact ⟨⟨i + 1, by omega, HD0, by rw [Nat.mul_add]; exact HD1, HBe, by go_num⟩, by simp [intOf]; omega⟩
        ·obtain rfl : i = 8 := by omega
         go_upto_region 26 with fail
         have HD2 : DB wr (w.heap.size + 1) (shaOut V) := by have := HD1.out; rw [lay32_all _ (shaOut_length V)] at this; exact this
         have h32 : ((shaOut V).map bv).length = 32 := (List.length_map _).trans (shaOut_length V)
         refine wp_region_list ?_
         refine wpList_load_mid rfl 23 _ rfl (w.heap.size + 1) 0 rfl ((shaOut V).map bv) _ (range_all HD2) Try.underlying23 rfl (info_D.trans (congrArg some h32.symm)) ?_
         refine wpList_store_mid rfl 23 _ _ rfl w.heap.size 0 ((shaOut V).map bv).toArray rfl rfl (by have := there_all HD0.out; simpa [zeros32, shaOut_length] using this) (info_D.trans (congrArg some h32.symm)) (by simp [bv]; intros; rfl) ?_
         refine wpList_name (fun W => DB W w.heap.size (shaOut V) ∧ Below w.heap.size w W) ⟨HD0.out.store (shaOut V) (by rw [shaOut_length]; rfl), HBe.out.trans (setCells_below _ _ _ _ _ (Nat.le_refl _))⟩ (fun W2 hW2 => ?_)
         have hd := hW2.1.load (shaOut_length V)
         have HB2 := Lib.hid hW2.2
         have Hd := Lib.hid hd
         clear hW2 hd
         go_wp2_with fail
         refine bodyPost_ret (v := .agg ((shaOut V).map bv).toArray) ?_ rfl ⟨by rw [HF.out], HB2.out⟩
         exact results_cell1 Try.results88 rfl Hd.out
end Go.Proofs.Ytihbhpggpnmifaa
namespace Go.Proofs.Ytihbhpggpnmifaa
open Go.RowKit Go.Lib Hw
theorem StrRow.one (w : World) (x : ByteArray) (t : TypeId) : StrRow (w.alloc (.cells #[.string x] t)) (.slice (some ⟨w.heap.size, 0, none⟩) 1 1) [x] := by
 refine ⟨some ⟨w.heap.size, 0, none⟩, 1, rfl, (fun h => by cases h), fun _ => ⟨w.heap.size, 0, rfl, fun i h => ?_⟩⟩
 have hn := cell_of_row (w.alloc (.cells #[.string x] t)) w.heap.size (0 + i) #[.string x] t (0, 0) (heap_alloc_new w _)
 rw [hn]
 match i, h with
 | 0, _ => rfl
def dv (l : List UInt8) : Value := .agg (l.map bv).toArray
theorem setCells_hs (vs : List Value) (w : World) (b o : Nat) : (w.setCells b o vs).heap.size = w.heap.size := by
 induction vs generalizing o w with
 | nil => rfl
 | cons v r ih => exact (ih _ _).trans (by simp [World.setCell])
theorem wpList_storeD {ops : Array Oper} {rest : List Oper} {o : Oper} {a : Act} {w : World} {Q : Exit → Act → World → Prop} (hgd : o.guard = none) (x y : Operand) (ho : o.op = .store 23 x y) (b : Nat) (hx : a.eval x = .pointer (some ⟨b, 0, none⟩)) (l m : List UInt8) (hl : l.length = 32) (hm : m.length = 32) (hy : a.eval y = dv m) (hd : DB w b l)
  (h : ∀ W, DB W b m → Below b w W → Kept b w W → W.heap.size = w.heap.size → wpList Try.prog ops Q rest (a.put o.dst undef) W) : wpList Try.prog ops Q (o :: rest) a w := by
 refine wpList_store_mid hgd 23 _ _ ho b 0 (m.map bv).toArray hx hy ?_ (info_D.trans (congrArg some ((List.length_map _).trans hm).symm)) (by simp [bv]; intros; rfl) ?_
 ·have := there_all hd
  simpa [hl, hm] using this
 ·refine h _ (hd.store m (by omega)) (setCells_below _ _ _ _ _ (Nat.le_refl _)) ?_ (setCells_hs ..)
  have h1 := setCells_below (m.map bv) w b 0 b (Nat.le_refl _)
  exact ⟨h1.os, h1.tape, h1.output, h1.size, fun k _ hk => setCells_other _ _ _ _ _ hk⟩
set_option maxHeartbeats 2000000 in
theorem Sum_any (s : ByteArray) (w : World) (hs : s.size ≤ 1000000000000000000) :
  Calls Try.prog 83 #[.string s] w fun e w' => e = .returned (dv (sha256 s.data.toList)) ∧ Below w.heap.size w w' := by
 go_enter Try.func83, Try.ntmps83
 go_upto_region 0 with fail
 refine wp_region_list ?_
 refine wpList_allocB rfl 23 rfl w.heap.size rfl _ zero_D ?_
 intro w1 h1 hB1 hz1
 have Hd0 := Lib.hid h1
 have HB1 := Lib.hid hB1
 clear h1 hB1
 go_wp2_with fail
 refine (New_any _).mono ?_
 rintro e w2 ⟨p, rfl, hp1, hp2, hH2, hb2⟩
 have HH2 := Lib.hid hH2
 have HB2 := Lib.hid hb2
 clear hH2 hb2
 go_wp2_with fail
 have hz2 := HB2.out.size
 have hlt2 := HH2.out.lt
 have Hw : Hid (HashB (w2.alloc (.cells #[.string s] 9)) (w.heap.size + 1) p (.slice none 0 0) [] (([] : List UInt8).length : Nat)) := by
  have := HH2.out.below ((Below.refl w2.heap.size w2).alloc (Nat.le_refl _) (.cells #[.string s] 9)) hp2 hlt2.2
  rw [hz1] at this
  exact this
 have hB : w.heap.size + 1 ≤ (w2.alloc (.cells #[.string s] 9)).heap.size := by simp only [World.size_alloc]; omega
 refine (Write_any (w.heap.size + 1) p (.slice none 0 0) [] _ [s] _ Hw (StrRow.one _ _ _) ?_ hB (by simp) ?_).mono ?_
 ·intro k hk
  have h1 : w2.heap.size = k := Option.some.inj hk
  rintro (h | h)
  ·omega
  ·cases h
 ·have h1 : (flat [s]).length = s.size := by simp only [flat, List.flatMap_cons, List.flatMap_nil, List.append_nil, data_len]
  rw [h1]
  simp only [List.length_nil]
  omega
 rintro e w4 ⟨rv', rfl, hH4, hO4, hM4⟩
 have hl : [] ++ flat [s] = s.data.toList := by simp [flat]
 rw [hl] at hH4
 have HH4 := Lib.hid hH4
 have HB4 := Lib.hid (hM4.below (n := w.heap.size + 1) (fun k hk h => h.elim (fun h => by omega) (fun h => by cases h)) hB)
 clear hH4 hO4 hM4 Hw hlt2
 go_wp2_with fail
 refine (HSum_any _ _ _ _ _ HH4 (by rw [data_len]; exact hs)).mono ?_
 rintro e w5 ⟨rfl, hb5⟩
 have hz4 := HB4.out.size
 have HD5 : Hid (DB w5 w.heap.size zeros32) := heap_below (heap_below (heap_alloc (heap_below Hd0.out HB2.out (by omega))) HB4.out (by omega)) hb5 (by omega)
 have HB5 : Hid (Below w.heap.size w w5) := (((HB1.out.trans (HB2.out.mono (by omega))).alloc (by omega) _).trans (HB4.out.mono (by omega))).trans (hb5.mono (by omega))
 have h32 : zeros32.length = 32 := rfl
 have Hl := Lib.hid (sha256_length s.data.toList)
 clear hb5 HB4 HH4 hz4 HB2 HH2 Hd0 HB1
 go_wp2_with (refine wpList_storeD rfl _ _ rfl w.heap.size rfl zeros32 (sha256 s.data.toList) h32 Hl.out rfl HD5.out ?_; intro w6 hd6 hb6 hk6 hz6)
 refine bodyPost_ret (v := dv (sha256 s.data.toList)) ?_ rfl ⟨rfl, HB5.out.trans hb6⟩
 exact results_cell1 Try.results83 rfl (DB.load hd6 Hl.out)
end Go.Proofs.Ytihbhpggpnmifaa
namespace Go.Proofs.Ytihbhpggpnmifaa
open Go.RowKit Go.Lib Hw
theorem wpList_appSt {ops : Array Oper} {rest : List Oper} {o : Oper} {a : Act} {Q : Exit → Act → World → Prop} (w : World) (hgd : o.guard = none) (sl x : Operand)
  (ho : o.op = .call { callee := .builtin .append, args := #[sl, x], argTypes := #[121, 9] })
  (B : Nat) (v : Value) (bs : List UInt8) (hs : a.eval sl = v) (hown : OwnB w B v bs) (s : ByteArray) (hx : a.eval x = .string s)
  (hlen : bs.length + s.size ≤ 140737488355328) (hB : B ≤ w.heap.size)
  (h : ∀ v' w', OwnB w' B v' (bs ++ s.data.toList) → Below B w w' →
   wpList Try.prog ops Q rest (a.put o.dst v') w') : wpList Try.prog ops Q (o :: rest) a w := by
 obtain ⟨i, hi, hz0, hz1, hz2⟩ := info_parts info_u8
 refine wpList_append_own_string w hgd sl x 121 9 ho B 5 i Try.underlying121 Try.underlying9 hi hz0 hz1 hz2 v bs.length (bs.map bv) hs hown s hx (by rw [maxLen_eq]; omega) hlen hB ?_
 intro v' w' h1 h2 h3
 refine h v' w' ?_ ((Below.refl B w).grown h2 hB (fun k hk => (World.ownsRow.lt hown k hk).1))
 unfold OwnB
 rw [List.length_append, List.map_append, data_len]
 exact h1
theorem wpList_appN {ops : Array Oper} {rest : List Oper} {o : Oper} {a : Act} {Q : Exit → Act → World → Prop} (W : World) (t : TypeId) (new : List UInt8) (hpos : 0 < new.length) (hgd : o.guard = none) (s x : Operand)
  (ho : o.op = .call { callee := .builtin .append, args := #[s, x], argTypes := #[121, 121] })
  (B : Nat) (v : Value) (bs : List UInt8) (hs : a.eval s = v) (hown : OwnB W B v bs) (c : Nat) (hx : a.eval x = .slice (some ⟨W.heap.size, 0, none⟩) new.length c)
  (hlen : bs.length + new.length ≤ 140737488355328) (hB : B ≤ W.heap.size)
  (h : ∀ v' w', OwnB w' B v' (bs ++ new) → Below B W w' → wpList Try.prog ops Q rest (a.put o.dst v') w') :
  wpList Try.prog ops Q (o :: rest) a (W.alloc (.cells (new.map bv).toArray t)) := by
 refine wpList_appB _ hgd s x ho B v bs hs (hown.alloc _) ⟨W.heap.size, 0, none⟩ c new hx ?_ hpos hlen (by simp only [World.size_alloc]; omega) _ rfl ?_
 ·intro j hj
  rw [add_flat1, Nat.zero_add, heap_cell (heap_alloc_new W _)]
  simp [List.getElem?_eq_getElem hj]
 ·intro g cap w' h1 h2 h3 h4
  rw [← List.length_append] at h1 ⊢
  exact h _ w' h1 (((Below.refl B W).alloc hB _).grown h2 (by simp only [World.size_alloc]; omega) (fun k hk => (World.ownsRow.lt hown k hk).1))
theorem StrRow.below' {w w' : World} {v : Value} {ss : List ByteArray} (h : StrRow w v ss) (hb : Below w.heap.size w w') : StrRow w' v ss := h.mod (Mod.of (fun _ => False) hb) (fun _ _ h => h)
def partL (s : ByteArray) : List UInt8 := be 4 s.size ++ s.data.toList
def textL (tag : ByteArray) (ss : List ByteArray) : List UInt8 := UInt8.ofNat tag.size :: (tag.data.toList ++ ss.flatMap partL)
theorem partL_length (s : ByteArray) : (partL s).length = 4 + s.size := by rw [partL, List.length_append, be_length, data_len]
theorem parts_le (ss : List ByteArray) (k : Nat) : ((ss.take k).flatMap partL).length ≤ (ss.flatMap partL).length := by
 conv => rhs; rw [← List.take_append_drop k ss]
 rw [List.flatMap_append, List.length_append]
 omega
theorem parts_succ (ss : List ByteArray) (k : Nat) (h : k < ss.length) : (ss.take (k + 1)).flatMap partL = (ss.take k).flatMap partL ++ partL ss[k] := by
 rw [List.take_succ_eq_append_getElem h, List.flatMap_append]; simp
theorem four_bytes (n : Nat) : ∃ b0 b1 b2 b3 : UInt8, be 4 n = [b0, b1, b2, b3] ∧ (n : Int) % 4294967296 / 16777216 = (b0.toNat : Int) ∧ (n : Int) % 4294967296 / 65536 % 256 = (b1.toNat : Int) ∧ (n : Int) % 4294967296 / 256 % 256 = (b2.toNat : Int) ∧ (n : Int) % 4294967296 % 256 = (b3.toNat : Int) := by
 refine ⟨_, _, _, _, rfl, ?_, ?_, ?_, ?_⟩ <;> simp only [UInt8.toNat_ofNat'] <;> omega
theorem strRow_form {w : World} {v : Value} {ss : List ByteArray} (h : StrRow w v ss) : ∃ ad c, v = .slice ad ss.length c ∧ (0 < ss.length → ∃ b o, ad = some ⟨b, o, none⟩ ∧ ∀ i (h : i < ss.length), w.cell? ⟨b, o + i, none⟩ = some (.string ss[i])) := by
 obtain ⟨ad, c, e, _, h⟩ := h
 exact ⟨ad, c, e, h⟩
theorem not_empty (s : ByteArray) (h : ¬ s.size = 0) : s.toList.isEmpty = false := by
 rw [List.isEmpty_eq_false_iff]; intro h2; apply h
 rw [Go.ByteArray.toList_eq] at h2
 rw [← data_len, h2]; rfl
theorem OwnB.lit (w : World) (bs : List UInt8) (n : Nat) (hn : bs.length = n) (hm : n ≤ 9223372036854775807) : OwnB (w.alloc (.cells (bs.map bv).toArray 5)) w.heap.size (.slice (some ⟨w.heap.size, 0, none⟩) n n) bs := by
 subst hn
 refine ⟨by simp, .inr ⟨w.heap.size, bs.length, _, rfl, Nat.le_refl _, heap_alloc_new w _, Nat.le_refl _, by rw [maxLen_eq]; omega, by simp, ?_⟩⟩
 simp only [Nat.mul_one]
 rw [List.take_of_length_le (by simp)]
def badTag (tag : ByteArray) : Bool := tag.size == 0 || decide (64 < tag.size)
set_option maxHeartbeats 2000000 in
theorem Text_bad (tag : ByteArray) (v : Value) (w : World) (ht : badTag tag = true) (hs : tag.size ≤ 9223372036854775807) :
  Calls Try.prog 63 #[.string tag, v] w fun e w' => e = .returned (.tuple #[.string ⟨#[]⟩, .int .i64 20]) ∧ w = w' := by
 by_cases h0 : tag.size = 0
 ·have he : tag = ⟨#[]⟩ := by cases tag with | mk d => have : d.size = 0 := h0; simp at this; subst this; rfl
  subst he
  clear h0 ht hs
  go_enter Try.func63, Try.ntmps63
  go_wp2_with fail
  exact bodyPost_ret (v := .tuple #[.string ⟨#[]⟩, .int .i64 20]) (by simp [results, Try.results63, go_sem]) rfl ⟨rfl, rfl⟩
 ·have h1 : 64 < tag.size := by simp [badTag, h0] at ht; exact ht
  have h2 : tag.toList.isEmpty = false := not_empty tag h0
  clear h0 ht
  go_enter Try.func63, Try.ntmps63
  go_wp2_with fail
  exact bodyPost_ret (v := .tuple #[.string ⟨#[]⟩, .int .i64 20]) (by simp [results, Try.results63, go_sem]) rfl ⟨rfl, rfl⟩
set_option maxHeartbeats 4000000 in
theorem Text_any (tag : ByteArray) (v : Value) (ss : List ByteArray) (w : World) (ht : badTag tag = false) (hv : Hid (StrRow w v ss)) (hlen : tag.size + (ss.flatMap partL).length < 140737488355328) (hn : ss.length ≤ 9223372036854775807) :
  Calls Try.prog 63 #[.string tag, v] w fun e w' => e = .returned (.tuple #[.string ⟨(textL tag ss).toArray⟩, .int .i64 0]) ∧ Below w.heap.size w w' := by
 have h0 : ¬ tag.size = 0 := by intro h; simp [badTag, h] at ht
 have h1 : ¬ 64 < tag.size := by intro h; simp [badTag, h] at ht
 have h2 := not_empty tag h0
 have h3 : tag.size < 256 := by omega
 obtain ⟨ad, c, rfl, hcell⟩ := strRow_form hv.out
 have Hc := Lib.hid hcell
 obtain ⟨b, hb⟩ : ∃ b : UInt8, (tag.size : Int) = (b.toNat : Int) := ⟨UInt8.ofNat tag.size, by simp only [UInt8.toNat_ofNat']; omega⟩
 have HB := Lib.hid hb
 have Hb : Hid (UInt8.ofNat tag.size = b) := by
  apply UInt8.toNat_inj.1
  simp only [UInt8.toNat_ofNat']
  omega
 clear hcell h0 ht hv hb
 go_enter Try.func63, Try.ntmps63
 go_upto_region 4 with (at_builtin; refine wpList_appSt _ rfl _ _ rfl w.heap.size (.slice (some ⟨w.heap.size, 0, none⟩) 1 1) [b] rfl (by rw [HB.out]; exact OwnB.lit w [b] 1 rfl (by omega)) tag rfl (by simp only [List.length_singleton]; omega) (by simp) ?_; intro v1 w1 hv1 hb1)
 have HV1 := Lib.hid hv1
 have HB1 := Lib.hid (((Below.refl w.heap.size w).alloc (Nat.le_refl _) _).trans hb1)
 clear hv1 hb1
 go_wp2_with fail
 go_loopw [6, 25] (fun v i wr => ∃ (k : Nat), k ≤ ss.length ∧ Hid (OwnB wr w.heap.size v ([b] ++ tag.data.toList ++ (ss.take k).flatMap partL)) ∧ Hid (Below w.heap.size w wr) ∧ i = .int .i64 (k : Int)) (fun _ i _ => ss.length - (intOf i).toNat)
 case atStart => exact ⟨0, by omega, by simpa using HV1, HB1, rfl⟩
 case round =>
  clear HV1 HB1
  obtain ⟨k, hk, HV, HBe, rfl⟩ := hrel
  by_cases hlt : k < ss.length
  ·obtain ⟨bb, o, rfl, hcl⟩ := Hc.out (by omega)
   have hcell := cellB HBe.out (World.block_lt_of_cell? _ _ (hcl k hlt)) (hcl k hlt)
   have hpl := parts_le ss (k + 1)
   have hps := parts_succ ss k hlt
   obtain ⟨s, hs⟩ : ∃ s, ss[k] = s := ⟨_, rfl⟩
   rw [hs] at hps hcell
   rw [hps, List.length_append, partL_length] at hpl
   have Hps := Lib.hid hps
   clear hcl hs hps
   obtain ⟨b0, b1, b2, b3, hbe, e0, e1, e2, e3⟩ := four_bytes s.size
   have Hbe := Lib.hid hbe
   clear hbe
   have hz := HBe.out.size
   obtain ⟨bs, hbs⟩ : ∃ bs, [b] ++ tag.data.toList ++ (ss.take k).flatMap partL = bs := ⟨_, rfl⟩
   have hbl : bs.length = 1 + tag.size + ((ss.take k).flatMap partL).length := by rw [← hbs, List.length_append, List.length_append, data_len]; rfl
   rw [hbs] at HV
   have Hbs := Lib.hid hbs
   have Hbl := Lib.hid hbl
   clear hbs hbl
   go_upto_region 8 with fail
   set_option maxRecDepth 100000 in
   go_upto_region 9 with (at_builtin; refine wpList_appN wr 5 [b0, b1, b2, b3] (by simp) rfl _ _ rfl w.heap.size u6 bs rfl HV.out _ rfl (by have := Hbl.out; simp only [List.length_cons, List.length_nil]; omega) hz ?_; intro v2 w2 hv2 hb2)
   have hl2 := Hbl.out
   have hbz := hb2.size
   go_wp2_with (at_builtin; refine wpList_appSt _ rfl _ _ rfl w.heap.size v2 (bs ++ [b0, b1, b2, b3]) rfl hv2 s rfl (by rw [List.length_append]; simp only [List.length_cons, List.length_nil]; omega) (by omega) ?_; intro v3 w3 hv3 hb3)
   have hfin : OwnB w3 w.heap.size v3 ([b] ++ tag.data.toList ++ (ss.take (k + 1)).flatMap partL) := by
    rw [Hps.out, ← List.append_assoc, Hbs.out, partL, Hbe.out, ← List.append_assoc]; exact hv3
   exact ⟨⟨k + 1, by omega, hfin, (HBe.out.trans hb2).trans hb3, by go_num⟩, by simp [intOf]; omega⟩
  ·obtain rfl : k = ss.length := by omega
   have hcv := conv_own HV.out
   have HL : Hid ([b] ++ tag.data.toList ++ (ss.take ss.length).flatMap partL = textL tag ss) := by
    show _ = _
    rw [List.take_length, textL, Hb.out, List.append_assoc]; rfl
   rw [HL.out] at hcv
   go_wp2_with fail
   exact bodyPost_ret (v := .tuple #[.string ⟨(textL tag ss).toArray⟩, .int .i64 0]) (by simp [results, Try.results63, go_sem]) rfl ⟨rfl, HBe.out⟩
/-! digests in the walk -/
section
variable {ops : Array Oper} {rest : List Oper} {op : Oper} {a : Act} {w : World} {Q : Exit → Act → World → Prop}
theorem wpList_boxD (hg : op.guard = none) (x : Operand) (ho : op.op = .box 23 x) (l : List UInt8) (hx : a.eval x = dv l) (N : Nat) (hN : w.heap.size = N)
  (h : ∀ W, DB W N l → Below N w W → W.heap.size = N + 1 → wpList Try.prog ops Q rest (a.put op.dst (.pointer (some ⟨N, 0, none⟩))) W) : wpList Try.prog ops Q (op :: rest) a w :=
 wpList_boxB hg 23 x ho N hN _ (congrArg Value.cells hx) h
theorem wpList_allocD (hg : op.guard = none) (ho : op.op = .alloc 23) (N : Nat) (hN : w.heap.size = N)
  (h : ∀ W, DB W N zeros32 → Below N w W → W.heap.size = N + 1 → wpList Try.prog ops Q rest (a.put op.dst (.pointer (some ⟨N, 0, none⟩))) W) : wpList Try.prog ops Q (op :: rest) a w :=
 wpList_allocB hg 23 ho N hN _ zero_D h
theorem build_D (ρ : Operand → Value) (o : Oper) (ho : o.op = .build 23 #[]) (w : World) : (execOp ρ o).run Try.prog w = .ok (.value (dv zeros32)) w := by
 obtain ⟨a, b, c, d, e, f⟩ := o
 cases ho
 kernel_rfl
theorem wpList_buildD (hg : op.guard = none) (ho : op.op = .build 23 #[])
  (h : wpList Try.prog ops Q rest (a.put op.dst (dv zeros32)) w) : wpList Try.prog ops Q (op :: rest) a w := by
 refine wpList_plain hg fun K hK => ?_
 unfold Oper.wp
 rw [build_D _ _ ho]
 exact hK _ _ h
theorem wpList_loadD (hg : op.guard = none) (x : Operand) (ho : op.op = .load 23 x) (b : Nat) (hx : a.eval x = .pointer (some ⟨b, 0, none⟩)) (l : List UInt8) (hl : l.length = 32) (hd : DB w b l)
  (h : wpList Try.prog ops Q rest (a.put op.dst (dv l)) w) : wpList Try.prog ops Q (op :: rest) a w :=
 wpList_load_mid hg 23 x ho b 0 hx (l.map bv) _ (range_all (cs := l.map bv) hd) Try.underlying23 rfl (info_D.trans (congrArg some ((List.length_map _).trans hl).symm)) h
end
theorem wpList_loadDg {ops : Array Oper} {rest : List Oper} {op : Oper} {a : Act} {w : World} {Q : Exit → Act → World → Prop} (hg : Region.wanted op (yielded ops a.tmps) = true) (x : Operand) (ho : op.op = .load 23 x) (b : Nat) (hx : a.eval x = .pointer (some ⟨b, 0, none⟩)) (l : List UInt8) (hl : l.length = 32) (hd : DB w b l)
  (h : wpList Try.prog ops Q rest (a.put op.dst (dv l)) w) : wpList Try.prog ops Q (op :: rest) a w :=
 wpList_step fun K hK => by
  rw [if_pos hg]
  exact wp_load_mid 23 x ho b 0 hx (l.map bv) _ (range_all (cs := l.map bv) hd) Try.underlying23 rfl (info_D.trans (congrArg some ((List.length_map _).trans hl).symm)) (hK _ _ h)
theorem results_DE {fn : Func} {tmps : Array Value} {a b : Nat} {b2 : Nat} {l : List UInt8} {e : Value} {w : World} (hr : fn.results = #[.cell a 23, .tmp b]) (ha : tmps.getD a undef = .pointer (some ⟨b2, 0, none⟩)) (hb : tmps.getD b undef = e) (hl : l.length = 32) (hd : DB w b2 l) :
  (results fn tmps).run Try.prog w = .ok (.tuple #[dv l, e]) w := by
 have h1 := hd.load hl
 unfold results
 rw [hr]
 have ha' : tmps[a]?.getD undef = .pointer (some ⟨b2, 0, none⟩) := by rw [← ha]; simp
 have hb' : tmps[b]?.getD undef = e := by rw [← hb]; simp
 simp [ha', hb', h1, asAddr, dv]
theorem zeros32_length : zeros32.length = 32 := rfl
set_option maxHeartbeats 4000000 in
theorem Cut_no (n : Int) (l : List UInt8) (w : World) (hw : (decide (1 ≤ n) && decide (n ≤ 32)) = false) :
  Calls Try.prog 82 #[.int .i64 n, dv l] w fun e w' => e = .returned (.tuple #[dv zeros32, .int .i64 2]) ∧ Below w.heap.size w w' := by
 have HW := Lib.hid hw
 clear hw
 go_enter Try.func82, Try.ntmps82
 go_upto_region 1 with (first
  | (refine wpList_boxD rfl _ rfl l rfl w.heap.size rfl ?_; intro w1 hd1 hb1 hz1)
  | (refine wpList_allocD rfl rfl (w.heap.size + 1) hz1 ?_; intro w2 hd2 hb2 hz2))
 have HD := Lib.hid hd2
 have HB := Lib.hid (hb1.trans (hb2.mono (by omega)))
 clear hd1 hb1 hz1 hd2 hb2 hz2
 go_upto_region 2 with (go_at_call 73; refine (wide_any _ _).mono ?_; rintro e w3 ⟨rfl, rfl⟩; rw [HW.out])
 go_wp2_with (first
  | (refine wpList_buildD rfl rfl ?_)
  | (refine wpList_storeD rfl _ _ rfl (w.heap.size + 1) rfl zeros32 zeros32 rfl rfl rfl HD.out ?_; intro w6 hd6 hb6 hk6 hz6))
 refine bodyPost_ret (v := .tuple #[dv zeros32, .int .i64 2]) ?_ rfl ⟨rfl, HB.out.trans (hb6.mono (by omega))⟩
 exact results_DE Try.results82 rfl rfl rfl hd6
theorem splice_lay (l : List UInt8) (m : Nat) (hl : l.length = 32) (hm : m ≤ 32) : splice (zeros32.map bv) 0 ((l.take m).map bv) = (lay32 l m).map bv := by
 unfold splice lay32 zeros32
 simp only [List.take_zero, List.nil_append, List.length_map, Nat.zero_add, List.map_append, List.length_take]
 rw [Nat.min_eq_left (by omega), ← List.map_drop, List.drop_replicate]
theorem cut_cell {w : World} {b : Nat} {l : List UInt8} (h : DB w b l) (m : Nat) (hm : m ≤ 32) (hl : l.length = 32) (j : Nat) (v : Value) (hv : ((l.take m).map bv)[j]? = some v) : w.cell? ⟨b, j, none⟩ = some v := by
 rw [heap_cell h]
 rw [List.getElem?_map, List.getElem?_take] at hv
 split at hv
 ·simpa using hv
 ·cases hv
theorem info_u8c : (Try.prog.info? 5).map (·.size) = some 1 := by kernel_rfl
set_option maxHeartbeats 4000000 in
theorem Cut_yes (n : Int) (l : List UInt8) (w : World) (h1 : 1 ≤ n) (h2 : n ≤ 32) (hl : l.length = 32) :
  Calls Try.prog 82 #[.int .i64 n, dv l] w fun e w' => e = .returned (.tuple #[dv (lay32 l n.toNat), .int .i64 0]) ∧ Below w.heap.size w w' := by
 have HW := Lib.hid (show (decide (1 ≤ n) && decide (n ≤ 32)) = true by simp [h1, h2])
 go_enter Try.func82, Try.ntmps82
 go_upto_region 1 with (first
  | (refine wpList_boxD rfl _ rfl l rfl w.heap.size rfl ?_; intro w1 hd1 hb1 hz1)
  | (refine wpList_allocD rfl rfl (w.heap.size + 1) hz1 ?_; intro w2 hd2 hb2 hz2))
 have HD1 := Lib.hid (hd1.below hb2 (by omega))
 have HD2 := Lib.hid hd2
 have HB := Lib.hid (hb1.trans (hb2.mono (by omega)))
 clear hd1 hb1 hz1 hd2 hb2
 set_option maxRecDepth 20000 in
 go_upto_region 4 with (first
  | (go_at_call 73; refine (wide_any _ _).mono ?_; rintro e w3 ⟨rfl, rfl⟩; rw [HW.out])
  | (refine wpList_allocD rfl rfl (w.heap.size + 1 + 1) hz2 ?_; intro w4 hd4 hb4 hz4))
 try simp only [Act.put,nA,nB,nC]
 obtain ⟨m, rfl⟩ : ∃ m : Nat, n = m := ⟨n.toNat, by omega⟩
 have hm0 : (0 : Int) ≤ m := by omega
 have hm1 : m ≤ 32 := by omega
 refine wp_region_held_drew (S := fun _ => True) (by kernel_rfl) trivial (fun hHeld => ?_)
 refine' tQ 0 ⟨some 11, .move (.tmp 0), 3, "text.go:53", #[], none⟩ rfl (by kernel_rfl) (Or.inl ⟨by rfl, _⟩) _; rotate_left; · (intro s h; (try dsimp only at h); go_simp; try with_reducible rfl)
 try simp only [Act.put,nA,nB,nC]
 refine' tQ 1 ⟨some 12, .slice 23 (.tmp 6) none (some (.tmp 11)) none, 121, "text.go:53", #[⟨0, .data⟩], none⟩ rfl (by kernel_rfl) (Or.inl ⟨by rfl, _⟩) _; rotate_left; · (intro s h; (try dsimp only at h); go_simp; try with_reducible rfl)
 try simp only [Act.put,nA,nB,nC]
 refine' tQ 2 ⟨some 13, .move (.tmp 0), 3, "text.go:53", #[], none⟩ rfl (by kernel_rfl) (Or.inl ⟨by rfl, _⟩) _; rotate_left; · (intro s h; (try dsimp only at h); go_simp; try with_reducible rfl)
 try simp only [Act.put,nA,nB,nC]
 refine' tQ 3 ⟨some 14, .slice 23 (.tmp 3) none (some (.tmp 13)) none, 121, "text.go:53", #[⟨2, .data⟩], none⟩ rfl (by kernel_rfl) (Or.inl ⟨by rfl, _⟩) _; rotate_left; · (intro s h; (try dsimp only at h); go_simp; try with_reducible rfl)
 try simp only [Act.put,nA,nB,nC]
 have HD3 := Lib.hid (HD1.out.below hb4 (by omega))
 have HD4 := Lib.hid (HD2.out.below hb4 (by omega))
 have HD5 := Lib.hid hd4
 have hB4 := hb4
 refine wpAnyH_ready (rs := [4]) (by kernel_rfl) (by simp) ?_
 refine AllReadyH.cons (o := ⟨some 15, .call ⟨.builtin .copy, #[.tmp 12, .tmp 14], #[121, 121]⟩, 3, "text.go:53", #[⟨1, .data⟩, ⟨3, .data⟩], none⟩) rfl (fun K hK => ?_) AllReadyH.nil
 (refine step_copy_splice rfl _ _ 121 121 rfl 5 Try.underlying121 info_u8c (some ⟨w.heap.size + 1 + 1, 0, none⟩) (some ⟨w.heap.size, 0, none⟩) m 32 m 32 rfl rfl (w.heap.size + 1 + 1) 0 (zeros32.map bv) 23 HD5.out ((l.take m).map bv) (by rw [List.length_map, List.length_take, hl]; exact (Nat.min_eq_left hm1).trans (Nat.min_self m).symm) (fun _ => ⟨rfl, _, rfl, fun j v hv => by rw [add_flat1, Nat.zero_add]; exact cut_cell HD3.out m hm1 hl j v hv⟩) (by rw [List.length_map, List.length_take, List.length_map, zeros32_length]; omega) (bv_one _) (w.heap.size + 1 + 1) w4 (Below.refl _ _).drew (Nat.le_refl _) ?_; intro w5 h5 hb5)
 refine hK.out _ _ ?_ (fun hHeld => ?_)
 ·trivial
 clear hK K
 try simp only [Act.put,nA,nB,nC]
 refine wpAnyH_done (by kernel_rfl) ?_ _
 rw [splice_lay l m hl hm1] at h5
 have HD6 : Hid (DB w5 (w.heap.size + 1) zeros32) := HD4.out.below hb5 (by omega)
 have HD7 : Hid (DB w5 (w.heap.size + 1 + 1) (lay32 l m)) := h5
 have HBf := Lib.hid ((HB.out.trans (hb4.mono (by omega))).trans (hb5.mono (by omega)))
 clear HD3 HD4 HD5 HB hB4 hb4 hb5 h5 HD1 HD2
 go_wp2_with (first
  | (refine wpList_loadD rfl _ rfl (w.heap.size + 1 + 1) rfl (lay32 l m) (lay32_length l m hl hm1) HD7.out ?_)
  | (refine wpList_storeD rfl _ _ rfl (w.heap.size + 1) rfl zeros32 (lay32 l m) rfl (lay32_length l m hl hm1) rfl HD6.out ?_; intro w6 hd6 hb6 hk6 hz6))
 refine bodyPost_ret (v := .tuple #[dv (lay32 l m), .int .i64 0]) ?_ rfl ⟨rfl, HBf.out.trans (hb6.mono (by omega))⟩
 exact results_DE Try.results82 rfl rfl (lay32_length l m hl hm1) hd6
end Go.Proofs.Ytihbhpggpnmifaa
namespace Go.Proofs.Ytihbhpggpnmifaa
open Go.RowKit Go.Lib Hw
def wideB (n : Int) : Bool := decide (1 ≤ n) && decide (n ≤ 32)
def cutL (n : Int) (l : List UInt8) : List UInt8 := bif wideB n then lay32 l n.toNat else zeros32
def cutE (n : Int) : Int := bif wideB n then 0 else 2
theorem wideB_yes {n : Int} (h : wideB n = true) : 1 ≤ n ∧ n ≤ 32 := by simpa [wideB] using h
theorem cutL_length (n : Int) (l : List UInt8) (hl : l.length = 32) : (cutL n l).length = 32 := by
 unfold cutL
 cases h : wideB n
 ·rfl
 ·have := wideB_yes h; exact lay32_length l _ hl (by omega)
theorem Cut_any (n : Int) (l : List UInt8) (w : World) (hl : l.length = 32) :
  Calls Try.prog 82 #[.int .i64 n, dv l] w fun e w' => e = .returned (.tuple #[dv (cutL n l), .int .i64 (cutE n)]) ∧ Below w.heap.size w w' := by
 cases h : wideB n
 ·have e1 : cutL n l = zeros32 := by unfold cutL; rw [h]; rfl
  have e2 : cutE n = 2 := by unfold cutE; rw [h]; rfl
  rw [e1, e2]
  exact Cut_no n l w h
 ·have e1 : cutL n l = lay32 l n.toNat := by unfold cutL; rw [h]; rfl
  have e2 : cutE n = 0 := by unfold cutE; rw [h]; rfl
  rw [e1, e2]
  have := wideB_yes h
  exact Cut_yes n l w this.1 this.2 hl
set_option maxHeartbeats 4000000 in
theorem Of_any (n : Int) (s : ByteArray) (w : World) (hs : s.size ≤ 1000000000000000000) :
  Calls Try.prog 74 #[.int .i64 n, .string s] w fun e w' => e = .returned (.tuple #[dv (cutL n (sha256 s.data.toList)), .int .i64 (cutE n)]) ∧ Below w.heap.size w w' := by
 have Hl := Lib.hid (cutL_length n _ (sha256_length s.data.toList))
 go_enter Try.func74, Try.ntmps74
 go_upto_region 1 with (refine wpList_allocD rfl rfl w.heap.size rfl ?_; intro w1 hd1 hb1 hz1)
 have HD1 := Lib.hid hd1
 have HB1 := Lib.hid hb1
 clear hd1 hb1
 go_wp2_with (first
  | (go_at_call 83; refine (Sum_any _ _ hs).mono ?_; rintro e w2 ⟨rfl, hb2⟩)
  | (go_at_call 82; refine (Cut_any _ _ _ (sha256_length _)).mono ?_; rintro e w3 ⟨rfl, hb3⟩; have HD3 : Hid (DB w3 w.heap.size zeros32) := DB.below (DB.below HD1.out hb2 (by omega)) hb3 (by have := hb2.size; omega))
  | (refine wpList_storeD rfl _ _ rfl w.heap.size rfl zeros32 (cutL n (sha256 s.data.toList)) rfl Hl.out rfl HD3.out ?_; intro w6 hd6 hb6 hk6 hz6))
 refine bodyPost_ret (v := .tuple #[dv (cutL n (sha256 s.data.toList)), .int .i64 (cutE n)]) ?_ rfl ⟨rfl, ((HB1.out.trans (hb2.mono (by omega))).trans (hb3.mono (by have := hb2.size; omega))).trans hb6⟩
 exact results_DE Try.results74 rfl rfl Hl.out hd6
def digL (n : Int) (tag : ByteArray) (ss : List ByteArray) : List UInt8 := bif wideB n then bif badTag tag then zeros32 else cutL n (sha256 (textL tag ss)) else zeros32
def digE (n : Int) (tag : ByteArray) : Int := bif wideB n then bif badTag tag then 20 else 0 else 2
theorem digL_length (n : Int) (tag : ByteArray) (ss : List ByteArray) : (digL n tag ss).length = 32 := by
 unfold digL
 cases wideB n
 ·rfl
 ·cases badTag tag
  ·exact cutL_length _ _ (sha256_length _)
  ·rfl
set_option maxHeartbeats 4000000 in
theorem Digest_any (n : Int) (tag : ByteArray) (v : Value) (ss : List ByteArray) (w : World) (hv : Hid (StrRow w v ss)) (hlen : tag.size + (ss.flatMap partL).length < 140737488355328) (hn : ss.length ≤ 9223372036854775807) :
  Calls Try.prog 43 #[.int .i64 n, .string tag, v] w fun e w' => e = .returned (.tuple #[dv (digL n tag ss), .int .i64 (digE n tag)]) ∧ Below w.heap.size w w' := by
 cases hw : wideB n
 ·have e1 : digL n tag ss = zeros32 := by unfold digL; rw [hw]; rfl
  have e2 : digE n tag = 2 := by unfold digE; rw [hw]; rfl
  rw [e1, e2]
  have HW := Lib.hid hw
  clear hw e1 e2
  go_enter Try.func43, Try.ntmps43
  go_upto_region 1 with (refine wpList_allocD rfl rfl w.heap.size rfl ?_; intro w1 hd1 hb1 hz1)
  have HD1 := Lib.hid hd1
  have HB1 := Lib.hid hb1
  clear hd1 hb1
  go_upto_region 2 with (go_at_call 73; refine (wide_any _ _).mono ?_; rintro e w3 ⟨rfl, rfl⟩; rw [show (decide (1 ≤ n) && decide (n ≤ 32)) = false from HW.out])
  go_wp2_with (first
   | (refine wpList_buildD rfl rfl ?_)
   | (refine wpList_storeD rfl _ _ rfl w.heap.size rfl zeros32 zeros32 rfl rfl rfl HD1.out ?_; intro w6 hd6 hb6 hk6 hz6))
  refine bodyPost_ret (v := .tuple #[dv zeros32, .int .i64 2]) ?_ rfl ⟨rfl, HB1.out.trans hb6⟩
  exact results_DE Try.results43 rfl rfl rfl hd6
 ·cases hb : badTag tag
  ·have e1 : digL n tag ss = cutL n (sha256 (textL tag ss)) := by unfold digL; rw [hw, hb]; rfl
   have e2 : digE n tag = cutE n := by unfold digE cutE; rw [hw, hb]; rfl
   have e3 : cutE n = 0 := by unfold cutE; rw [hw]; rfl
   rw [e1, e2]
   have HW := Lib.hid hw
   have HB := Lib.hid hb
   have Hl := Lib.hid (cutL_length n _ (sha256_length (textL tag ss)))
   have hts : (ByteArray.mk (textL tag ss).toArray).size ≤ 1000000000000000000 := by
    have h1 : (ByteArray.mk (textL tag ss).toArray).size = (textL tag ss).length := by simp [ByteArray.size]
    rw [h1, textL, List.length_cons, List.length_append, data_len]
    omega
   clear hw hb e1 e2 e3
   go_enter Try.func43, Try.ntmps43
   go_upto_region 1 with (refine wpList_allocD rfl rfl w.heap.size rfl ?_; intro w1 hd1 hb1 hz1)
   have HD1 := Lib.hid hd1
   have HB1 := Lib.hid hb1
   have HV1 : Hid (StrRow w1 v ss) := hv.out.below' hb1
   clear hd1 hb1
   go_wp2_with (first
    | (go_at_call 73; refine (wide_any _ _).mono ?_; rintro e w3 ⟨rfl, rfl⟩; rw [show (decide (1 ≤ n) && decide (n ≤ 32)) = true from HW.out])
    | (go_at_call 63; refine (Text_any _ _ _ _ HB.out HV1 hlen hn).mono ?_; rintro e w4 ⟨rfl, hb4⟩)
    | (go_at_call 74; refine (Of_any _ _ _ hts).mono ?_; rintro e w5 ⟨rfl, hb5⟩; have HD5 : Hid (DB w5 w.heap.size zeros32) := DB.below (DB.below HD1.out hb4 (by omega)) hb5 (by have := hb4.size; omega))
    | (refine wpList_storeD rfl _ _ rfl w.heap.size rfl zeros32 (cutL n (sha256 (textL tag ss))) rfl Hl.out rfl HD5.out ?_; intro w6 hd6 hb6 hk6 hz6))
   refine bodyPost_ret (v := .tuple #[dv (cutL n (sha256 (textL tag ss))), .int .i64 (cutE n)]) ?_ rfl ⟨rfl, ((HB1.out.trans (hb4.mono (by omega))).trans (hb5.mono (by have := hb4.size; omega))).trans hb6⟩
   exact results_DE Try.results43 rfl rfl Hl.out hd6
  ·have e1 : digL n tag ss = zeros32 := by unfold digL; rw [hw, hb]; rfl
   have e2 : digE n tag = 20 := by unfold digE; rw [hw, hb]; rfl
   rw [e1, e2]
   have HW := Lib.hid hw
   have HB := Lib.hid hb
   have hts : tag.size ≤ 9223372036854775807 := by omega
   clear hw hb e1 e2
   go_enter Try.func43, Try.ntmps43
   go_upto_region 1 with (refine wpList_allocD rfl rfl w.heap.size rfl ?_; intro w1 hd1 hb1 hz1)
   have HD1 := Lib.hid hd1
   have HB1 := Lib.hid hb1
   clear hd1 hb1
   go_wp2_with (first
    | (go_at_call 73; refine (wide_any _ _).mono ?_; rintro e w3 ⟨rfl, rfl⟩; rw [show (decide (1 ≤ n) && decide (n ≤ 32)) = true from HW.out])
    | (go_at_call 63; refine (Text_bad _ _ _ HB.out hts).mono ?_; rintro e w4 ⟨rfl, rfl⟩)
    | (refine wpList_buildD rfl rfl ?_)
    | (refine wpList_storeD rfl _ _ rfl w.heap.size rfl zeros32 zeros32 rfl rfl rfl HD1.out ?_; intro w6 hd6 hb6 hk6 hz6))
   refine bodyPost_ret (v := .tuple #[dv zeros32, .int .i64 20]) ?_ rfl ⟨rfl, HB1.out.trans hb6⟩
   exact results_DE Try.results43 rfl rfl rfl hd6
end Go.Proofs.Ytihbhpggpnmifaa
namespace Hw
open Go
def Lin (f : BitVec 32 → BitVec 32) : Prop := ∀ a b, f (a ^^^ b) = f a ^^^ f b
theorem Lin.zero {f : BitVec 32 → BitVec 32} (h : Lin f) : f 0 = 0 := by
 have h1 := h 0 0
 simp only [BitVec.xor_self] at h1
 exact h1
def low (k : Nat) (v : BitVec 32) : BitVec 32 := (v.setWidth k).setWidth 32
end Hw
namespace Go.Proofs.Ytihbhpggpnmifaa
open Go.RowKit Hw
def uv (x : BitVec 32) : Value := .int .u32 (toU x)
def OwnU (w : World) (B : Nat) (v : Value) (xs : List (BitVec 32)) : Prop := w.ownsRow B 122 1 v xs.length (xs.map uv)
theorem info_u32 : (Try.prog.info? 122).map (fun i => (i.zero, i.size, i.bytes)) = some (some (.int .u32 0), 1, 4) := by kernel_rfl
theorem uv_one (xs : List (BitVec 32)) : ∀ u ∈ xs.map uv, u.oneCell' = true := by
 intro u hu
 obtain ⟨_, _, rfl⟩ := List.mem_map.1 hu
 rfl
theorem OwnU.nil (w : World) (B : Nat) : OwnU w B (.slice none 0 0) [] := World.ownsRow_nil w B _ 1
theorem OwnU.form {w : World} {B : Nat} {v : Value} {xs : List (BitVec 32)} (h : OwnU w B v xs) (hn : 0 < xs.length) : ∃ g cap, v = .slice (some ⟨g, 0, none⟩) xs.length cap ∧ B ≤ g ∧ g < w.heap.size := World.ownsRow.form h hn
theorem OwnU.cell {w : World} {B g n cap : Nat} {xs : List (BitVec 32)} (h : OwnU w B (.slice (some ⟨g, 0, none⟩) n cap) xs) (j : Nat) (X : BitVec 32) (hX : X = xs.getD j 0) (hj : j < xs.length) : w.cell? ⟨g, j, none⟩ = some (.int .u32 (toU X)) := by
 have h1 := World.ownsRow.cells (w := w) h (g := g) rfl j (uv xs[j]) (by simp [hj])
 have hadd : (⟨g, 0, none⟩ : Addr).add j = ⟨g, j, none⟩ := by unfold Addr.add; split <;> simp_all
 rw [hadd] at h1
 rw [h1, hX]
 simp [uv, List.getD, hj]
theorem OwnU.below {w w' : World} {B C : Nat} {v : Value} {xs : List (BitVec 32)} (h : OwnU w B v xs) (hb : Below C w w') (hC : ∀ g, v.ownBlock = some g → g < C) : OwnU w' B v xs := by
 refine ⟨h.1, ?_⟩
 rcases h.2 with hn | ⟨g, cap, cur, rfl, hB, hg, r⟩
 ·exact .inl hn
 ·exact .inr ⟨g, cap, cur, rfl, hB, heap_below hg hb (hC g rfl), r⟩
theorem OwnU.drew {w : World} {B : Nat} {v : Value} {xs : List (BitVec 32)} (h : OwnU w B v xs) : OwnU w.drew B v xs := h
theorem OwnU.lt {w : World} {B : Nat} {v : Value} {xs : List (BitVec 32)} (h : OwnU w B v xs) : ∀ g, v.ownBlock = some g → B ≤ g ∧ g < w.heap.size := World.ownsRow.lt h
theorem OwnU.mono {w : World} {B C : Nat} {v : Value} {xs : List (BitVec 32)} (h : OwnU w B v xs) (hC : C ≤ B) : OwnU w C v xs := by
 refine ⟨h.1, ?_⟩
 rcases h.2 with hn | ⟨g, cap, cur, rfl, hb, r⟩
 ·exact .inl hn
 ·exact .inr ⟨g, cap, cur, rfl, by omega, r⟩
theorem run_appU {W' : World} {B : Nat} {v : Value} {xs : List (BitVec 32)} (hown : OwnU W' B v xs) (x : BitVec 32) (ty : TypeId) (ad : Addr) (c : Nat) (hx : W'.cell? ad = some (uv x)) (hlen : xs.length ≤ 1000000) (hB : B ≤ W'.heap.size) :
  ∃ v' w', (Builtin.append_ #[128, 128] ty #[v, .slice (some ad) 1 c]).run Try.prog W' = .ok v' w' ∧ OwnU w' B v' (xs ++ [x]) ∧ W'.grownBy w' v.ownBlock ∧
   ∀ g j u, v.ownBlock = some g → j < xs.length → W'.cell? ⟨g, j, none⟩ = some u → w'.cell? ⟨g, j, none⟩ = some u := by
 obtain ⟨i, hi, hz0, hz1, hz2⟩ := info_parts info_u32
 have hadd0 : ad.add 0 = ad := by unfold Addr.add; simp
 have hnews : ∀ j u, [uv x][j]? = some u → W'.cell? (ad.add j) = some u := by
  intro j u hu
  match j, hu with
  | 0, hu => rw [hadd0, hx]; exact hu
 obtain ⟨v', w', hr, h1, h2, _⟩ := run_append_own (P := Try.prog) W' B 128 ty 122 i (.int .u32 0) 1 4 Try.underlying128 hi hz0 hz1 hz2 rfl (by decide) v xs.length (xs.map uv) hown ad 1 c [uv x] rfl hnews (uv_one [x]) (by rw [maxLen_eq]; omega) (by omega) hB
 refine ⟨v', w', hr, ?_, h2, ?_⟩
 ·unfold OwnU
  rw [List.length_append, List.map_append]
  exact h1
 ·intro g j u hg hj hc
  rcases hown.2 with ⟨rfl, h0⟩ | ⟨g0, cap, cur, rfl, hb, hgg, hn, hcm, hcs, ht⟩
  ·cases hg
  ·obtain rfl : g0 = g := Option.some.inj hg
   rw [heap_cell hgg] at hc
   by_cases hroom : xs.length + 1 ≤ cap
   ·have hr' := run_append_room (P := Try.prog) W' 128 ty 122 i Try.underlying128 hi g0 xs.length cap cur hgg ad 1 c [uv x] (by rw [hz1]; rfl) hnews (uv_one [x]) hroom (by rw [hz1]; simp; omega)
    have e2 := (Result.ok.inj (hr.symm.trans hr')).2
    rw [e2, heap_cell (setRow_heap W' g0 cur _ 122 _ hgg)]
    have hjc : j < cur.size := by omega
    have hlt : j < (cur.toList.take xs.length).length := by rw [List.length_take, Array.length_toList]; exact Nat.lt_min.2 ⟨hj, hjc⟩
    rw [hz1, Nat.mul_one, List.getElem?_toArray, List.append_assoc, List.getElem?_append_left hlt, List.getElem?_take, if_pos hj]
    simpa using hc
   ·have holds : ∀ j u, (xs.map uv)[j]? = some u → W'.cell? ((⟨g0, 0, none⟩ : Addr).add j) = some u := World.ownsRow.cells (w := W') hown (g := g0) rfl
    have hr' := run_append_grow (P := Try.prog) W' 128 ty 122 i (.int .u32 0) Try.underlying128 hi hz0 ⟨g0, 0, none⟩ xs.length cap (xs.map uv) (by rw [hz1]; simp) holds ad 1 c [uv x] (by rw [hz1]; rfl) hnews (by omega) (by omega) (by rw [hz2]; exact growslice_fits (by omega) (by omega))
    have e2 := (Result.ok.inj (hr.symm.trans hr')).2
    rw [e2, heap_cell (heap_alloc (w := W'.drew) hgg)]
    exact hc
theorem wp_appU {o : Oper} {a : Act} {K : Act → World → Prop} {Q : Exit → Act → World → Prop} (W W' : World) (x : BitVec 32) (s y : Operand)
  (ho : o.op = .call { callee := .builtin .append, args := #[s, y], argTypes := #[128, 128] })
  (B : Nat) (v : Value) (xs : List (BitVec 32)) (hs : a.eval s = v) (hown : OwnU W B v xs) (hW : Below W.heap.size W W') (c H : Nat) (hy : a.eval y = .slice (some ⟨H, 0, none⟩) 1 c) (hH : W'.cell? ⟨H, 0, none⟩ = some (.int .u32 (toU x)))
  (hlen : xs.length ≤ 1000000) (hB : B ≤ W.heap.size)
  (h : ∀ v' w', OwnU w' B v' (xs ++ [x]) → Below B W' w' → (∀ g j u, v.ownBlock = some g → j < xs.length → W'.cell? ⟨g, j, none⟩ = some u → w'.cell? ⟨g, j, none⟩ = some u) → K (a.put o.dst v') w') : o.wp Try.prog a W' K Q := by
 have hown' : OwnU W' B v xs := hown.below hW (fun g hg => (hown.lt g hg).2)
 obtain ⟨v', w', hr, h1, h2, h3⟩ := run_appU hown' x o.type ⟨H, 0, none⟩ c hH hlen (by have := hW.size; omega)
 unfold Oper.wp execOp
 simp only [ho, resolve, invoke, builtin, Sem.run_bind, Sem.run_pure, Result.andThen_ok, List.map_toArray, List.map_cons, List.map_nil, hs, hy, hr]
 exact h v' w' h1 ((Below.refl B W').grown h2 (by have := hW.size; omega) (fun k hk => (World.ownsRow.lt hown k hk).1)) h3
theorem wpList_copyU {ops : Array Oper} {rest : List Oper} {o : Oper} {a : Act} {Q : Exit → Act → World → Prop} (w : World) (hgd : o.guard = none) (s x : Operand)
  (ho : o.op = .call { callee := .builtin .append, args := #[s, x], argTypes := #[128, 128] })
  (hs : a.eval s = .slice none 0 0) (g n cap : Nat) (xs : List (BitVec 32)) (hn : xs.length = n) (hx : a.eval x = .slice (some ⟨g, 0, none⟩) n cap) (hc : ∀ j (h : j < xs.length), w.cell? ⟨g, j, none⟩ = some (.int .u32 (toU xs[j]))) (hlen : n ≤ 1000000)
  (h : ∀ v' w', OwnU w' w.heap.size v' xs → Below w.heap.size w w' → wpList Try.prog ops Q rest (a.put o.dst v') w') : wpList Try.prog ops Q (o :: rest) a w := by
 subst hn
 obtain ⟨i, hi, hz0, hz1, hz2⟩ := info_parts info_u32
 refine wpList_append_own w hgd s x 128 ho w.heap.size 122 i (.int .u32 0) 1 4 Try.underlying128 hi hz0 hz1 hz2 rfl (by decide) (.slice none 0 0) 0 [] hs (World.ownsRow_nil w w.heap.size _ 1) ⟨g, 0, none⟩ xs.length cap (xs.map uv) hx (by simp) ?_ (uv_one xs) (by rw [maxLen_eq]; omega) (by omega) (Nat.le_refl _) ?_
 ·intro j u hu
  have hadd : (⟨g, 0, none⟩ : Addr).add j = ⟨g, j, none⟩ := by unfold Addr.add; split <;> simp_all
  rw [hadd]
  rw [List.getElem?_map] at hu
  obtain ⟨y, hy, rfl⟩ := Option.map_eq_some_iff.1 hu
  obtain ⟨hj, rfl⟩ := List.getElem?_eq_some_iff.1 hy
  exact hc j hj
 ·intro v' w' h1 h2 h3
  rw [Nat.zero_add, List.nil_append] at h1
  exact h v' w' h1 ((Below.refl _ _).grown h2 (Nat.le_refl _) (fun k hk => by simp [Value.ownBlock] at hk))
end Go.Proofs.Ytihbhpggpnmifaa
namespace Go.Proofs.Ytihbhpggpnmifaa
open Go.RowKit Go.Lib Hw
end Go.Proofs.Ytihbhpggpnmifaa
namespace Go.Proofs.Ytihbhpggpnmifaa
open Go.RowKit Go.Lib Hw
end Go.Proofs.Ytihbhpggpnmifaa
namespace Go.Proofs.Ytihbhpggpnmifaa
open Go.RowKit Go.Lib Hw
theorem eqD (l m : List UInt8) (hl : l.length = 32) (hm : m.length = 32) (w : World) : (binOp .eql 23 (dv l) (dv m)).run Try.prog w = .ok (.bool (l == m)) w :=
 run_eql_bytes w 23 5 32 Try.underlying23 Try.underlying5 (fun w => size_u8 w) l m hl hm
theorem eqGuardD (l m : List UInt8) (x y : Operand) (w : World) : (eqGuard .eql 23 x y (dv l) (dv m)).run Try.prog w = .ok () w := by kernel_rfl
theorem neGuardD (l m : List UInt8) (x y : Operand) (w : World) : (eqGuard .neq 23 x y (dv l) (dv m)).run Try.prog w = .ok () w := by kernel_rfl
theorem StrRow.nil (w : World) : StrRow w (.slice none 0 0) [] := ⟨none, 0, rfl, fun _ => rfl, fun h => by simp at h⟩
end Go.Proofs.Ytihbhpggpnmifaa
