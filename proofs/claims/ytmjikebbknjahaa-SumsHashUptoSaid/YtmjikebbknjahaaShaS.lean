/-
  SHA-256: the walk of Hash.Sum; digests in blocks.
-/
import Derived.Test.YtmjikebbknjahaaShaH
import Derived.Laws.AppendOwnNone
namespace Go.Proofs.Ytmjikebbknjahaa
open Go.RowKit Go.Lib Hw
set_option linter.unusedVariables false

/-- a digest's block -/
def DB (w : World) (b : Nat) (l : List UInt8) : Prop := w.heap[b]? = some (.cells (l.map bv).toArray 39 (0, 0))
def zeros32 : List UInt8 := List.replicate 32 0
theorem zero_D (w : World) : (zeroValue 39).run Try.prog w = .ok (.agg (zeros32.map bv).toArray) w := by kernel_rfl
theorem info_D : (Try.prog.info? 39).map (·.size) = some 32 := by kernel_rfl
theorem DB.load {w : World} {b : Nat} {l : List UInt8} (h : DB w b l) (hl : l.length = 32) : (loadVar 39 ⟨b, 0, none⟩).run Try.prog w = .ok (.agg (l.map bv).toArray) w :=
  run_loadVar_mid (P := Try.prog) w b 0 39 (l.map bv) _ (range_all (cs := l.map bv) h) Try.underlying39 rfl (info_D.trans (congrArg some ((List.length_map _).trans hl).symm))
theorem DB.set {w : World} {b : Nat} {l : List UInt8} (h : DB w b l) (j : Nat) (x : UInt8) : DB (w.setCell ⟨b, j, none⟩ (.int .u8 (x.toNat : Int))) b (l.set j x) := by
  unfold DB
  have h1 := heap_set (o := j) h (.int .u8 (x.toNat : Int))
  rw [List.map_set, ← List.setIfInBounds_toArray]
  exact h1
theorem DB.cell {w : World} {b : Nat} {l : List UInt8} (h : DB w b l) (j : Nat) (hj : j < l.length) : w.cell? ⟨b, j, none⟩ = some (.int .u8 ((l[j]'hj).toNat : Int)) := by
  rw [heap_cell h]; simp [List.getElem?_eq_getElem hj, bv]
theorem DB.free {w : World} {b : Nat} {l : List UInt8} (h : DB w b l) (j : Nat) : w.frozen? ⟨b, j, none⟩ = false := heap_free h j
theorem DB.below {w w' : World} {b B : Nat} {l : List UInt8} (h : DB w b l) (hb : Below B w w') (hB : b < B) : DB w' b l := heap_below h hb hB
theorem DB.alloc {w : World} {b : Nat} {l : List UInt8} (h : DB w b l) (o : Obj) : DB (w.alloc o) b l := heap_alloc h
/-- a whole digest is stored -/
theorem DB.store {w : World} {b : Nat} {l : List UInt8} (h : DB w b l) (m : List UInt8) (hm : m.length = l.length) : DB (w.setCells b 0 (m.map bv)) b m := by
  have h1 := setCells_heap (m.map bv) w b 0 _ _ _ h
  rw [setL_all _ _ (by simp [hm])] at h1
  exact h1

theorem HashB.below {w w' : World} {B p C : Nat} {rv : Value} {l : List UInt8} {n : Int} (h : HashB w B p rv l n) (hb : Below C w w') (hp : p < C) (hr : ∀ k, rv.ownBlock = some k → k < C) : HashB w' B p rv l n :=
  ⟨heap_below h.cells hb hp, h.rest.below hb hr, h.ne⟩
theorem HashB.lt {w : World} {B p : Nat} {rv : Value} {l : List UInt8} {n : Int} (h : HashB w B p rv l n) : p < w.heap.size ∧ ∀ k, rv.ownBlock = some k → k < w.heap.size :=
  ⟨heap_lt h.cells, fun k hk => (World.ownsRow.lt h.rest k hk).2⟩

theorem HashB.words {W : World} {B p : Nat} {rv : Value} {l : List UInt8} {n : Int} (h : HashB W B p rv l n) : W.cell? ⟨p, 1, none⟩ = some (.int .u32 (toU (stOf l).a)) ∧ W.cell? ⟨p, 2, none⟩ = some (.int .u32 (toU (stOf l).b)) ∧ W.cell? ⟨p, 3, none⟩ = some (.int .u32 (toU (stOf l).c)) ∧ W.cell? ⟨p, 4, none⟩ = some (.int .u32 (toU (stOf l).d)) ∧
    W.cell? ⟨p, 5, none⟩ = some (.int .u32 (toU (stOf l).e)) ∧ W.cell? ⟨p, 6, none⟩ = some (.int .u32 (toU (stOf l).f)) ∧ W.cell? ⟨p, 7, none⟩ = some (.int .u32 (toU (stOf l).g)) ∧ W.cell? ⟨p, 8, none⟩ = some (.int .u32 (toU (stOf l).h)) :=
  ⟨by rw [heap_cell h.cells]; rfl, by rw [heap_cell h.cells]; rfl, by rw [heap_cell h.cells]; rfl, by rw [heap_cell h.cells]; rfl, by rw [heap_cell h.cells]; rfl, by rw [heap_cell h.cells]; rfl, by rw [heap_cell h.cells]; rfl, by rw [heap_cell h.cells]; rfl⟩

/-- append([]byte(nil), xs...) of bytes of a known row -/
theorem wpList_copyB {ops : Array Oper} {rest : List Oper} {o : Oper} {a : Act} {Q : Exit → Act → World → Prop} (w : World) (hgd : o.guard = none) (s x : Operand)
    (ho : o.op = .call { callee := .builtin .append, args := #[s, x], argTypes := #[35, 35] })
    (hs : a.eval s = .slice none 0 0) (B : Nat) (v : Value) (bs : List UInt8) (hx : a.eval x = v) (hown : OwnB w B v bs) (hlen : bs.length ≤ 140737488355328) (H : Nat) (hH : w.heap.size = H)
    (h : ∀ v' w', OwnB w' H v' bs → Below H w w' → wpList Try.prog ops Q rest (a.put o.dst v') w') : wpList Try.prog ops Q (o :: rest) a w := by
  subst hH
  obtain ⟨i, hi, hz0, hz1, hz2⟩ := info_parts info_u8
  rcases hown.2 with ⟨rfl, h0⟩ | ⟨g, cap, cur, rfl, hb, hg, hn, hc, hsz, ht⟩
  · have : bs = [] := List.eq_nil_of_length_eq_zero h0
    subst this
    exact wpList_append_own_none hgd s x 35 ho w.heap.size 5 i 1 Try.underlying35 hi (.slice none 0 0) 0 [] hs (World.ownsRow_nil w w.heap.size _ 1) hx (h _ w (OwnB.nil _ _) (Below.refl _ _))
  · refine wpList_append_own w hgd s x 35 ho w.heap.size 5 i (.int .u8 0) 1 1 Try.underlying35 hi hz0 hz1 hz2 rfl (by decide) (.slice none 0 0) 0 [] hs (World.ownsRow_nil w w.heap.size _ 1) ⟨g, 0, none⟩ bs.length cap (bs.map bv) hx (by simp) (World.ownsRow.cells (w := w) hown (g := g) rfl) (bv_one bs) (by rw [maxLen_eq]; omega) (by omega) (Nat.le_refl _) ?_
    intro v' w' h1 h2 h3
    rw [Nat.zero_add, List.nil_append] at h1
    exact h v' w' h1 ((Below.refl _ _).grown h2 (Nat.le_refl _) (fun k hk => by simp [Value.ownBlock] at hk))

theorem OwnB.mono {w : World} {B C : Nat} {v : Value} {bs : List UInt8} (h : OwnB w B v bs) (hC : C ≤ B) : OwnB w C v bs := by
  refine ⟨h.1, ?_⟩
  rcases h.2 with hn | ⟨g, cap, cur, rfl, hb, r⟩
  · exact .inl hn
  · exact .inr ⟨g, cap, cur, rfl, by omega, r⟩
/-- append(xs, b): one byte, that was laid into a block of its own -/
theorem wpList_app1 {ops : Array Oper} {rest : List Oper} {o : Oper} {a : Act} {Q : Exit → Act → World → Prop} (W : World) (t : TypeId) (b : UInt8) (hgd : o.guard = none) (s x : Operand)
    (ho : o.op = .call { callee := .builtin .append, args := #[s, x], argTypes := #[35, 35] })
    (B : Nat) (v : Value) (bs : List UInt8) (N : Nat) (hN : bs.length = N) (hs : a.eval s = v) (hown : OwnB W B v bs) (c : Nat) (hx : a.eval x = .slice (some ⟨W.heap.size, 0, none⟩) 1 c)
    (hlen : N ≤ 140737488355327) (hB : B ≤ W.heap.size)
    (h : ∀ g cap w', OwnB w' B (.slice (some ⟨g, 0, none⟩) (N + 1) cap) (bs ++ [b]) → Below B W w' → B ≤ g → wpList Try.prog ops Q rest (a.put o.dst (.slice (some ⟨g, 0, none⟩) (N + 1) cap)) w') :
    wpList Try.prog ops Q (o :: rest) a (W.alloc (.cells #[.int .u8 (b.toNat : Int)] t)) := by
  subst hN
  refine wpList_appB _ hgd s x ho B v bs hs (hown.alloc _) ⟨W.heap.size, 0, none⟩ c [b] hx (app_cell1 W b t) (by simp) (by simp only [List.length_singleton]; omega) (by simp only [World.size_alloc]; omega) _ rfl ?_
  intro g cap w' h1 h2 h3 h4
  refine h g cap w' h1 (((Below.refl B W).alloc hB _).grown h2 (by simp only [World.size_alloc]; omega) (fun k hk => (World.ownsRow.lt hown k hk).1)) ?_
  rcases h3 with h3 | h3
  · exact (World.ownsRow.lt hown g h3).1
  · rw [h3]; simp only [World.size_alloc]; omega

/-- what stands while the tail is laid -/
structure SS (w W : World) (st : S8) : Prop where
  d0 : DB W w.heap.size zeros32
  d1 : DB W (w.heap.size + 1) zeros32
  sb : VB W (w.heap.size + 2) st
  bel : Below w.heap.size w W
theorem SS.size {w W : World} {st : S8} (h : SS w W st) : w.heap.size + 3 ≤ W.heap.size := by have := heap_lt h.sb; omega
theorem SS.below {w W W' : World} {st : S8} (h : SS w W st) (hb : Below (w.heap.size + 3) W W') : SS w W' st :=
  ⟨heap_below h.d0 hb (by omega), heap_below h.d1 hb (by omega), heap_below h.sb hb (by omega), h.bel.trans (hb.mono (by omega))⟩
theorem SS.alloc {w W : World} {st : S8} (h : SS w W st) (o : Obj) : SS w (W.alloc o) st := h.below ((Below.refl _ _).alloc h.size _)

theorem wpList_load64 {ops : Array Oper} {rest : List Oper} {o : Oper} {a : Act} {w : World} {Q : Exit → Act → World → Prop} (hgd : o.guard = none) (x : Operand) (ho : o.op = .load 101 x) (g off : Nat) (hx : a.eval x = .pointer (some ⟨g, off, none⟩)) (bs : List UInt8) (hl : bs.length = 64) (hr : w.rangeAt g off (bs.map bv))
    (h : wpList Try.prog ops Q rest (a.put o.dst (.agg (bs.map bv).toArray)) w) : wpList Try.prog ops Q (o :: rest) a w :=
  wpList_plain hgd fun _ hK => wp_load64 x ho g off hx bs hl hr (hK _ _ h)
def words8 (v : S8) : Array Value := #[wv v.a, wv v.b, wv v.c, wv v.d, wv v.e, wv v.f, wv v.g, wv v.h]
theorem words8_get (st : S8) : ∀ j (h : j < 8), (words8 st)[0 + j]? = some (wv (st.list[j]'h)) := by
  intro j h
  match j, h with
  | 0, _ => rfl
  | 1, _ => rfl
  | 2, _ => rfl
  | 3, _ => rfl
  | 4, _ => rfl
  | 5, _ => rfl
  | 6, _ => rfl
  | 7, _ => rfl
theorem lay8_words (st st' : S8) : lay8 (words8 st) 0 st' 8 = words8 st' := by simp [lay8, setL, S8.list, words8]
theorem SS.block {w W W' : World} {st st' : S8} (h : SS w W st) (hk : Kept (w.heap.size + 2) W W') (hs : W'.heap[w.heap.size + 2]? = some (.cells (words8 st') 77 (0, 0))) : SS w W' st' :=
  ⟨hk.heap h.d0 (by omega), hk.heap h.d1 (by omega), hs, h.bel.trans (hk.below (by omega) (by have := h.size; omega))⟩
theorem index8 (V : S8) (w : World) (i : Nat) (hi : i < 8) : (Instr.index 77 (.agg #[.int .u32 (toU V.a), .int .u32 (toU V.b), .int .u32 (toU V.c), .int .u32 (toU V.d), .int .u32 (toU V.e), .int .u32 (toU V.f), .int .u32 (toU V.g), .int .u32 (toU V.h)]) (.int .i64 (i : Int))).run Try.prog w = .ok (.int .u32 (toU (V.list.getD i 0))) w := by
  match i, hi with
  | 0, _ => show _ = _; kernel_rfl
  | 1, _ => show _ = _; kernel_rfl
  | 2, _ => show _ = _; kernel_rfl
  | 3, _ => show _ = _; kernel_rfl
  | 4, _ => show _ = _; kernel_rfl
  | 5, _ => show _ = _; kernel_rfl
  | 6, _ => show _ = _; kernel_rfl
  | 7, _ => show _ = _; kernel_rfl
theorem own_blk {g n c k : Nat} (h : (Value.slice (some ⟨g, 0, none⟩) n c).ownBlock = some k) : g = k := Option.some.inj h
theorem flat4_get (l : List (BitVec 32)) (i k : Nat) (hi : i < l.length) (hk : k < 4) : (l.flatMap (fun x => be 4 x.toNat))[4 * i + k]? = (be 4 (l.getD i 0).toNat)[k]? := by
  induction l generalizing i with
  | nil => simp at hi
  | cons a l ih =>
    rw [List.flatMap_cons]
    cases i with
    | zero => rw [List.getElem?_append_left (by rw [be_length]; omega)]; simp
    | succ i =>
      have e : 4 * (i + 1) + k - 4 = 4 * i + k := by omega
      rw [List.getElem?_append_right (by rw [be_length]; omega), be_length, e, ih i (by simpa using hi)]
      rfl
theorem out_byte (V : S8) (i k : Nat) (hi : i < 8) (hk : k < 4) : ∃ b : UInt8, (shaOut V)[4 * i + k]? = some b ∧ toU (V.list.getD i 0) / 2 ^ (24 - 8 * k) % 256 = (b.toNat : Int) := by
  refine ⟨_, (flat4_get V.list i k hi hk).trans (be_get 4 _ k hk), ?_⟩
  have h := byte_of (toU (V.list.getD i 0)) (toU_nonneg _) (3 - k)
  have e : 8 * (3 - k) = 24 - 8 * k := by omega
  rw [e] at h
  have e2 : 4 - 1 - k = 3 - k := by omega
  rw [h, e2]
  rfl
/-- the first n bytes of a digest, noughts behind them -/
def lay32 (l : List UInt8) (n : Nat) : List UInt8 := l.take n ++ List.replicate (32 - n) 0
theorem lay32_length (l : List UInt8) (n : Nat) (hl : l.length = 32) (hn : n ≤ 32) : (lay32 l n).length = 32 := by simp [lay32, hl]; omega
theorem lay32_zero (l : List UInt8) : lay32 l 0 = zeros32 := by simp [lay32, zeros32]
theorem lay32_all (l : List UInt8) (hl : l.length = 32) : lay32 l 32 = l := by simp [lay32, List.take_of_length_le (Nat.le_of_eq hl)]
theorem lay32_succ (l : List UInt8) (n : Nat) (b : UInt8) (hl : l.length = 32) (hn : n < 32) (hb : l[n]? = some b) : (lay32 l n).set n b = lay32 l (n + 1) := by
  unfold lay32
  have e : 32 - n = (32 - (n + 1)) + 1 := by omega
  have e2 : (l.take n).length = n := by rw [List.length_take]; omega
  rw [e, List.replicate_succ, List.set_append_right _ _ (by omega), e2, Nat.sub_self, List.set_cons_zero, List.take_add_one, hb, List.append_assoc]
  rfl
def sliceLen : Value → Nat
  | .slice _ n _ => n
  | _ => 0
theorem pad_test (r N : Nat) (hr : r < 64) (h1 : r + 1 ≤ N) (h2 : N < r + 1 + (119 - r % 64) % 64) : (((N : Int) % 64) != 56) = true := by
  rw [bne_iff_ne]; omega
theorem pad_done (r N : Nat) (hr : r < 64) (h2 : N = r + 1 + (119 - r % 64) % 64) : (((N : Int) % 64) != 56) = false := by
  rw [bne_eq_false_iff_eq]; omega

/-- where xs[64:] lies -/
def nextA (a : Addr) (c : Nat) : Addr := if c = 64 then a else a.add 64
theorem elem_bytes : Try.prog.elem 35 = 5 := by kernel_rfl
theorem size_u8 (w : World) : (sizeOf 5).run Try.prog w = .ok 1 w := by kernel_rfl
theorem slice64 (a : Addr) (K C : Nat) (hK : 64 ≤ K) (w : World) : (Instr.slice 35 (.slice (some a) K C) (some (.int .i64 64)) none none).run Try.prog w = .ok (.slice (some (nextA a C)) (K - 64) (C - 64)) w := by
  rw [run_slice_l (P := Try.prog) w 35 (some a) K C (by rw [elem_bytes]; exact Try.underlying35) .i64 64 (by omega) (by omega), elem_bytes, size_u8]
  simp [Result.andThen, sliced, nextA]
  split <;> rfl
theorem add_flat1 (g o k : Nat) : (⟨g, o, none⟩ : Addr).add k = ⟨g, o + k, none⟩ := by unfold Addr.add; split <;> simp_all
theorem OwnB.part {w : World} {B g n cap : Nat} {bs : List UInt8} (h : OwnB w B (.slice (some ⟨g, 0, none⟩) n cap) bs) (o k : Nat) : w.rangeAt g o (((bs.drop o).take k).map bv) := by
  intro j v hv
  have h1 := h.range (o + j) v
  rw [Nat.zero_add] at h1
  apply h1
  rw [List.getElem?_map] at hv ⊢
  rw [List.getElem?_take, List.getElem?_drop] at hv
  split at hv
  · exact hv
  · cases hv

set_option maxHeartbeats 4000000 in
theorem HSum_any (B p : Nat) (rv : Value) (l : List UInt8) (w : World) (hw : Hid (HashB w B p rv l l.length)) (hs : l.length ≤ 1000000000000000000) :
    Calls Try.prog 52 #[.pointer (some ⟨p, 0, none⟩)] w fun e w' => e = .returned (.agg ((sha256 l).map bv).toArray) ∧ Below w.heap.size w w' := by
  set_option maxRecDepth 100000 in
  go_enter Try.func52, Try.ntmps52
  go_upto_region 0 with fail
  refine wp_region_list ?_
  refine wpList_allocB rfl 39 rfl w.heap.size rfl _ zero_D ?_
  intro w1 h1 hB1 hz1
  have Hd0 := Lib.hid h1
  have HB1 := Lib.hid hB1
  clear h1 hB1
  go_upto_region 1 with fail
  refine wp_region_list ?_
  refine wpList_allocB rfl 39 rfl (w.heap.size + 1) hz1 _ zero_D ?_
  intro w2 h2 hB2 hz2
  have Hd1 := Lib.hid h2
  have Hd2 := Lib.hid (heap_below Hd0.out hB2 (by omega))
  have HB2 := Lib.hid (HB1.out.trans (hB2.mono (by omega)))
  clear h2 hB2 Hd0 HB1
  have HW2 := Lib.hid (hw.out.below HB2.out hw.out.lt.1 hw.out.lt.2)
  go_upto_region 4 with (go_at_call 75; refine (dead_any _ _ _ _ _ _ HW2.out).mono ?_; rintro e w3 ⟨rfl, rfl⟩)
  obtain ⟨v1, v2, v3, v4, v5, v6, v7, v8⟩ := HW2.out.words
  go_upto_region 5 with fail
  clear v1 v2 v3 v4 v5 v6 v7 v8
  refine wp_name (fun W => SS w W (stOf l)) ⟨heap_alloc Hd2.out, heap_alloc Hd1.out, by have := heap_new w2 (.cells #[wv (stOf l).a, wv (stOf l).b, wv (stOf l).c, wv (stOf l).d, wv (stOf l).e, wv (stOf l).f, wv (stOf l).g, wv (stOf l).h] 77); rw [hz2] at this; exact this, HB2.out.alloc (by omega) _⟩ (fun w3 h3 => ?_)
  have HS := Lib.hid h3
  clear h3 Hd1 Hd2 HB2 HW2 hz1 hz2
  have HW3 := Lib.hid (hw.out.below HS.out.bel hw.out.lt.1 hw.out.lt.2)
  have c9 : w3.cell? ⟨p, 9, none⟩ = some rv := by rw [heap_cell HW3.out.cells]; rfl
  have hr64 := restOf_lt l
  obtain ⟨R, hR⟩ : ∃ R, restOf l = R := ⟨_, rfl⟩
  have Hown := Lib.hid HW3.out.rest
  rw [hR] at Hown hr64
  have HR := Lib.hid hR
  clear hR
  go_upto_region 6 with (at_builtin; refine wpList_copyB _ rfl _ _ rfl rfl B rv R rfl Hown.out (by omega) _ rfl ?_; intro tv w4 hT hb4)
  have HT := Lib.hid hT
  have HS4 := Lib.hid (HS.out.below (hb4.mono HS.out.size))
  have HT4 := Lib.hid (hT.mono HS.out.size)
  clear hT hb4 c9 HT HS HW3 Hown
  have hz4 := HS4.out.size
  go_upto_region 7 with (at_builtin; refine wpList_app1 w4 5 0x80 rfl _ _ rfl (w.heap.size + 3) tv R R.length rfl rfl HT4.out _ rfl (by omega) hz4 ?_; intro g cap w5 hT5 hb5 hg5)
  have HT5 := Lib.hid hT5
  have HS5 := Lib.hid (HS4.out.below hb5)
  clear hT5 hb5 HS4 HT4 hz4
  obtain ⟨Z, hZ⟩ : ∃ Z, (119 - R.length % 64) % 64 = Z := ⟨_, rfl⟩
  have hZ64 : Z < 64 := by omega
  have HZ := Lib.hid hZ
  clear hZ
  go_loopw [5] (fun v wr => ∃ (N g cap : Nat), R.length + 1 ≤ N ∧ N ≤ R.length + 1 + Z ∧ w.heap.size + 3 ≤ g ∧ Hid (OwnB wr (w.heap.size + 3) (.slice (some ⟨g, 0, none⟩) N cap) (R ++ 0x80 :: List.replicate (N - (R.length + 1)) 0)) ∧ Hid (SS w wr (stOf l)) ∧ v = .slice (some ⟨g, 0, none⟩) N cap) (fun v _ => R.length + 1 + Z - sliceLen v)
  case atStart => exact ⟨R.length + 1, g, cap, by omega, by omega, hg5, by simpa using HT5, HS5, rfl⟩
  case round =>
    clear HT5 HS5
    obtain ⟨N, g, cap, hN1, hN2, hg, HT, HS, rfl⟩ := hrel
    by_cases hlt : N < R.length + 1 + Z
    · have ht := pad_test R.length N hr64 hN1 (by rw [HZ.out]; exact hlt)
      have hz := HS.out.size
      have hl : (R ++ 0x80 :: List.replicate (N - (R.length + 1)) 0).length = N := by simp; omega
      obtain ⟨bs, hbs⟩ : ∃ bs, R ++ 0x80 :: List.replicate (N - (R.length + 1)) (0 : UInt8) = bs := ⟨_, rfl⟩
      rw [hbs] at HT hl
      have Hbs := Lib.hid hbs
      have Hl := Lib.hid hl
      clear hbs hl
      go_wp2_with (at_builtin; refine wpList_app1 wr 5 0 rfl _ _ rfl (w.heap.size + 3) _ bs N Hl.out rfl HT.out _ rfl (by omega) hz ?_; intro g6 cap6 w6 hT6 hb6 hg6)
      refine ⟨⟨N + 1, g6, cap6, by omega, by omega, hg6, ?_, HS.out.below hb6, rfl⟩, by simp [sliceLen]; omega⟩
      have e : N + 1 - (R.length + 1) = (N - (R.length + 1)) + 1 := by omega
      show OwnB _ _ _ _
      rw [e, List.replicate_succ', ← List.cons_append, ← List.append_assoc, Hbs.out]
      exact hT6
    · have HNe : Hid (N = R.length + 1 + Z) := by show _ = _; omega
      have hNb : N ≤ 128 := by omega
      have ht := pad_done R.length N hr64 (by rw [HZ.out]; exact HNe.out)
      have HW := Lib.hid (hw.out.below HS.out.bel hw.out.lt.1 hw.out.lt.2)
      have c10 : wr.cell? ⟨p, 10, none⟩ = some (.int .i64 (l.length : Int)) := by rw [heap_cell HW.out.cells]; rfl
      go_upto_region 10 with fail
      clear c10 ht
      obtain ⟨M, hM⟩ : ∃ M : Int, (l.length : Int) * 8 = M := ⟨_, rfl⟩
      have hM0 : 0 ≤ M ∧ M ≤ 9223372036854775807 := by omega
      rw [hM]
      have HM := Lib.hid hM
      clear hM
      have eZ : N - (R.length + 1) = Z := by have := HNe.out; omega
      rw [eZ] at HT
      obtain ⟨P0, hP0⟩ : ∃ P0, R ++ 0x80 :: List.replicate Z (0 : UInt8) = P0 := ⟨_, rfl⟩
      have hPl : P0.length = N := by have := HNe.out; rw [← hP0]; simp; omega
      rw [hP0] at HT
      have HP0 := Lib.hid hP0
      have HPl := Lib.hid hPl
      clear hP0 hPl eZ hN1 hN2 hlt
      go_wp2_with fail
      go_loopw [5, 7] (fun v i wr => ∃ (k g cap L : Nat) (I : Int), k ≤ 8 ∧ -8 ≤ I ∧ I ≤ 56 ∧ Hid (I = 56 - 8 * (k : Int)) ∧ Hid (L = N + k) ∧ L ≤ 200 ∧ w.heap.size + 3 ≤ g ∧ Hid (OwnB wr (w.heap.size + 3) (.slice (some ⟨g, 0, none⟩) L cap) (P0 ++ (be 8 M.toNat).take k)) ∧ Hid (SS w wr (stOf l)) ∧ v = .slice (some ⟨g, 0, none⟩) L cap ∧ i = .int .i64 I) (fun _ i _ => (intOf i + 8).toNat)
      case atStart => exact ⟨0, g, cap, N, 56, by omega, by omega, by omega, rfl, rfl, by omega, hg, by simpa using HT, HS, rfl, rfl⟩
      case round =>
        clear HT HS HW hg
        obtain ⟨k, g, cap, L, I, hk, hI1, hI2, HI, HL, hL, hg, HT, HS, rfl, rfl⟩ := hrel
        by_cases hlt : 0 ≤ I
        · have d0 : decide ((0 : Int) ≤ I) = true := by simpa using hlt
          have hk8 : k < 8 := by have := HI.out; omega
          obtain ⟨b, hb⟩ : ∃ b : UInt8, M / 2 ^ I.toNat % 256 = (b.toNat : Int) := ⟨UInt8.ofNat (M.toNat / 256 ^ (7 - k) % 256), by
            have e1 : I.toNat = 8 * (7 - k) := by have := HI.out; omega
            rw [e1]; exact byte_of M hM0.1 _⟩
          have Hb : Hid ((be 8 M.toNat).take (k + 1) = (be 8 M.toNat).take k ++ [b]) := by
            show _ = _
            rw [be_take_succ _ _ _ hk8]
            have e1 : I.toNat = 8 * (7 - k) := by have := HI.out; omega
            rw [e1, byte_of M hM0.1] at hb
            have h9 : (UInt8.ofNat (M.toNat / 256 ^ (7 - k) % 256)).toNat = b.toNat := by omega
            have h10 : UInt8.ofNat (M.toNat / 256 ^ (8 - 1 - k) % 256) = b := UInt8.toNat_inj.1 h9
            rw [h10]
          have hz := HS.out.size
          have hl : (P0 ++ (be 8 M.toNat).take k).length = L := by have := HL.out; have := HPl.out; rw [List.length_append, List.length_take, be_length]; omega
          obtain ⟨bs, hbs⟩ : ∃ bs, P0 ++ (be 8 M.toNat).take k = bs := ⟨_, rfl⟩
          rw [hbs] at HT hl
          have Hbs := Lib.hid hbs
          have Hl := Lib.hid hl
          clear hbs hl
          go_wp2_with (at_builtin; refine wpList_app1 wr 5 b rfl _ _ rfl (w.heap.size + 3) _ bs L Hl.out rfl HT.out _ rfl (by omega) hz ?_; intro g6 cap6 w6 hT6 hb6 hg6)
          go_roundw
          case rel =>
            refine ⟨k + 1, g6, cap6, L + 1, I - 8, by omega, by omega, by omega, ?_, ?_, by have := HL.out; omega, hg6, ?_, HS.out.below hb6, rfl, rfl⟩
            · have := HI.out; show _ = _; omega
            · have := HL.out; show _ = _; omega
            · show OwnB _ _ _ _
              rw [Hb.out, ← List.append_assoc, Hbs.out]
              exact hT6
          case measure => simp [intOf]; omega
        · have d0 : decide ((0 : Int) ≤ I) = false := by simpa using hlt
          obtain rfl : k = 8 := by have := HI.out; omega
          go_wp2_with fail
          obtain ⟨T, hT⟩ : ∃ T, P0 ++ (be 8 M.toNat).take 8 = T := ⟨_, rfl⟩
          rw [hT] at HT
          have hTl : T.length = L := by have := HL.out; have := HPl.out; rw [← hT, List.length_append, List.length_take, be_length]; omega
          have HTe : Hid (T = R ++ padOf l.length) := by
            show _ = _
            rw [← hT, ← HP0.out, List.take_of_length_le (by rw [be_length]; omega), List.append_assoc, List.cons_append]
            have e1 : M.toNat = 8 * l.length := by have := HM.out; omega
            have e2 : l.length % 64 = R.length % 64 := by rw [← HR.out, restOf_length]; omega
            rw [padOf_mod _ _ e2, HZ.out, e1]
          have hL64 : L % 64 = 0 := by have := HL.out; have := HNe.out; have := HZ.out; omega
          have HT0 := Lib.hid hT
          have HTl := Lib.hid hTl
          have HL64 := Lib.hid hL64
          obtain ⟨_, _, e, _, hcap⟩ := own_size HT.out
          have hcapL : L ≤ cap := by
            injection e with e1 e2 e3
            subst e3
            obtain ⟨_, _, _, _, h⟩ := hcap _ e1.symm
            omega
          clear hT hTl hL64 hcap e hlt
          go_loopw [5] (fun v wr => ∃ (q K C : Nat) (ad : Addr), Hid (K + 64 * q = L) ∧ K ≤ C ∧ Hid (0 < K → ad = ⟨g, 64 * q, none⟩) ∧ Hid (OwnB wr (w.heap.size + 3) (.slice (some ⟨g, 0, none⟩) L cap) T) ∧ Hid (SS w wr (shaN (stOf l) T q)) ∧ v = .slice (some ad) K C) (fun v _ => sliceLen v)
          case atStart => exact ⟨0, L, cap, _, by show _ = _; omega, hcapL, fun _ => rfl, HT, HS, rfl⟩
          case round =>
            clear HT HS
            obtain ⟨q, K, C, ad, HK, hKC, HA, HT, HS, rfl⟩ := hrel
            by_cases hlt : 0 < K
            · have hK64 : 64 ≤ K := by have := HK.out; have := HL64.out; omega
              have had := HA.out hlt
              subst had
              have hs := slice64 ⟨g, 64 * q, none⟩ K C hK64
              have harr := arr64 ⟨g, 64 * q, none⟩ C
              have hC64 : 64 ≤ C := by omega
              go_upto_region 16 with fail
              have h64 : ((T.drop (64 * q)).take 64).length = 64 := by have := HTl.out; have := HK.out; rw [List.length_take, List.length_drop]; omega
              have hrg := HT.out.part (64 * q) 64
              have Hst : Hid (shaN (stOf l) T (q + 1) = shaBlock (shaN (stOf l) T q) ((T.drop (64 * q)).take 64)) := rfl
              obtain ⟨Y, hY⟩ : ∃ Y, (T.drop (64 * q)).take 64 = Y := ⟨_, rfl⟩
              rw [hY] at h64 hrg Hst
              have H64 := Lib.hid h64
              have Hrg := Lib.hid hrg
              clear hY h64 hrg
              obtain ⟨V, hV⟩ : ∃ V, shaN (stOf l) T q = V := ⟨_, rfl⟩
              rw [hV] at HS Hst
              clear hV
              have HV := Lib.hid HS.out.sb
              go_upto_region 15 with (first
                | (refine wpList_load64 rfl _ rfl g (64 * q) rfl Y H64.out Hrg.out ?_)
                | (go_at_call 76; refine (block_any (w.heap.size + 1 + 1) 0 V Y (words8 V) _ wr H64.out HV (by show 0 + 8 ≤ 8; omega) (words8_get _)).mono ?_; rintro e w5 ⟨rfl, hp5, hk5⟩))
              rw [lay8_words] at hp5
              have HS5 := Lib.hid (HS.out.block hk5 hp5)
              have HT5 := Lib.hid (OwnB.mod (w := wr) HT.out (Mod.kept (S := fun k => k = w.heap.size + 1 + 1) hk5 rfl) (fun k h e => by have := own_blk h; omega))
              clear hp5 hk5
              go_wp2_with fail
              refine ⟨⟨q + 1, K - 64, C - 64, nextA ⟨g, 64 * q, none⟩ C, ?_, by omega, ?_, HT5, by rw [Hst.out]; exact HS5, rfl⟩, by simp [sliceLen]; omega⟩
              · have := HK.out; show _ = _; omega
              · intro h
                unfold nextA
                rw [if_neg (by omega), add_flat1, Nat.mul_add]
            · obtain rfl : K = 0 := by omega
              have HF : Hid (sha256 l = shaOut (shaN (stOf l) T q)) := by
                show _ = _
                rw [sha256_eq, HR.out, ← HTe.out]
                have e1 : T.length / 64 = q := by have := HTl.out; have := HK.out; omega
                rw [e1]
              obtain ⟨V, hV⟩ : ∃ V, shaN (stOf l) T q = V := ⟨_, rfl⟩
              rw [hV] at HS HF
              have HVB : VB wr (w.heap.size + 1 + 1) V := HS.out.sb
              obtain ⟨v1, v2, v3, v4, v5, v6, v7, v8⟩ := VB.cells HVB
              go_upto_region 18 with fail
              clear hV HT HA HK HT0 HTl HL64 HTe HP0 HPl HM HNe HR HZ HI HL hI1 hI2 hL hk hKC hcapL hlt
              have HD0 := Lib.hid HS.out.d0
              have HD1 := Lib.hid HS.out.d1
              have HBe := Lib.hid HS.out.bel
              rw [← lay32_zero (shaOut V)] at HD1
              clear HS HVB v1 v2 v3 v4 v5 v6 v7 v8 hg
              go_loopw [61] (fun t wr => ∃ (i : Nat), i ≤ 8 ∧ Hid (DB wr w.heap.size zeros32) ∧ Hid (DB wr (w.heap.size + 1) (lay32 (shaOut V) (4 * i))) ∧ Hid (Below w.heap.size w wr) ∧ t = .int .i64 (i : Int)) (fun t _ => 8 - (intOf t).toNat)
              case atStart => exact ⟨0, by omega, HD0, HD1, HBe, rfl⟩
              case round =>
                clear HD0 HD1 HBe
                obtain ⟨i, hi, HD0, HD1, HBe, rfl⟩ := hrel
                by_cases hlt : i < 8
                · have hix := fun w => index8 V w i hlt
                  have hob := fun k hk => out_byte V i k hlt hk
                  obtain ⟨X, hX⟩ : ∃ X, V.list.getD i 0 = X := ⟨_, rfl⟩
                  rw [hX] at hix hob
                  have Hob := Lib.hid hob
                  clear hX hob
                  go_upto_region 20 with fail
                  clear hix
                  go_upto_region 21 with fail
                  go_loopw [65] (fun t wr => ∃ (k : Nat), k ≤ 4 ∧ Hid (DB wr w.heap.size zeros32) ∧ Hid (DB wr (w.heap.size + 1) (lay32 (shaOut V) (4 * i + k))) ∧ Hid (Below w.heap.size w wr) ∧ t = .int .i64 (k : Int)) (fun t _ => 4 - (intOf t).toNat)
                  case atStart => exact ⟨0, by omega, HD0, HD1, HBe, rfl⟩
                  case round =>
                    clear HD0 HD1 HBe
                    obtain ⟨k, hk, HD0, HD1, HBe, rfl⟩ := hrel
                    by_cases hlk : k < 4
                    · obtain ⟨b, hb1, hb2⟩ := Hob.out k hlk
                      have hl32 := lay32_length (shaOut V) (4 * i + k) (shaOut_length V) (by omega)
                      obtain ⟨old, c1⟩ : ∃ old : Value, wr.cell? ⟨w.heap.size + 1, 4 * i + k, none⟩ = some old := ⟨_, HD1.out.cell (4 * i + k) (by omega)⟩
                      have f1 := HD1.out.free (4 * i + k)
                      have Hb1 := Lib.hid hb1
                      clear hb1 hl32
                      go_wp2_with fail
                      refine ⟨⟨k + 1, by omega, heap_setOther HD0.out (by show w.heap.size ≠ w.heap.size + 1; omega) _, ?_, HBe.out.setCell (by show w.heap.size ≤ w.heap.size + 1; omega) _, by go_num⟩, by simp [intOf]; omega⟩
                      have h1 := HD1.out.set (4 * i + k) b
                      rw [lay32_succ _ _ _ (shaOut_length V) (by omega) Hb1.out] at h1
                      exact h1
                    · obtain rfl : k = 4 := by omega
                      go_wp2_with fail
                      exact ⟨⟨i + 1, by omega, HD0, by rw [Nat.mul_add]; exact HD1, HBe, by go_num⟩, by simp [intOf]; omega⟩
                · obtain rfl : i = 8 := by omega
                  go_upto_region 26 with fail
                  have HD2 : DB wr (w.heap.size + 1) (shaOut V) := by have := HD1.out; rw [lay32_all _ (shaOut_length V)] at this; exact this
                  have h32 : ((shaOut V).map bv).length = 32 := (List.length_map _).trans (shaOut_length V)
                  refine wp_region_list ?_
                  refine wpList_load_mid rfl 39 _ rfl (w.heap.size + 1) 0 rfl ((shaOut V).map bv) _ (range_all HD2) Try.underlying39 rfl (info_D.trans (congrArg some h32.symm)) ?_
                  refine wpList_store_mid rfl 39 _ _ rfl w.heap.size 0 ((shaOut V).map bv).toArray rfl rfl (by have := there_all HD0.out; simpa [zeros32, shaOut_length] using this) (info_D.trans (congrArg some h32.symm)) (by simp [bv]; intros; rfl) ?_
                  refine wpList_name (fun W => DB W w.heap.size (shaOut V) ∧ Below w.heap.size w W) ⟨HD0.out.store (shaOut V) (by rw [shaOut_length]; rfl), HBe.out.trans (setCells_below _ _ _ _ _ (Nat.le_refl _))⟩ (fun W2 hW2 => ?_)
                  have hd := hW2.1.load (shaOut_length V)
                  have HB2 := Lib.hid hW2.2
                  have Hd := Lib.hid hd
                  clear hW2 hd
                  go_wp2_with fail
                  refine bodyPost_ret (v := .agg ((shaOut V).map bv).toArray) ?_ rfl ⟨by rw [HF.out], HB2.out⟩
                  exact results_cell1 Try.results52 rfl Hd.out
end Go.Proofs.Ytmjikebbknjahaa
