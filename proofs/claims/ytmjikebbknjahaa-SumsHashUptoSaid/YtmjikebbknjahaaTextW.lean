/-
  The walks of sums.Text, Cut, Of, Digest.
-/
import Derived.Test.YtmjikebbknjahaaShaT
import Derived.Laws.CopyOwn
namespace Go.Proofs.Ytmjikebbknjahaa
open Go.RowKit Go.Lib Hw
set_option linter.unusedVariables false

/-- append(b, s...) of any string: the call's own row, its world below B -/
theorem wpList_appSt {ops : Array Oper} {rest : List Oper} {o : Oper} {a : Act} {Q : Exit → Act → World → Prop} (w : World) (hgd : o.guard = none) (sl x : Operand)
    (ho : o.op = .call { callee := .builtin .append, args := #[sl, x], argTypes := #[35, 9] })
    (B : Nat) (v : Value) (bs : List UInt8) (hs : a.eval sl = v) (hown : OwnB w B v bs) (s : ByteArray) (hx : a.eval x = .string s)
    (hlen : bs.length + s.size ≤ 140737488355328) (hB : B ≤ w.heap.size)
    (h : ∀ v' w', OwnB w' B v' (bs ++ s.data.toList) → Below B w w' →
      wpList Try.prog ops Q rest (a.put o.dst v') w') : wpList Try.prog ops Q (o :: rest) a w := by
  obtain ⟨i, hi, hz0, hz1, hz2⟩ := info_parts info_u8
  refine wpList_append_own_string w hgd sl x 35 9 ho B 5 i Try.underlying35 Try.underlying9 hi hz0 hz1 hz2 v bs.length (bs.map bv) hs hown s hx (by rw [maxLen_eq]; omega) hlen hB ?_
  intro v' w' h1 h2 h3
  refine h v' w' ?_ ((Below.refl B w).grown h2 hB (fun k hk => (World.ownsRow.lt hown k hk).1))
  unfold OwnB
  rw [List.length_append, List.map_append, data_len]
  exact h1
/-- append(b, ..) of some bytes that were laid into a block of their own -/
theorem wpList_appN {ops : Array Oper} {rest : List Oper} {o : Oper} {a : Act} {Q : Exit → Act → World → Prop} (W : World) (t : TypeId) (new : List UInt8) (hpos : 0 < new.length) (hgd : o.guard = none) (s x : Operand)
    (ho : o.op = .call { callee := .builtin .append, args := #[s, x], argTypes := #[35, 35] })
    (B : Nat) (v : Value) (bs : List UInt8) (hs : a.eval s = v) (hown : OwnB W B v bs) (c : Nat) (hx : a.eval x = .slice (some ⟨W.heap.size, 0, none⟩) new.length c)
    (hlen : bs.length + new.length ≤ 140737488355328) (hB : B ≤ W.heap.size)
    (h : ∀ v' w', OwnB w' B v' (bs ++ new) → Below B W w' → wpList Try.prog ops Q rest (a.put o.dst v') w') :
    wpList Try.prog ops Q (o :: rest) a (W.alloc (.cells (new.map bv).toArray t)) := by
  refine wpList_appB _ hgd s x ho B v bs hs (hown.alloc _) ⟨W.heap.size, 0, none⟩ c new hx ?_ hpos hlen (by simp only [World.size_alloc]; omega) _ rfl ?_
  · intro j hj
    rw [add_flat1, Nat.zero_add, heap_cell (heap_alloc_new W _)]
    simp [List.getElem?_eq_getElem hj]
  · intro g cap w' h1 h2 h3 h4
    rw [← List.length_append] at h1 ⊢
    exact h _ w' h1 (((Below.refl B W).alloc hB _).grown h2 (by simp only [World.size_alloc]; omega) (fun k hk => (World.ownsRow.lt hown k hk).1))

theorem StrRow.below' {w w' : World} {v : Value} {ss : List ByteArray} (h : StrRow w v ss) (hb : Below w.heap.size w w') : StrRow w' v ss := h.mod (Mod.of (fun _ => False) hb) (fun _ _ h => h)
/-- the text of a tag and parts -/
def partL (s : ByteArray) : List UInt8 := be 4 s.size ++ s.data.toList
def textL (tag : ByteArray) (ss : List ByteArray) : List UInt8 := UInt8.ofNat tag.size :: (tag.data.toList ++ ss.flatMap partL)
theorem partL_length (s : ByteArray) : (partL s).length = 4 + s.size := by rw [partL, List.length_append, be_length, data_len]
theorem parts_le (ss : List ByteArray) (k : Nat) : ((ss.take k).flatMap partL).length ≤ (ss.flatMap partL).length := by
  conv => rhs; rw [← List.take_append_drop k ss]
  rw [List.flatMap_append, List.length_append]
  omega
theorem parts_succ (ss : List ByteArray) (k : Nat) (h : k < ss.length) : (ss.take (k + 1)).flatMap partL = (ss.take k).flatMap partL ++ partL ss[k] := by
  rw [List.take_succ_eq_append_getElem h, List.flatMap_append]; simp
theorem four_bytes (n : Nat) : ∃ b0 b1 b2 b3 : UInt8, be 4 n = [b0, b1, b2, b3] ∧ (n : Int) % 4294967296 / 16777216 = (b0.toNat : Int) ∧ (n : Int) % 4294967296 / 65536 % 256 = (b1.toNat : Int) ∧ (n : Int) % 4294967296 / 256 % 256 = (b2.toNat : Int) ∧ (n : Int) % 4294967296 % 256 = (b3.toNat : Int) := by
  refine ⟨_, _, _, _, rfl, ?_, ?_, ?_, ?_⟩ <;> simp only [UInt8.toNat_ofNat'] <;> omega

theorem strRow_form {w : World} {v : Value} {ss : List ByteArray} (h : StrRow w v ss) : ∃ ad c, v = .slice ad ss.length c ∧ (0 < ss.length → ∃ b o, ad = some ⟨b, o, none⟩ ∧ ∀ i (h : i < ss.length), w.cell? ⟨b, o + i, none⟩ = some (.string ss[i])) := by
  obtain ⟨ad, c, e, _, h⟩ := h
  exact ⟨ad, c, e, h⟩
theorem not_empty (s : ByteArray) (h : ¬ s.size = 0) : s.toList.isEmpty = false := by
  rw [List.isEmpty_eq_false_iff]; intro h2; apply h
  rw [Go.ByteArray.toList_eq] at h2
  rw [← data_len, h2]; rfl
theorem OwnB.lit (w : World) (bs : List UInt8) (n : Nat) (hn : bs.length = n) (hm : n ≤ 9223372036854775807) : OwnB (w.alloc (.cells (bs.map bv).toArray 5)) w.heap.size (.slice (some ⟨w.heap.size, 0, none⟩) n n) bs := by
  subst hn
  refine ⟨by simp, .inr ⟨w.heap.size, bs.length, _, rfl, Nat.le_refl _, heap_alloc_new w _, Nat.le_refl _, by rw [maxLen_eq]; omega, by simp, ?_⟩⟩
  simp only [Nat.mul_one]
  rw [List.take_of_length_le (by simp)]
def badTag (tag : ByteArray) : Bool := tag.size == 0 || decide (64 < tag.size)

set_option maxHeartbeats 2000000 in
theorem Text_bad (tag : ByteArray) (v : Value) (w : World) (ht : badTag tag = true) (hs : tag.size ≤ 9223372036854775807) :
    Calls Try.prog 33 #[.string tag, v] w fun e w' => e = .returned (.tuple #[.string ⟨#[]⟩, .int .i64 20]) ∧ w = w' := by
  by_cases h0 : tag.size = 0
  · have he : tag = ⟨#[]⟩ := by cases tag with | mk d => have : d.size = 0 := h0; simp at this; subst this; rfl
    subst he
    clear h0 ht hs
    go_enter Try.func33, Try.ntmps33
    go_wp2_with fail
    exact bodyPost_ret (v := .tuple #[.string ⟨#[]⟩, .int .i64 20]) (by simp [results, Try.results33, go_sem]) rfl ⟨rfl, rfl⟩
  · have h1 : 64 < tag.size := by simp [badTag, h0] at ht; exact ht
    have h2 : tag.toList.isEmpty = false := not_empty tag h0
    clear h0 ht
    go_enter Try.func33, Try.ntmps33
    go_wp2_with fail
    exact bodyPost_ret (v := .tuple #[.string ⟨#[]⟩, .int .i64 20]) (by simp [results, Try.results33, go_sem]) rfl ⟨rfl, rfl⟩

set_option maxHeartbeats 4000000 in
theorem Text_any (tag : ByteArray) (v : Value) (ss : List ByteArray) (w : World) (ht : badTag tag = false) (hv : Hid (StrRow w v ss)) (hlen : tag.size + (ss.flatMap partL).length < 140737488355328) (hn : ss.length ≤ 9223372036854775807) :
    Calls Try.prog 33 #[.string tag, v] w fun e w' => e = .returned (.tuple #[.string ⟨(textL tag ss).toArray⟩, .int .i64 0]) ∧ Below w.heap.size w w' := by
  have h0 : ¬ tag.size = 0 := by intro h; simp [badTag, h] at ht
  have h1 : ¬ 64 < tag.size := by intro h; simp [badTag, h] at ht
  have h2 := not_empty tag h0
  have h3 : tag.size < 256 := by omega
  obtain ⟨ad, c, rfl, hcell⟩ := strRow_form hv.out
  have Hc := Lib.hid hcell
  obtain ⟨b, hb⟩ : ∃ b : UInt8, (tag.size : Int) = (b.toNat : Int) := ⟨UInt8.ofNat tag.size, by simp only [UInt8.toNat_ofNat']; omega⟩
  have HB := Lib.hid hb
  have Hb : Hid (UInt8.ofNat tag.size = b) := by
    apply UInt8.toNat_inj.1
    simp only [UInt8.toNat_ofNat']
    omega
  clear hcell h0 ht hv hb
  go_enter Try.func33, Try.ntmps33
  go_upto_region 4 with (at_builtin; refine wpList_appSt _ rfl _ _ rfl w.heap.size (.slice (some ⟨w.heap.size, 0, none⟩) 1 1) [b] rfl (by rw [HB.out]; exact OwnB.lit w [b] 1 rfl (by omega)) tag rfl (by simp only [List.length_singleton]; omega) (by simp) ?_; intro v1 w1 hv1 hb1)
  have HV1 := Lib.hid hv1
  have HB1 := Lib.hid (((Below.refl w.heap.size w).alloc (Nat.le_refl _) _).trans hb1)
  clear hv1 hb1
  go_wp2_with fail
  go_loopw [6, 25] (fun v i wr => ∃ (k : Nat), k ≤ ss.length ∧ Hid (OwnB wr w.heap.size v ([b] ++ tag.data.toList ++ (ss.take k).flatMap partL)) ∧ Hid (Below w.heap.size w wr) ∧ i = .int .i64 (k : Int)) (fun _ i _ => ss.length - (intOf i).toNat)
  case atStart => exact ⟨0, by omega, by simpa using HV1, HB1, rfl⟩
  case round =>
    clear HV1 HB1
    obtain ⟨k, hk, HV, HBe, rfl⟩ := hrel
    by_cases hlt : k < ss.length
    · obtain ⟨bb, o, rfl, hcl⟩ := Hc.out (by omega)
      have hcell := cellB HBe.out (World.block_lt_of_cell? _ _ (hcl k hlt)) (hcl k hlt)
      have hpl := parts_le ss (k + 1)
      have hps := parts_succ ss k hlt
      obtain ⟨s, hs⟩ : ∃ s, ss[k] = s := ⟨_, rfl⟩
      rw [hs] at hps hcell
      rw [hps, List.length_append, partL_length] at hpl
      have Hps := Lib.hid hps
      clear hcl hs hps
      obtain ⟨b0, b1, b2, b3, hbe, e0, e1, e2, e3⟩ := four_bytes s.size
      have Hbe := Lib.hid hbe
      clear hbe
      have hz := HBe.out.size
      obtain ⟨bs, hbs⟩ : ∃ bs, [b] ++ tag.data.toList ++ (ss.take k).flatMap partL = bs := ⟨_, rfl⟩
      have hbl : bs.length = 1 + tag.size + ((ss.take k).flatMap partL).length := by rw [← hbs, List.length_append, List.length_append, data_len]; rfl
      rw [hbs] at HV
      have Hbs := Lib.hid hbs
      have Hbl := Lib.hid hbl
      clear hbs hbl
      go_upto_region 8 with fail
      set_option maxRecDepth 100000 in
      go_upto_region 9 with (at_builtin; refine wpList_appN wr 5 [b0, b1, b2, b3] (by simp) rfl _ _ rfl w.heap.size u6 bs rfl HV.out _ rfl (by have := Hbl.out; simp only [List.length_cons, List.length_nil]; omega) hz ?_; intro v2 w2 hv2 hb2)
      have hl2 := Hbl.out
      have hbz := hb2.size
      go_wp2_with (at_builtin; refine wpList_appSt _ rfl _ _ rfl w.heap.size v2 (bs ++ [b0, b1, b2, b3]) rfl hv2 s rfl (by rw [List.length_append]; simp only [List.length_cons, List.length_nil]; omega) (by omega) ?_; intro v3 w3 hv3 hb3)
      have hfin : OwnB w3 w.heap.size v3 ([b] ++ tag.data.toList ++ (ss.take (k + 1)).flatMap partL) := by
        rw [Hps.out, ← List.append_assoc, Hbs.out, partL, Hbe.out, ← List.append_assoc]; exact hv3
      exact ⟨⟨k + 1, by omega, hfin, (HBe.out.trans hb2).trans hb3, by go_num⟩, by simp [intOf]; omega⟩
    · obtain rfl : k = ss.length := by omega
      have hcv := conv_own HV.out
      have HL : Hid ([b] ++ tag.data.toList ++ (ss.take ss.length).flatMap partL = textL tag ss) := by
        show _ = _
        rw [List.take_length, textL, Hb.out, List.append_assoc]; rfl
      rw [HL.out] at hcv
      go_wp2_with fail
      exact bodyPost_ret (v := .tuple #[.string ⟨(textL tag ss).toArray⟩, .int .i64 0]) (by simp [results, Try.results33, go_sem]) rfl ⟨rfl, HBe.out⟩

/-! digests in the walk -/
section
variable {ops : Array Oper} {rest : List Oper} {op : Oper} {a : Act} {w : World} {Q : Exit → Act → World → Prop}
theorem wpList_boxD (hg : op.guard = none) (x : Operand) (ho : op.op = .box 39 x) (l : List UInt8) (hx : a.eval x = dv l) (N : Nat) (hN : w.heap.size = N)
    (h : ∀ W, DB W N l → Below N w W → W.heap.size = N + 1 → wpList Try.prog ops Q rest (a.put op.dst (.pointer (some ⟨N, 0, none⟩))) W) : wpList Try.prog ops Q (op :: rest) a w :=
  wpList_boxB hg 39 x ho N hN _ (congrArg Value.cells hx) h
theorem wpList_allocD (hg : op.guard = none) (ho : op.op = .alloc 39) (N : Nat) (hN : w.heap.size = N)
    (h : ∀ W, DB W N zeros32 → Below N w W → W.heap.size = N + 1 → wpList Try.prog ops Q rest (a.put op.dst (.pointer (some ⟨N, 0, none⟩))) W) : wpList Try.prog ops Q (op :: rest) a w :=
  wpList_allocB hg 39 ho N hN _ zero_D h
theorem build_D (ρ : Operand → Value) (o : Oper) (ho : o.op = .build 39 #[]) (w : World) : (execOp ρ o).run Try.prog w = .ok (.value (dv zeros32)) w := by
  obtain ⟨a, b, c, d, e, f⟩ := o
  cases ho
  kernel_rfl
theorem wpList_buildD (hg : op.guard = none) (ho : op.op = .build 39 #[])
    (h : wpList Try.prog ops Q rest (a.put op.dst (dv zeros32)) w) : wpList Try.prog ops Q (op :: rest) a w := by
  refine wpList_plain hg fun K hK => ?_
  unfold Oper.wp
  rw [build_D _ _ ho]
  exact hK _ _ h
theorem wpList_loadD (hg : op.guard = none) (x : Operand) (ho : op.op = .load 39 x) (b : Nat) (hx : a.eval x = .pointer (some ⟨b, 0, none⟩)) (l : List UInt8) (hl : l.length = 32) (hd : DB w b l)
    (h : wpList Try.prog ops Q rest (a.put op.dst (dv l)) w) : wpList Try.prog ops Q (op :: rest) a w :=
  wpList_load_mid hg 39 x ho b 0 hx (l.map bv) _ (range_all (cs := l.map bv) hd) Try.underlying39 rfl (info_D.trans (congrArg some ((List.length_map _).trans hl).symm)) h
end
/-- a load of a digest under a guard that holds -/
theorem wpList_loadDg {ops : Array Oper} {rest : List Oper} {op : Oper} {a : Act} {w : World} {Q : Exit → Act → World → Prop} (hg : Region.wanted op (yielded ops a.tmps) = true) (x : Operand) (ho : op.op = .load 39 x) (b : Nat) (hx : a.eval x = .pointer (some ⟨b, 0, none⟩)) (l : List UInt8) (hl : l.length = 32) (hd : DB w b l)
    (h : wpList Try.prog ops Q rest (a.put op.dst (dv l)) w) : wpList Try.prog ops Q (op :: rest) a w :=
  wpList_step fun K hK => by
    rw [if_pos hg]
    exact wp_load_mid 39 x ho b 0 hx (l.map bv) _ (range_all (cs := l.map bv) hd) Try.underlying39 rfl (info_D.trans (congrArg some ((List.length_map _).trans hl).symm)) (hK _ _ h)
/-- the result of a digest and a number -/
theorem results_DE {fn : Func} {tmps : Array Value} {a b : Nat} {b2 : Nat} {l : List UInt8} {e : Value} {w : World} (hr : fn.results = #[.cell a 39, .tmp b]) (ha : tmps.getD a undef = .pointer (some ⟨b2, 0, none⟩)) (hb : tmps.getD b undef = e) (hl : l.length = 32) (hd : DB w b2 l) :
    (results fn tmps).run Try.prog w = .ok (.tuple #[dv l, e]) w := by
  have h1 := hd.load hl
  unfold results
  rw [hr]
  have ha' : tmps[a]?.getD undef = .pointer (some ⟨b2, 0, none⟩) := by rw [← ha]; simp
  have hb' : tmps[b]?.getD undef = e := by rw [← hb]; simp
  simp [ha', hb', h1, asAddr, dv]
theorem zeros32_length : zeros32.length = 32 := rfl
theorem lay32_len (l : List UInt8) (n : Nat) (hl : l.length = 32) (hn : n ≤ 32) : (lay32 l n).length = 32 := lay32_length l n hl hn

set_option maxHeartbeats 4000000 in
theorem Cut_no (n : Int) (l : List UInt8) (w : World) (hw : (decide (1 ≤ n) && decide (n ≤ 32)) = false) :
    Calls Try.prog 43 #[.int .i64 n, dv l] w fun e w' => e = .returned (.tuple #[dv zeros32, .int .i64 2]) ∧ Below w.heap.size w w' := by
  have HW := Lib.hid hw
  clear hw
  go_enter Try.func43, Try.ntmps43
  go_upto_region 1 with (first
    | (refine wpList_boxD rfl _ rfl l rfl w.heap.size rfl ?_; intro w1 hd1 hb1 hz1)
    | (refine wpList_allocD rfl rfl (w.heap.size + 1) hz1 ?_; intro w2 hd2 hb2 hz2))
  have HD := Lib.hid hd2
  have HB := Lib.hid (hb1.trans (hb2.mono (by omega)))
  clear hd1 hb1 hz1 hd2 hb2 hz2
  go_upto_region 2 with (go_at_call 71; refine (wide_any _ _).mono ?_; rintro e w3 ⟨rfl, rfl⟩; rw [HW.out])
  go_wp2_with (first
    | (refine wpList_buildD rfl rfl ?_)
    | (refine wpList_storeD rfl _ _ rfl (w.heap.size + 1) rfl zeros32 zeros32 rfl rfl rfl HD.out ?_; intro w6 hd6 hb6 hk6 hz6))
  refine bodyPost_ret (v := .tuple #[dv zeros32, .int .i64 2]) ?_ rfl ⟨rfl, HB.out.trans (hb6.mono (by omega))⟩
  exact results_DE Try.results43 rfl rfl rfl hd6

theorem splice_lay (l : List UInt8) (m : Nat) (hl : l.length = 32) (hm : m ≤ 32) : splice (zeros32.map bv) 0 ((l.take m).map bv) = (lay32 l m).map bv := by
  unfold splice lay32 zeros32
  simp only [List.take_zero, List.nil_append, List.length_map, Nat.zero_add, List.map_append, List.length_take]
  rw [Nat.min_eq_left (by omega), ← List.map_drop, List.drop_replicate]
theorem cut_cell {w : World} {b : Nat} {l : List UInt8} (h : DB w b l) (m : Nat) (hm : m ≤ 32) (hl : l.length = 32) (j : Nat) (v : Value) (hv : ((l.take m).map bv)[j]? = some v) : w.cell? ⟨b, j, none⟩ = some v := by
  rw [heap_cell h]
  rw [List.getElem?_map, List.getElem?_take] at hv
  split at hv
  · simpa using hv
  · cases hv
theorem info_u8c : (Try.prog.info? 5).map (·.size) = some 1 := by kernel_rfl

set_option maxHeartbeats 4000000 in
theorem Cut_yes (n : Int) (l : List UInt8) (w : World) (h1 : 1 ≤ n) (h2 : n ≤ 32) (hl : l.length = 32) :
    Calls Try.prog 43 #[.int .i64 n, dv l] w fun e w' => e = .returned (.tuple #[dv (lay32 l n.toNat), .int .i64 0]) ∧ Below w.heap.size w w' := by
  have HW := Lib.hid (show (decide (1 ≤ n) && decide (n ≤ 32)) = true by simp [h1, h2])
  go_enter Try.func43, Try.ntmps43
  go_upto_region 1 with (first
    | (refine wpList_boxD rfl _ rfl l rfl w.heap.size rfl ?_; intro w1 hd1 hb1 hz1)
    | (refine wpList_allocD rfl rfl (w.heap.size + 1) hz1 ?_; intro w2 hd2 hb2 hz2))
  have HD1 := Lib.hid (hd1.below hb2 (by omega))
  have HD2 := Lib.hid hd2
  have HB := Lib.hid (hb1.trans (hb2.mono (by omega)))
  clear hd1 hb1 hz1 hd2 hb2
  go_upto_region 4 with (first
    | (go_at_call 71; refine (wide_any _ _).mono ?_; rintro e w3 ⟨rfl, rfl⟩; rw [HW.out])
    | (refine wpList_allocD rfl rfl (w.heap.size + 1 + 1) hz2 ?_; intro w4 hd4 hb4 hz4))
  try simp only [Act.put, List.setIfInBounds_toArray, List.set_cons_zero, List.set_cons_succ]
  obtain ⟨m, rfl⟩ : ∃ m : Nat, n = m := ⟨n.toNat, by omega⟩
  have hm0 : (0 : Int) ≤ m := by omega
  have hm1 : m ≤ 32 := by omega
  refine wp_region_held_drew (S := fun _ => True) (by kernel_rfl) trivial (fun hHeld => ?_)
  refine' wpAnyH_take (i := 0) (oi := { dst := Option.some 11, op := Op.move (Operand.tmp 0), type := 3, pos := "text.go:53", after := #[], guard := Option.none }) rfl (by kernel_rfl) (by kernel_rfl) (by kernel_rfl) (fun _ _ _ h => h) (Or.inl ⟨by rfl, _⟩) (by assumption) _
  rotate_left
  · (intro wS hSw; (try dsimp only at hSw); go_simp; try with_reducible rfl)
  try simp only [Act.put, List.setIfInBounds_toArray, List.set_cons_zero, List.set_cons_succ]
  refine' wpAnyH_take (i := 1) (oi := { dst := Option.some 12, op := Op.slice 39 (Operand.tmp 6) Option.none (Option.some (Operand.tmp 11)) Option.none, type := 35, pos := "text.go:53", after := #[{ on := 0, ground := Ground.data }], guard := Option.none }) rfl (by kernel_rfl) (by kernel_rfl) (by kernel_rfl) (fun _ _ _ h => h) (Or.inl ⟨by rfl, _⟩) (by assumption) _
  rotate_left
  · (intro wS hSw; (try dsimp only at hSw); go_simp; try with_reducible rfl)
  try simp only [Act.put, List.setIfInBounds_toArray, List.set_cons_zero, List.set_cons_succ]
  refine' wpAnyH_take (i := 2) (oi := { dst := Option.some 13, op := Op.move (Operand.tmp 0), type := 3, pos := "text.go:53", after := #[], guard := Option.none }) rfl (by kernel_rfl) (by kernel_rfl) (by kernel_rfl) (fun _ _ _ h => h) (Or.inl ⟨by rfl, _⟩) (by assumption) _
  rotate_left
  · (intro wS hSw; (try dsimp only at hSw); go_simp; try with_reducible rfl)
  try simp only [Act.put, List.setIfInBounds_toArray, List.set_cons_zero, List.set_cons_succ]
  refine' wpAnyH_take (i := 3) (oi := { dst := Option.some 14, op := Op.slice 39 (Operand.tmp 3) Option.none (Option.some (Operand.tmp 13)) Option.none, type := 35, pos := "text.go:53", after := #[{ on := 2, ground := Ground.data }], guard := Option.none }) rfl (by kernel_rfl) (by kernel_rfl) (by kernel_rfl) (fun _ _ _ h => h) (Or.inl ⟨by rfl, _⟩) (by assumption) _
  rotate_left
  · (intro wS hSw; (try dsimp only at hSw); go_simp; try with_reducible rfl)
  try simp only [Act.put, List.setIfInBounds_toArray, List.set_cons_zero, List.set_cons_succ]
  have HD3 := Lib.hid (HD1.out.below hb4 (by omega))
  have HD4 := Lib.hid (HD2.out.below hb4 (by omega))
  have HD5 := Lib.hid hd4
  have hB4 := hb4
  refine wpAnyH_ready (rs := [4]) (by kernel_rfl) (by simp) ?_
  refine AllReadyH.cons (o := { dst := Option.some 15, op := Op.call { callee := Callee.builtin Builtin.copy, args := #[Operand.tmp 12, Operand.tmp 14], argTypes := #[35, 35] }, type := 3, pos := "text.go:53", after := #[{ on := 1, ground := Ground.data }, { on := 3, ground := Ground.data }], guard := Option.none }) rfl (fun K hK => ?_) AllReadyH.nil
  (refine step_copy_splice rfl _ _ 35 35 rfl 5 Try.underlying35 info_u8c (some ⟨w.heap.size + 1 + 1, 0, none⟩) (some ⟨w.heap.size, 0, none⟩) m 32 m 32 rfl rfl (w.heap.size + 1 + 1) 0 (zeros32.map bv) 39 HD5.out ((l.take m).map bv) (by rw [List.length_map, List.length_take, hl]; exact (Nat.min_eq_left hm1).trans (Nat.min_self m).symm) (fun _ => ⟨rfl, _, rfl, fun j v hv => by rw [add_flat1, Nat.zero_add]; exact cut_cell HD3.out m hm1 hl j v hv⟩) (by rw [List.length_map, List.length_take, List.length_map, zeros32_length]; omega) (bv_one _) (w.heap.size + 1 + 1) w4 (Below.refl _ _).drew (Nat.le_refl _) ?_; intro w5 h5 hb5)
  refine hK.out _ _ ?_ (fun hHeld => ?_)
  · trivial
  clear hK K
  try simp only [Act.put, List.setIfInBounds_toArray, List.set_cons_zero, List.set_cons_succ]
  refine wpAnyH_done (by kernel_rfl) ?_ _
  rw [splice_lay l m hl hm1] at h5
  have HD6 : Hid (DB w5 (w.heap.size + 1) zeros32) := HD4.out.below hb5 (by omega)
  have HD7 : Hid (DB w5 (w.heap.size + 1 + 1) (lay32 l m)) := h5
  have HBf := Lib.hid ((HB.out.trans (hb4.mono (by omega))).trans (hb5.mono (by omega)))
  clear HD3 HD4 HD5 HB hB4 hb4 hb5 h5 HD1 HD2
  go_wp2_with (first
    | (refine wpList_loadD rfl _ rfl (w.heap.size + 1 + 1) rfl (lay32 l m) (lay32_length l m hl hm1) HD7.out ?_)
    | (refine wpList_storeD rfl _ _ rfl (w.heap.size + 1) rfl zeros32 (lay32 l m) rfl (lay32_length l m hl hm1) rfl HD6.out ?_; intro w6 hd6 hb6 hk6 hz6))
  refine bodyPost_ret (v := .tuple #[dv (lay32 l m), .int .i64 0]) ?_ rfl ⟨rfl, HBf.out.trans (hb6.mono (by omega))⟩
  exact results_DE Try.results43 rfl rfl (lay32_length l m hl hm1) hd6
end Go.Proofs.Ytmjikebbknjahaa
