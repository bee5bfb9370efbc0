/-
  The walks of Show, both ways.
-/
import Derived.Test.YtmjikebbknjahaaDgW
import Derived.Test.YtmjikebbknjahaaTurnP
import Derived.Deep.RegionHeld
namespace Go.Proofs.Ytmjikebbknjahaa
open Go.RowKit Go.Lib Hw
set_option linter.unusedVariables false

/-- the hexadecimal digit of a number below 16 -/
def hexd (n : Nat) : UInt8 := if n < 10 then UInt8.ofNat (48 + n) else UInt8.ofNat (87 + n)
def hex2 (c : UInt8) : List UInt8 := [hexd (c.toNat / 16), hexd (c.toNat % 16)]
def hexL (l : List UInt8) : List UInt8 := l.flatMap hex2
theorem hexL_succ (l : List UInt8) (k : Nat) (h : k < l.length) : hexL (l.take (k + 1)) = hexL (l.take k) ++ hex2 l[k] := by
  unfold hexL
  rw [List.take_add_one, List.getElem?_eq_getElem h, List.flatMap_append]
  simp
theorem hexL_length (l : List UInt8) : (hexL l).length = 2 * l.length := by
  induction l with
  | nil => rfl
  | cons a l ih =>
    rw [hexL, List.flatMap_cons, List.length_append]
    have h1 : (l.flatMap hex2).length = 2 * l.length := ih
    have h2 : (hex2 a).length = 2 := rfl
    rw [h1, h2, List.length_cons]
    omega
def showB (n : Int) (l : List UInt8) : ByteArray := bif fitB n l then ⟨(hexL (l.take n.toNat)).toArray⟩ else ⟨#[]⟩
def showE (n : Int) (l : List UInt8) : Int := bif fitB n l then 0 else 2
theorem fit_wide {n : Int} {l : List UInt8} (h : fitB n l = true) : 1 ≤ n ∧ n ≤ 32 := by
  cases hw : wideB n
  · unfold fitB at h; rw [hw] at h; cases h
  · exact wideB_yes hw

/-- append(xs, news...) at an operation: bytes that lie at a block's head -/
theorem wp_appB {o : Oper} {a : Act} {K : Act → World → Prop} {Q : Exit → Act → World → Prop} (W : World) (new : List UInt8) (s x : Operand)
    (ho : o.op = .call { callee := .builtin .append, args := #[s, x], argTypes := #[35, 35] })
    (B : Nat) (v : Value) (bs : List UInt8) (hs : a.eval s = v) (hown : OwnB W B v bs) (g c m : Nat) (hm : m = new.length) (hx : a.eval x = .slice (some ⟨g, 0, none⟩) m c)
    (hn : ∀ j (h : j < new.length), W.cell? ⟨g, j, none⟩ = some (bv new[j])) (hlen : bs.length + new.length ≤ 140737488355328) (hB : B ≤ W.heap.size)
    (h : ∀ v' w', OwnB w' B v' (bs ++ new) → Below B W w' → K (a.put o.dst v') w') : o.wp Try.prog a W K Q := by
  subst hm
  obtain ⟨i, hi, hz0, hz1, hz2⟩ := info_parts info_u8
  refine wp_append_own W s x 35 ho B 5 i (.int .u8 0) 1 1 Try.underlying35 hi hz0 hz1 hz2 rfl (by decide) v bs.length (bs.map bv) hs hown ⟨g, 0, none⟩ new.length c (new.map bv) hx (by simp) ?_ (bv_one new) (by rw [maxLen_eq]; omega) (by omega) hB ?_
  · intro j u hu
    rw [List.getElem?_map] at hu
    obtain ⟨y, hy, rfl⟩ := Option.map_eq_some_iff.1 hu
    obtain ⟨hj, rfl⟩ := List.getElem?_eq_some_iff.1 hy
    rw [add_flat1, Nat.zero_add]
    exact hn j hj
  · intro v' w' h1 h2 _
    refine h v' w' ?_ ((Below.refl B W).grown h2 hB (fun k hk => (World.ownsRow.lt hown k hk).1))
    unfold OwnB
    rw [List.length_append, List.map_append]
    exact h1

theorem cells2 (W : World) (t : TypeId) (a b : UInt8) : ∀ j (h : j < [a, b].length), (W.alloc (.cells #[.int .u8 (a.toNat : Int), .int .u8 (b.toNat : Int)] t)).cell? ⟨W.heap.size, j, none⟩ = some (bv [a, b][j]) := by
  intro j h
  rw [heap_cell (heap_alloc_new W _)]
  match j, h with
  | 0, _ => rfl
  | 1, _ => rfl

set_option maxHeartbeats 1000000 in
theorem digit_any (n : Nat) (w : World) (hn : n < 16) : Calls Try.prog 78 #[.int .u8 (n : Int)] w fun e w' => e = .returned (.int .u8 ((hexd n).toNat : Int)) ∧ w = w' := by
  by_cases h : n < 10
  · have d1 : decide ((n : Int) < 10) = true := by simp; omega
    have d2 : decide (n < 10) = true := decide_eq_true h
    have he : ((hexd n).toNat : Int) = 48 + (n : Int) := by rw [hexd, if_pos h, UInt8.toNat_ofNat']; omega
    rw [he]
    clear he h
    go_enter Try.func78, Try.ntmps78
    go_wp2_with fail
    go_ret
    exact ⟨by go_num, rfl⟩
  · have d1 : decide ((n : Int) < 10) = false := by simp; omega
    have d2 : decide (n < 10) = false := decide_eq_false h
    have he : ((hexd n).toNat : Int) = 97 + (n : Int) - 10 := by rw [hexd, if_neg h, UInt8.toNat_ofNat']; omega
    rw [he]
    clear he h
    go_enter Try.func78, Try.ntmps78
    go_wp2_with fail
    go_ret
    exact ⟨by go_num, rfl⟩

set_option maxHeartbeats 4000000 in
theorem refShow_any (n : Int) (l : List UInt8) (w : World) (hl : l.length = 32) :
    Calls Try.prog 62 #[.int .i64 n, dv l] w fun e w' => e = .returned (.tuple #[.string (showB n l), .int .i64 (showE n l)]) ∧ Below w.heap.size w w' := by
  have hl2 := hl
  cases hf : fitB n l
  · have e1 : showB n l = ⟨#[]⟩ := by unfold showB; rw [hf]; rfl
    have e2 : showE n l = 2 := by unfold showE; rw [hf]; rfl
    rw [e1, e2]
    have HF := Lib.hid hf
    clear hf e1 e2
    go_enter Try.func62, Try.ntmps62
    go_upto_region 1 with (refine wpList_boxD rfl _ rfl l rfl w.heap.size rfl ?_; intro w1 hd1 hb1 hz1)
    (try simp only [Act.put, List.setIfInBounds_toArray, List.set_cons_zero, List.set_cons_succ])
    have HD1 := Lib.hid hd1
    have HB1 := Lib.hid hb1
    clear hd1 hb1
    go_wp2_with (first
      | (refine wpList_loadD rfl _ rfl w.heap.size rfl l hl HD1.out ?_; (try simp only [Act.put, List.setIfInBounds_toArray, List.set_cons_zero, List.set_cons_succ]))
      | (go_at_call 46; refine (refFits_any n l _ hl).mono ?_; rintro e w2 ⟨rfl, hb2⟩; rw [HF.out]))
    exact bodyPost_ret (v := .tuple #[.string ⟨#[]⟩, .int .i64 2]) (by simp [results, Try.results62, go_sem]) rfl ⟨rfl, HB1.out.trans (hb2.mono (by omega))⟩
  · have hw := fit_wide hf
    have e1 : showB n l = ⟨(hexL (l.take n.toNat)).toArray⟩ := by unfold showB; rw [hf]; rfl
    have e2 : showE n l = 0 := by unfold showE; rw [hf]; rfl
    rw [e1, e2]
    obtain ⟨m, rfl⟩ : ∃ m : Nat, n = m := ⟨n.toNat, by omega⟩
    rw [Int.toNat_natCast]
    have hm : m ≤ 32 := by omega
    have HF := Lib.hid hf
    clear hf e1 e2 hw
    go_enter Try.func62, Try.ntmps62
    go_upto_region 1 with (refine wpList_boxD rfl _ rfl l rfl w.heap.size rfl ?_; intro w1 hd1 hb1 hz1)
    (try simp only [Act.put, List.setIfInBounds_toArray, List.set_cons_zero, List.set_cons_succ])
    have HD1 := Lib.hid hd1
    have HB1 := Lib.hid hb1
    clear hd1 hb1
    go_upto_region 3 with (first
      | (refine wpList_loadD rfl _ rfl w.heap.size rfl l hl HD1.out ?_; (try simp only [Act.put, List.setIfInBounds_toArray, List.set_cons_zero, List.set_cons_succ]))
      | (go_at_call 46; refine (refFits_any (m : Int) l _ hl).mono ?_; rintro e w2 ⟨rfl, hb2⟩; rw [HF.out]))
    have HD2 := Lib.hid (HD1.out.below hb2 (by omega))
    have HB2 := Lib.hid (HB1.out.trans (hb2.mono (by omega)))
    clear hb2 HD1 HB1
    go_wp2_with fail
    go_loopw [6, 7] (fun v i wr => ∃ (k : Nat), k ≤ m ∧ Hid (OwnB wr (w.heap.size + 1) v (hexL (l.take k))) ∧ Hid (DB wr w.heap.size l) ∧ Hid (Below w.heap.size w wr) ∧ i = .int .i64 (k : Int)) (fun _ i _ => m - (intOf i).toNat)
    case atStart => exact ⟨0, by omega, OwnB.nil _ _, HD2, HB2, rfl⟩
    case round =>
      clear HD2 HB2
      obtain ⟨k, hk, HO, HD, HB, rfl⟩ := hrel
      by_cases hlt : k < m
      · have hkl : k < l.length := by omega
        have c1 := HD.out.cell k hkl
        have hsucc := hexL_succ l k hkl
        obtain ⟨c, hc⟩ : ∃ c, l[k] = c := ⟨_, rfl⟩
        rw [hc] at c1 hsucc
        have hcb := c.toNat_lt
        have Hs := Lib.hid hsucc
        have hlk : (hexL (l.take k)).length = 2 * k := by rw [hexL_length, List.length_take]; omega
        have hz : w.heap.size + 1 ≤ wr.heap.size := heap_lt HD.out
        have q1 : IntKind.u8.wrap ((c.toNat : Int) / 16) = ((c.toNat / 16 : Nat) : Int) := by rw [IntKind.wrap_u8]; omega
        have q2 : (c.toNat : Int).tmod 16 = ((c.toNat % 16 : Nat) : Int) := by rw [Int.tmod_eq_emod_of_nonneg (by omega)]; omega
        have q3 : c.toNat / 16 < 16 := by omega
        have q4 : c.toNat % 16 < 16 := by omega
        have hk32 : (k : Int) < 32 := by omega
        have Hlk := Lib.hid hlk
        have Q1 := Lib.hid q1
        have Q2 := Lib.hid q2
        clear hc hsucc hlk q1 q2
        go_upto_region 7 with fail
        refine wp_region_held_drew (S := fun W => W.cell? ⟨w.heap.size, k, none⟩ = some (.int .u8 (c.toNat : Int))) (by kernel_rfl) c1 (fun hHeld => ?_)
        refine' wpAnyH_take (i := 0) (oi := { dst := Option.some 17, op := Op.move (Operand.tmp 6), type := 35, pos := "ref.go:354", after := #[], guard := Option.none }) rfl (by kernel_rfl) (by kernel_rfl) (by kernel_rfl) (fun _ _ _ h => h) (Or.inl ⟨by rfl, _⟩) (by assumption) _
        rotate_left
        · (intro wS hSw; (try dsimp only at hSw); go_simp; try with_reducible rfl)
        try simp only [Act.put, List.setIfInBounds_toArray, List.set_cons_zero, List.set_cons_succ]
        refine' wpAnyH_take (i := 1) (oi := { dst := Option.some 18, op := Op.move (Operand.tmp 7), type := 3, pos := "ref.go:354", after := #[], guard := Option.none }) rfl (by kernel_rfl) (by kernel_rfl) (by kernel_rfl) (fun _ _ _ h => h) (Or.inl ⟨by rfl, _⟩) (by assumption) _
        rotate_left
        · (intro wS hSw; (try dsimp only at hSw); go_simp; try with_reducible rfl)
        try simp only [Act.put, List.setIfInBounds_toArray, List.set_cons_zero, List.set_cons_succ]
        refine' wpAnyH_take (i := 2) (oi := { dst := Option.some 19, op := Op.indexAddr 39 (Operand.tmp 3) (Operand.tmp 18), type := 0, pos := "ref.go:354", after := #[{ on := 1, ground := Ground.data }], guard := Option.none }) rfl (by kernel_rfl) (by kernel_rfl) (by kernel_rfl) (fun _ _ _ h => h) (Or.inl ⟨by rfl, _⟩) (by assumption) _
        rotate_left
        · (intro wS hSw; (try dsimp only at hSw); go_simp; try with_reducible rfl)
        try simp only [Act.put, List.setIfInBounds_toArray, List.set_cons_zero, List.set_cons_succ]
        refine' wpAnyH_take (i := 3) (oi := { dst := Option.some 20, op := Op.load 5 (Operand.tmp 19), type := 5, pos := "ref.go:354", after := #[{ on := 2, ground := Ground.data }], guard := Option.none }) rfl (by kernel_rfl) (by kernel_rfl) (by kernel_rfl) (fun _ _ _ h => h) (Or.inl ⟨by rfl, _⟩) (by assumption) _
        rotate_left
        · (intro wS hSw; (try dsimp only at hSw); go_simp; try with_reducible rfl)
        try simp only [Act.put, List.setIfInBounds_toArray, List.set_cons_zero, List.set_cons_succ]
        refine' wpAnyH_take (i := 4) (oi := { dst := Option.some 21, op := Op.binOp BinOp.quo 5 (Operand.tmp 20) (Operand.const (Value.int IntKind.u8 16)) 5, type := 5, pos := "ref.go:354", after := #[{ on := 3, ground := Ground.data }], guard := Option.none }) rfl (by kernel_rfl) (by kernel_rfl) (by kernel_rfl) (fun _ _ _ h => h) (Or.inl ⟨by rfl, _⟩) (by assumption) _
        rotate_left
        · (intro wS hSw; (try dsimp only at hSw); go_simp; try with_reducible rfl)
        try simp only [Act.put, List.setIfInBounds_toArray, List.set_cons_zero, List.set_cons_succ]
        refine' wpAnyH_take (i := 6) (oi := { dst := Option.some 23, op := Op.move (Operand.tmp 7), type := 3, pos := "ref.go:354", after := #[], guard := Option.none }) rfl (by kernel_rfl) (by kernel_rfl) (by kernel_rfl) (fun _ _ _ h => h) (Or.inl ⟨by rfl, _⟩) (by assumption) _
        rotate_left
        · (intro wS hSw; (try dsimp only at hSw); go_simp; try with_reducible rfl)
        try simp only [Act.put, List.setIfInBounds_toArray, List.set_cons_zero, List.set_cons_succ]
        refine' wpAnyH_take (i := 7) (oi := { dst := Option.some 24, op := Op.indexAddr 39 (Operand.tmp 3) (Operand.tmp 23), type := 0, pos := "ref.go:354", after := #[{ on := 6, ground := Ground.data }], guard := Option.none }) rfl (by kernel_rfl) (by kernel_rfl) (by kernel_rfl) (fun _ _ _ h => h) (Or.inl ⟨by rfl, _⟩) (by assumption) _
        rotate_left
        · (intro wS hSw; (try dsimp only at hSw); go_simp; try with_reducible rfl)
        try simp only [Act.put, List.setIfInBounds_toArray, List.set_cons_zero, List.set_cons_succ]
        refine' wpAnyH_take (i := 8) (oi := { dst := Option.some 25, op := Op.load 5 (Operand.tmp 24), type := 5, pos := "ref.go:354", after := #[{ on := 7, ground := Ground.data }], guard := Option.none }) rfl (by kernel_rfl) (by kernel_rfl) (by kernel_rfl) (fun _ _ _ h => h) (Or.inl ⟨by rfl, _⟩) (by assumption) _
        rotate_left
        · (intro wS hSw; (try dsimp only at hSw); go_simp; try with_reducible rfl)
        try simp only [Act.put, List.setIfInBounds_toArray, List.set_cons_zero, List.set_cons_succ]
        refine' wpAnyH_take (i := 9) (oi := { dst := Option.some 26, op := Op.binOp BinOp.rem 5 (Operand.tmp 25) (Operand.const (Value.int IntKind.u8 16)) 5, type := 5, pos := "ref.go:354", after := #[{ on := 8, ground := Ground.data }], guard := Option.none }) rfl (by kernel_rfl) (by kernel_rfl) (by kernel_rfl) (fun _ _ _ h => h) (Or.inl ⟨by rfl, _⟩) (by assumption) _
        rotate_left
        · (intro wS hSw; (try dsimp only at hSw); go_simp; try with_reducible rfl)
        try simp only [Act.put, List.setIfInBounds_toArray, List.set_cons_zero, List.set_cons_succ]
        refine wpAnyH_ready (rs := [5]) (by kernel_rfl) (by simp) ?_
        refine AllReadyH.cons (o := { dst := Option.some 22, op := Op.call { callee := Callee.value (Operand.func 78), args := #[Operand.tmp 21], argTypes := #[5] }, type := 5, pos := "ref.go:354", after := #[{ on := 4, ground := Ground.data }], guard := Option.none }) rfl (fun K hK => ?_) AllReadyH.nil
        go_simp
        (go_at_call 78; rw [Q1.out]; refine (digit_any _ _ q3).mono ?_; rintro e w' ⟨rfl, rfl⟩)
        refine hK.out _ _ ?_ (fun hHeld => ?_)
        · exact hHeld
        clear hK K
        try simp only [Act.put, List.setIfInBounds_toArray, List.set_cons_zero, List.set_cons_succ]
        refine wpAnyH_ready (rs := [10]) (by kernel_rfl) (by simp) ?_
        refine AllReadyH.cons (o := { dst := Option.some 27, op := Op.call { callee := Callee.value (Operand.func 78), args := #[Operand.tmp 26], argTypes := #[5] }, type := 5, pos := "ref.go:354", after := #[{ on := 9, ground := Ground.data }, { on := 5, ground := Ground.chain }], guard := Option.none }) rfl (fun K hK => ?_) AllReadyH.nil
        go_simp
        (go_at_call 78; rw [Q2.out]; refine (digit_any _ _ q4).mono ?_; rintro e w' ⟨rfl, rfl⟩)
        refine hK.out _ _ ?_ (fun hHeld => ?_)
        · exact hHeld
        clear hK K
        try simp only [Act.put, List.setIfInBounds_toArray, List.set_cons_zero, List.set_cons_succ]
        refine wpAnyH_ready (rs := [11]) (by kernel_rfl) (by simp) ?_
        refine AllReadyH.cons (o := { dst := Option.some 28, op := Op.buildSlice 35 2 #[(0, Operand.tmp 22), (1, Operand.tmp 27)], type := 35, pos := "ref.go:354", after := #[{ on := 5, ground := Ground.data }, { on := 10, ground := Ground.data }], guard := Option.none }) rfl (fun K hK => ?_) AllReadyH.nil
        go_simp
        refine hK.out _ _ ?_ (fun hHeld => ?_)
        · exact cellA hHeld
        clear hK K
        try simp only [Act.put, List.setIfInBounds_toArray, List.set_cons_zero, List.set_cons_succ]
        have hbz : w.heap.size + 1 ≤ (wr.drew.alloc (.cells #[.int .u8 ((hexd (c.toNat / 16)).toNat : Int), .int .u8 ((hexd (c.toNat % 16)).toNat : Int)] 5)).heap.size := by simp only [World.size_alloc, World.size_drew]; omega
        refine wpAnyH_ready (rs := [12]) (by kernel_rfl) (by simp) ?_
        refine AllReadyH.cons (o := { dst := Option.some 29, op := Op.call { callee := Callee.builtin Builtin.append, args := #[Operand.tmp 17, Operand.tmp 28], argTypes := #[35, 35] }, type := 35, pos := "ref.go:354", after := #[{ on := 0, ground := Ground.data }, { on := 11, ground := Ground.data }, { on := 10, ground := Ground.chain }], guard := Option.none }) rfl (fun K hK => ?_) AllReadyH.nil
        (set_option maxRecDepth 100000 in refine step_of rfl (wp_appB _ [hexd (c.toNat / 16), hexd (c.toNat % 16)] _ _ rfl (w.heap.size + 1) u6 (hexL (l.take k)) rfl (OwnB.alloc (OwnB.drew HO.out) _) _ _ 2 rfl rfl (cells2 wr.drew 5 _ _) (by rw [Hlk.out]; simp only [List.length_cons, List.length_nil]; omega) hbz ?_); intro v2 w2 hv2 hb2)
        refine hK.out _ _ ?_ (fun hHeld => ?_)
        · exact cellB hb2 (by omega) hHeld
        clear hK K
        try simp only [Act.put, List.setIfInBounds_toArray, List.set_cons_zero, List.set_cons_succ]
        refine' wpAnyH_take (i := 13) (oi := { dst := Option.some 6, op := Op.assign (Operand.tmp 29), type := 35, pos := "ref.go:354", after := #[{ on := 12, ground := Ground.data }, { on := 12, ground := Ground.chain }, { on := 0, ground := Ground.phase }, { on := 1, ground := Ground.phase }, { on := 2, ground := Ground.phase }, { on := 3, ground := Ground.phase }, { on := 4, ground := Ground.phase }, { on := 5, ground := Ground.phase }, { on := 6, ground := Ground.phase }, { on := 7, ground := Ground.phase }, { on := 8, ground := Ground.phase }, { on := 9, ground := Ground.phase }, { on := 10, ground := Ground.phase }, { on := 11, ground := Ground.phase }, { on := 12, ground := Ground.phase }], guard := Option.none }) rfl (by kernel_rfl) (by kernel_rfl) (by kernel_rfl) (fun _ _ _ h => h) (Or.inl ⟨by rfl, _⟩) (by assumption) _
        rotate_left
        · (intro wS hSw; (try dsimp only at hSw); go_simp; try with_reducible rfl)
        try simp only [Act.put, List.setIfInBounds_toArray, List.set_cons_zero, List.set_cons_succ]
        refine wpAnyH_done (by kernel_rfl) ?_ _
        go_wp2_with fail
        refine ⟨⟨k + 1, by omega, ?_, (DB.alloc (w := wr.drew) HD.out _).below hb2 (by omega), ((HB.out.drew).alloc (by simp only [World.size_drew]; omega) _).trans (hb2.mono (by omega)), by go_num⟩, by simp [intOf]; omega⟩
        show OwnB _ _ _ _
        rw [Hs.out]
        exact hv2
      · obtain rfl : k = m := by omega
        have hcv := conv_own HO.out
        go_wp2_with fail
        exact bodyPost_ret (v := .tuple #[.string ⟨(hexL (l.take k)).toArray⟩, .int .i64 0]) (by simp [results, Try.results62, go_sem]) rfl ⟨rfl, HB.out⟩

def hexits : ByteArray := ⟨#[48, 49, 50, 51, 52, 53, 54, 55, 56, 57, 97, 98, 99, 100, 101, 102]⟩
theorem hexits_fin : ∀ i : Fin 16, hexits[i.val]'i.isLt = hexd i.val := by decide
theorem hexits_get (i : Nat) (h : i < 16) : hexits[i]'h = hexd i := hexits_fin ⟨i, h⟩

theorem and_15 : ∀ c : Fin 256, bits .and .u8 (c.val : Int) 15 = ((c.val % 16 : Nat) : Int) := by decide +kernel
theorem slice_D (b m : Nat) (hm : m ≤ 32) (w : World) : (Instr.sliceAt 39 (.pointer (some ⟨b, 0, none⟩)) none (some (.int .i64 (m : Int))) none).run Try.prog w = .ok (.slice (some ⟨b, 0, none⟩) m 32) w := by
  have hm0 : (0 : Int) ≤ m := by omega
  have hm1 : (m : Int) ≤ 32 := by omega
  go_simp

set_option maxHeartbeats 4000000 in
theorem Show_any (n : Int) (l : List UInt8) (w : World) (hl : l.length = 32) :
    Calls Try.prog 61 #[.int .i64 n, dv l] w fun e w' => e = .returned (.tuple #[.string (showB n l), .int .i64 (showE n l)]) ∧ Below w.heap.size w w' := by
  have hl2 := hl
  cases hf : fitB n l
  · have e1 : showB n l = ⟨#[]⟩ := by unfold showB; rw [hf]; rfl
    have e2 : showE n l = 2 := by unfold showE; rw [hf]; rfl
    rw [e1, e2]
    have HF := Lib.hid hf
    clear hf e1 e2
    go_enter Try.func61, Try.ntmps61
    go_upto_region 1 with (refine wpList_boxD rfl _ rfl l rfl w.heap.size rfl ?_; intro w1 hd1 hb1 hz1)
    (try simp only [Act.put, List.setIfInBounds_toArray, List.set_cons_zero, List.set_cons_succ])
    have HD1 := Lib.hid hd1
    have HB1 := Lib.hid hb1
    clear hd1 hb1
    go_wp2_with (first
      | (refine wpList_loadD rfl _ rfl w.heap.size rfl l hl HD1.out ?_; (try simp only [Act.put, List.setIfInBounds_toArray, List.set_cons_zero, List.set_cons_succ]))
      | (go_at_call 45; refine (Fits_any n l _ hl).mono ?_; rintro e w2 ⟨rfl, hb2⟩; rw [HF.out]))
    exact bodyPost_ret (v := .tuple #[.string ⟨#[]⟩, .int .i64 2]) (by simp [results, Try.results61, go_sem]) rfl ⟨rfl, HB1.out.trans (hb2.mono (by omega))⟩
  · have hw := fit_wide hf
    have e1 : showB n l = ⟨(hexL (l.take n.toNat)).toArray⟩ := by unfold showB; rw [hf]; rfl
    have e2 : showE n l = 0 := by unfold showE; rw [hf]; rfl
    rw [e1, e2]
    obtain ⟨m, rfl⟩ : ∃ m : Nat, n = m := ⟨n.toNat, by omega⟩
    rw [Int.toNat_natCast]
    have hm : m ≤ 32 := by omega
    have HF := Lib.hid hf
    clear hf e1 e2 hw
    go_enter Try.func61, Try.ntmps61
    go_upto_region 1 with (refine wpList_boxD rfl _ rfl l rfl w.heap.size rfl ?_; intro w1 hd1 hb1 hz1)
    (try simp only [Act.put, List.setIfInBounds_toArray, List.set_cons_zero, List.set_cons_succ])
    have HD1 := Lib.hid hd1
    have HB1 := Lib.hid hb1
    clear hd1 hb1
    go_upto_region 3 with (first
      | (refine wpList_loadD rfl _ rfl w.heap.size rfl l hl HD1.out ?_; (try simp only [Act.put, List.setIfInBounds_toArray, List.set_cons_zero, List.set_cons_succ]))
      | (go_at_call 45; refine (Fits_any (m : Int) l _ hl).mono ?_; rintro e w2 ⟨rfl, hb2⟩; rw [HF.out]))
    have HD2 := Lib.hid (HD1.out.below hb2 (by omega))
    have HB2 := Lib.hid (HB1.out.trans (hb2.mono (by omega)))
    clear hb2 HD1 HB1
    go_upto_region 4 with fail
    have hsl := slice_D w.heap.size m hm
    go_wp2_with fail
    go_loopw [6, 8, 16] (fun v cc i wr => ∃ (k : Nat), k ≤ m ∧ Hid (OwnB wr (w.heap.size + 1) v (hexL (l.take k))) ∧ Hid (DB wr w.heap.size l) ∧ Hid (Below w.heap.size w wr) ∧ i = .int .i64 (k : Int)) (fun _ _ i _ => m - (intOf i).toNat)
    case atStart => exact ⟨0, by omega, OwnB.nil _ _, HD2, HB2, rfl⟩
    case round =>
      clear HD2 HB2
      obtain ⟨k, hk, HO, HD, HB, rfl⟩ := hrel
      by_cases hlt : k < m
      · have hkl : k < l.length := by omega
        have c1 := HD.out.cell k hkl
        have hsucc := hexL_succ l k hkl
        obtain ⟨c, hc⟩ : ∃ c, l[k] = c := ⟨_, rfl⟩
        rw [hc] at c1 hsucc
        have hcb := c.toNat_lt
        have Hs := Lib.hid hsucc
        have hlk : (hexL (l.take k)).length = 2 * k := by rw [hexL_length, List.length_take]; omega
        have hz : w.heap.size + 1 ≤ wr.heap.size := heap_lt HD.out
        have hk32 : (k : Int) < 32 := by omega
        have Hlk := Lib.hid hlk
        clear hc hsucc hlk
        obtain ⟨p, hp⟩ : ∃ p, c.toNat / 16 = p := ⟨_, rfl⟩
        obtain ⟨q, hq⟩ : ∃ q, c.toNat % 16 = q := ⟨_, rfl⟩
        have q1 : (c.toNat : Int) / 16 = (p : Int) := by omega
        have q2 : bits .and .u8 (c.toNat : Int) 15 = (q : Int) := by rw [← hq]; exact and_15 ⟨c.toNat, hcb⟩
        have q3 : p < 16 := by omega
        have q4 : q < 16 := by omega
        have z1 : (p : Int) < 16 := by omega
        have z2 : (q : Int) < 16 := by omega
        have x1 : (⟨#[48, 49, 50, 51, 52, 53, 54, 55, 56, 57, 97, 98, 99, 100, 101, 102]⟩ : ByteArray)[p]'q3 = hexd p := hexits_get p q3
        have y1 : (⟨#[48, 49, 50, 51, 52, 53, 54, 55, 56, 57, 97, 98, 99, 100, 101, 102]⟩ : ByteArray)[q]'q4 = hexd q := hexits_get q q4
        obtain ⟨x, hx⟩ : ∃ x, hexd p = x := ⟨_, rfl⟩
        obtain ⟨y, hy⟩ : ∃ y, hexd q = y := ⟨_, rfl⟩
        rw [hx] at x1
        rw [hy] at y1
        have Hs2 : Hid (hexL (l.take (k + 1)) = hexL (l.take k) ++ [x, y]) := by show _ = _; rw [Hs.out, hex2, hp, hq, hx, hy]
        clear hp hq hx hy Hs
        go_upto_region 7 with fail
        refine wp_region_held_drew (S := fun _ => True) (by kernel_rfl) trivial (fun hHeld => ?_)
        refine' wpAnyH_take (i := 0) (oi := { dst := Option.some 20, op := Op.move (Operand.tmp 6), type := 35, pos := "text.go:92", after := #[], guard := Option.none }) rfl (by kernel_rfl) (by kernel_rfl) (by kernel_rfl) (fun _ _ _ h => h) (Or.inl ⟨by rfl, _⟩) (by assumption) _
        rotate_left
        · (intro wS hSw; (try dsimp only at hSw); go_simp; try with_reducible rfl)
        try simp only [Act.put, List.setIfInBounds_toArray, List.set_cons_zero, List.set_cons_succ]
        refine' wpAnyH_take (i := 1) (oi := { dst := Option.some 21, op := Op.move (Operand.tmp 8), type := 5, pos := "text.go:92", after := #[], guard := Option.none }) rfl (by kernel_rfl) (by kernel_rfl) (by kernel_rfl) (fun _ _ _ h => h) (Or.inl ⟨by rfl, _⟩) (by assumption) _
        rotate_left
        · (intro wS hSw; (try dsimp only at hSw); go_simp; try with_reducible rfl)
        try simp only [Act.put, List.setIfInBounds_toArray, List.set_cons_zero, List.set_cons_succ]
        refine' wpAnyH_take (i := 2) (oi := { dst := Option.some 22, op := Op.binOp BinOp.shr 5 (Operand.tmp 21) (Operand.const (Value.int IntKind.u64 4)) 36, type := 5, pos := "text.go:92", after := #[{ on := 1, ground := Ground.data }], guard := Option.none }) rfl (by kernel_rfl) (by kernel_rfl) (by kernel_rfl) (fun _ _ _ h => h) (Or.inl ⟨by rfl, _⟩) (by assumption) _
        rotate_left
        · (intro wS hSw; (try dsimp only at hSw); go_simp; try with_reducible rfl)
        try simp only [Act.put, List.setIfInBounds_toArray, List.set_cons_zero, List.set_cons_succ]
        refine' wpAnyH_take (i := 4) (oi := { dst := Option.some 24, op := Op.move (Operand.tmp 8), type := 5, pos := "text.go:92", after := #[], guard := Option.none }) rfl (by kernel_rfl) (by kernel_rfl) (by kernel_rfl) (fun _ _ _ h => h) (Or.inl ⟨by rfl, _⟩) (by assumption) _
        rotate_left
        · (intro wS hSw; (try dsimp only at hSw); go_simp; try with_reducible rfl)
        try simp only [Act.put, List.setIfInBounds_toArray, List.set_cons_zero, List.set_cons_succ]
        refine' wpAnyH_take (i := 5) (oi := { dst := Option.some 25, op := Op.binOp BinOp.and 5 (Operand.tmp 24) (Operand.const (Value.int IntKind.u8 15)) 5, type := 5, pos := "text.go:92", after := #[{ on := 4, ground := Ground.data }], guard := Option.none }) rfl (by kernel_rfl) (by kernel_rfl) (by kernel_rfl) (fun _ _ _ h => h) (Or.inl ⟨by rfl, _⟩) (by assumption) _
        rotate_left
        · (intro wS hSw; (try dsimp only at hSw); go_simp; try with_reducible rfl)
        try simp only [Act.put, List.setIfInBounds_toArray, List.set_cons_zero, List.set_cons_succ]
        refine' wpAnyH_take (i := 3) (oi := { dst := Option.some 23, op := Op.index 9 (Operand.const (Value.string { data := #[48, 49, 50, 51, 52, 53, 54, 55, 56, 57, 97, 98, 99, 100, 101, 102] })) (Operand.tmp 22), type := 5, pos := "text.go:92", after := #[{ on := 2, ground := Ground.data }], guard := Option.none }) rfl (by kernel_rfl) (by kernel_rfl) (by kernel_rfl) (fun _ _ _ h => h) (Or.inl ⟨by rfl, _⟩) (by assumption) _
        rotate_left
        · (intro wS hSw; (try dsimp only at hSw); go_simp; try with_reducible rfl)
        try simp only [Act.put, List.setIfInBounds_toArray, List.set_cons_zero, List.set_cons_succ]
        refine' wpAnyH_take (i := 6) (oi := { dst := Option.some 26, op := Op.index 9 (Operand.const (Value.string { data := #[48, 49, 50, 51, 52, 53, 54, 55, 56, 57, 97, 98, 99, 100, 101, 102] })) (Operand.tmp 25), type := 5, pos := "text.go:92", after := #[{ on := 5, ground := Ground.data }], guard := Option.none }) rfl (by kernel_rfl) (by kernel_rfl) (by kernel_rfl) (fun _ _ _ h => h) (Or.inl ⟨by rfl, _⟩) (by assumption) _
        rotate_left
        · (intro wS hSw; (try dsimp only at hSw); go_simp; try with_reducible rfl)
        try simp only [Act.put, List.setIfInBounds_toArray, List.set_cons_zero, List.set_cons_succ]
        refine wpAnyH_ready (rs := [7]) (by kernel_rfl) (by simp) ?_
        refine AllReadyH.cons (o := { dst := Option.some 27, op := Op.buildSlice 35 2 #[(0, Operand.tmp 23), (1, Operand.tmp 26)], type := 35, pos := "text.go:92", after := #[{ on := 3, ground := Ground.data }, { on := 6, ground := Ground.data }], guard := Option.none }) rfl (fun K hK => ?_) AllReadyH.nil
        go_simp
        refine hK.out _ _ ?_ (fun hHeld => ?_)
        · trivial
        clear hK K
        try simp only [Act.put, List.setIfInBounds_toArray, List.set_cons_zero, List.set_cons_succ]
        have hbz : w.heap.size + 1 ≤ (wr.drew.alloc (.cells #[.int .u8 (x.toNat : Int), .int .u8 (y.toNat : Int)] 5)).heap.size := by simp only [World.size_alloc, World.size_drew]; omega
        refine wpAnyH_ready (rs := [8]) (by kernel_rfl) (by simp) ?_
        refine AllReadyH.cons (o := { dst := Option.some 28, op := Op.call { callee := Callee.builtin Builtin.append, args := #[Operand.tmp 20, Operand.tmp 27], argTypes := #[35, 35] }, type := 35, pos := "text.go:92", after := #[{ on := 0, ground := Ground.data }, { on := 7, ground := Ground.data }], guard := Option.none }) rfl (fun K hK => ?_) AllReadyH.nil
        (set_option maxRecDepth 100000 in refine step_of rfl (wp_appB _ [x, y] _ _ rfl (w.heap.size + 1) u6 (hexL (l.take k)) rfl (OwnB.alloc (OwnB.drew HO.out) _) _ _ 2 rfl rfl (cells2 wr.drew 5 _ _) (by rw [Hlk.out]; simp only [List.length_cons, List.length_nil]; omega) hbz ?_); intro v2 w2 hv2 hb2)
        refine hK.out _ _ ?_ (fun hHeld => ?_)
        · trivial
        clear hK K
        try simp only [Act.put, List.setIfInBounds_toArray, List.set_cons_zero, List.set_cons_succ]
        refine' wpAnyH_take (i := 9) (oi := { dst := Option.some 6, op := Op.assign (Operand.tmp 28), type := 35, pos := "text.go:92", after := #[{ on := 8, ground := Ground.data }, { on := 8, ground := Ground.chain }, { on := 0, ground := Ground.phase }, { on := 1, ground := Ground.phase }, { on := 2, ground := Ground.phase }, { on := 3, ground := Ground.phase }, { on := 4, ground := Ground.phase }, { on := 5, ground := Ground.phase }, { on := 6, ground := Ground.phase }, { on := 7, ground := Ground.phase }, { on := 8, ground := Ground.phase }], guard := Option.none }) rfl (by kernel_rfl) (by kernel_rfl) (by kernel_rfl) (fun _ _ _ h => h) (Or.inl ⟨by rfl, _⟩) (by assumption) _
        rotate_left
        · (intro wS hSw; (try dsimp only at hSw); go_simp; try with_reducible rfl)
        try simp only [Act.put, List.setIfInBounds_toArray, List.set_cons_zero, List.set_cons_succ]
        refine wpAnyH_done (by kernel_rfl) ?_ _
        go_wp2_with fail
        refine ⟨⟨k + 1, by omega, ?_, (DB.alloc (w := wr.drew) HD.out _).below hb2 (by omega), ((HB.out.drew).alloc (by simp only [World.size_drew]; omega) _).trans (hb2.mono (by omega)), by go_num⟩, by simp [intOf]; omega⟩
        show OwnB _ _ _ _
        rw [Hs2.out]
        exact hv2
      · obtain rfl : k = m := by omega
        have hcv := conv_own HO.out
        go_wp2_with fail
        exact bodyPost_ret (v := .tuple #[.string ⟨(hexL (l.take k)).toArray⟩, .int .i64 0]) (by simp [results, Try.results61, go_sem]) rfl ⟨rfl, HB.out⟩
end Go.Proofs.Ytmjikebbknjahaa
