/-
  The walk of the law's digest, and of the law SumsCut.
-/
import Derived.Test.YtmjikebbknjahaaClashW
import Derived.Test.YtmjikebbknjahaaFrameC
namespace Go.Proofs.Ytmjikebbknjahaa
open Go.RowKit Go.Lib Hw
set_option linter.unusedVariables false

/-- the first k bytes of a list, noughts behind them -/
def dgK (l : List UInt8) (k : Nat) : List UInt8 := l.take k ++ List.replicate (32 - k) 0
/-- what digest makes -/
def dgL (l : List UInt8) : List UInt8 := dgK l (min 32 l.length)
theorem dgK_length (l : List UInt8) (k : Nat) (h : k ≤ 32) (hl : k ≤ l.length) : (dgK l k).length = 32 := by
  unfold dgK
  rw [List.length_append, List.length_take, List.length_replicate]
  omega
theorem dgL_length (l : List UInt8) : (dgL l).length = 32 := dgK_length l _ (by omega) (by omega)
theorem dgK_set (l : List UInt8) (k : Nat) (h : k < 32) (hl : k < l.length) : (dgK l k).set k l[k] = dgK l (k + 1) := by
  unfold dgK
  have e1 : (l.take k).length = k := by rw [List.length_take]; omega
  obtain ⟨m, hm⟩ : ∃ m, 32 - k = m + 1 := ⟨31 - k, by omega⟩
  have e2 : 32 - (k + 1) = m := by omega
  rw [List.set_append_right _ _ (by omega), e1, Nat.sub_self, hm, e2, List.replicate_succ, List.set_cons_zero, List.take_add_one, List.getElem?_eq_getElem hl, List.append_assoc]
  rfl

set_option maxHeartbeats 4000000 in
theorem digest_any (v : Value) (l : List UInt8) (w : World) (hv : ByteRow w v l) (hl : l.length ≤ 9223372036854775807) :
    Calls Try.prog 42 #[v] w fun e w' => e = .returned (dv (dgL l)) ∧ Below w.heap.size w w' := by
  obtain ⟨ad, c, rfl, hcell⟩ := hv
  have Hc := Lib.hid hcell
  clear hcell
  go_enter Try.func42, Try.ntmps42
  go_upto_region 2 with (first
    | (refine wpList_allocD rfl rfl w.heap.size rfl ?_; intro w1 hd1 hb1 hz1)
    | (refine wpList_allocD rfl rfl (w.heap.size + 1) hz1 ?_; intro w2 hd2 hb2 hz2))
  have HD1 := Lib.hid (hd1.below hb2 (by omega))
  have HD2 := Lib.hid hd2
  have HB := Lib.hid (hb1.trans (hb2.mono (by omega)))
  have hz : w2.heap.size = w.heap.size + 1 + 1 := by omega
  clear hd1 hb1 hz1 hd2 hb2 hz2
  go_wp2_with fail
  go_loopw [4] (fun i wr => ∃ (k : Nat), k ≤ 32 ∧ k ≤ l.length ∧ Hid (DB wr w.heap.size zeros32) ∧ Hid (DB wr (w.heap.size + 1) (dgK l k)) ∧ Hid (Below w.heap.size w wr) ∧ i = .int .i64 (k : Int)) (fun i _ => 32 - (intOf i).toNat)
  case atStart => exact ⟨0, by omega, by omega, HD1, HD2, HB, rfl⟩
  case round =>
    clear HD1 HD2 HB
    obtain ⟨k, hk1, hk2, HD1, HD2, HB, rfl⟩ := hrel
    by_cases hlt : k < 32
    · have d1 : decide ((k : Int) < 32) = true := by simp; omega
      by_cases hll : k < l.length
      · have d2 : decide ((k : Int) < (l.length : Int)) = true := by simp; omega
        obtain ⟨b, o, rfl, hcl⟩ := Hc.out (by omega)
        have c0 := cellB HB.out (World.block_lt_of_cell? _ _ (hcl k hll)) (hcl k hll)
        have hset := dgK_set l k hlt hll
        obtain ⟨x, hx⟩ : ∃ x, l[k] = x := ⟨_, rfl⟩
        rw [hx] at c0 hset
        obtain ⟨old, c1⟩ : ∃ old : Value, wr.cell? ⟨w.heap.size + 1, k, none⟩ = some old := ⟨_, HD2.out.cell k (by rw [dgK_length l k hk1 hk2]; exact hlt)⟩
        have f1 := HD2.out.free k
        have Hset := Lib.hid hset
        clear hx hcl hset
        go_wp2_with fail
        refine ⟨⟨k + 1, by omega, by omega, heap_setOther HD1.out (by show w.heap.size ≠ w.heap.size + 1; omega) _, ?_, HB.out.setCell (by show w.heap.size ≤ w.heap.size + 1; omega) _, by go_num⟩, by simp [intOf]; omega⟩
        have h1 := HD2.out.set k x
        rw [Hset.out] at h1
        exact h1
      · obtain rfl : k = l.length := by omega
        have d2 : decide ((l.length : Int) < (l.length : Int)) = false := by simp
        have he : dgK l l.length = dgL l := by unfold dgL; rw [Nat.min_eq_right (by omega)]
        rw [he] at HD2
        have Hl := Lib.hid (dgL_length l)
        clear he
        go_wp2_with (first
          | (refine wpList_loadD rfl _ rfl (w.heap.size + 1) rfl (dgL l) Hl.out HD2.out ?_)
          | (refine wpList_storeD rfl _ _ rfl w.heap.size rfl zeros32 (dgL l) rfl Hl.out rfl HD1.out ?_; intro w6 hd6 hb6 hk6 hz6))
        refine bodyPost_ret (v := dv (dgL l)) ?_ rfl ⟨rfl, HB.out.trans hb6⟩
        exact results_cell1 Try.results42 rfl (DB.load hd6 Hl.out)
    · obtain rfl : k = 32 := by omega
      have d1 : decide (((32 : Nat) : Int) < 32) = false := by simp
      have he : dgK l 32 = dgL l := by unfold dgL; rw [Nat.min_eq_left (by omega)]
      rw [he] at HD2
      have Hl := Lib.hid (dgL_length l)
      clear he
      go_wp2_with (first
        | (refine wpList_loadD rfl _ rfl (w.heap.size + 1) rfl (dgL l) Hl.out HD2.out ?_)
        | (refine wpList_storeD rfl _ _ rfl w.heap.size rfl zeros32 (dgL l) rfl Hl.out rfl HD1.out ?_; intro w6 hd6 hb6 hk6 hz6))
      refine bodyPost_ret (v := dv (dgL l)) ?_ rfl ⟨rfl, HB.out.trans hb6⟩
      exact results_cell1 Try.results42 rfl (DB.load hd6 Hl.out)

section
variable {P : Program} {ops : Array Oper} {S : World → Prop} {op : Oper} {a : Act}
/-- a load of a digest in a region that draws: under an S that gives the digest it may be taken first -/
theorem yieldsIf_loadD (hw : Region.wanted op (yielded ops a.tmps) = true) (x : Operand) (ho : op.op = .load 39 x) (b : Nat) (hx : a.eval x = .pointer (some ⟨b, 0, none⟩)) (l : List UInt8) (hl : l.length = 32) (hd : ∀ W, S W → DB W b l) :
    YieldsIf Try.prog ops S op (dv l) a :=
  yieldsIf_load_mid hw 39 x ho b 0 hx (l.map bv) _ (fun W h => range_all (cs := l.map bv) (hd W h)) Try.underlying39 rfl (info_D.trans (congrArg some ((List.length_map _).trans hl).symm))
end
/-- three digests that stay, in a world above another -/
def C3 (w : World) (b5 b6 b8 : Nat) (d c c' : List UInt8) (W : World) : Prop := DB W b5 d ∧ DB W b6 c ∧ DB W b8 c' ∧ Below w.heap.size w W
theorem C3.below {w W W' : World} {b5 b6 b8 : Nat} {d c c' : List UInt8} (h : C3 w b5 b6 b8 d c c' W) (hb : Below W.heap.size W W') : C3 w b5 b6 b8 d c c' W' :=
  ⟨h.1.below hb (heap_lt h.1), h.2.1.below hb (heap_lt h.2.1), h.2.2.1.below hb (heap_lt h.2.2.1), h.2.2.2.trans (hb.mono h.2.2.2.size)⟩
theorem C3.drew {w W : World} {b5 b6 b8 : Nat} {d c c' : List UInt8} (h : C3 w b5 b6 b8 d c c' W) : C3 w b5 b6 b8 d c c' W.drew := ⟨h.1, h.2.1, h.2.2.1, h.2.2.2.drew⟩

set_option maxHeartbeats 4000000 in
theorem SumsCut_walk (v0 v1 : Value) (w : World) (h0 : IsI64 v0) (h1 : IsBytes w v1) :
    Calls Try.prog 13 #[v0, v1] w fun e w' => e = .returned (.bool true) ∧ Below w.heap.size w w' := by
  obtain ⟨n, rfl, hn⟩ := h0
  obtain ⟨l, hv, hl⟩ := h1
  obtain ⟨d, hd⟩ : ∃ d, dgL l = d := ⟨_, rfl⟩
  have hdl : d.length = 32 := by rw [← hd]; exact dgL_length l
  obtain ⟨c, hc⟩ : ∃ c, cutL n d = c := ⟨_, rfl⟩
  have hcl : c.length = 32 := by rw [← hc]; exact cutL_length n d hdl
  have Hd := Lib.hid hd
  have Hdl := Lib.hid hdl
  have Hc := Lib.hid hc
  have Hcl := Lib.hid hcl
  have HV := Lib.hid hv
  have heg := eqGuardD c c
  have heq := eqD_same c hcl
  obtain ⟨F1, hF1⟩ : ∃ F, fitB n d = F := ⟨_, rfl⟩
  obtain ⟨F2, hF2⟩ : ∃ F, fitB n c = F := ⟨_, rfl⟩
  have HF1 := Lib.hid hF1
  have HF2 := Lib.hid hF2
  clear hd hdl hc hcl hv hF1 hF2
  go_enter Try.func13, Try.ntmps13
  go_upto_region 2 with (first
    | (go_at_call 42; refine (digest_any _ l _ HV.out hl).mono ?_; rintro e w1 ⟨rfl, hb1⟩; rw [Hd.out])
    | (refine wpList_allocD rfl rfl w1.heap.size rfl ?_; intro w2 hd2 hb2 hz2)
    | (refine wpList_storeD rfl _ _ rfl w1.heap.size rfl zeros32 d rfl Hdl.out rfl hd2 ?_; intro w3 hd3 hb3 hk3 hz3))
  have HD3 := Lib.hid hd3
  have HB3 := Lib.hid ((hb1.trans (hb2.mono hb1.size)).trans (hb3.mono hb1.size))
  have z3 : w1.heap.size < w3.heap.size := by omega
  clear hb1 hd2 hb2 hd3 hb3 hk3
  go_upto_region 3 with (first
    | (refine wpList_loadD rfl _ rfl w1.heap.size rfl d Hdl.out HD3.out ?_; (try simp only [Act.put, List.setIfInBounds_toArray, List.set_cons_zero, List.set_cons_succ]))
    | (go_at_call 43; refine (Cut_any n d _ Hdl.out).mono ?_; rintro e w4 ⟨rfl, hb4⟩; rw [Hc.out])
    | (refine wpList_allocD rfl rfl w4.heap.size rfl ?_; intro w5 hd5 hb5 hz5)
    | (refine wpList_storeD rfl _ _ rfl w4.heap.size rfl zeros32 c rfl Hcl.out rfl hd5 ?_; intro w6 hd6 hb6 hk6 hz6))
  have HD6 := Lib.hid hd6
  have z4 := hb4.size
  have hb36 : Below w3.heap.size w3 w6 := (hb4.trans (hb5.mono z4)).trans (hb6.mono z4)
  have HB6 := Lib.hid (HB3.out.trans (hb36.mono HB3.out.size))
  have HE6 := Lib.hid (HD3.out.below hb36 z3)
  have z6 : w4.heap.size < w6.heap.size := by omega
  clear hb4 hd5 hb5 hd6 hb6 hk6 HB3 HD3 hb36
  go_upto_region 4 with (first
    | (refine wpList_loadD rfl _ rfl w1.heap.size rfl d Hdl.out HE6.out ?_; (try simp only [Act.put, List.setIfInBounds_toArray, List.set_cons_zero, List.set_cons_succ]))
    | (go_at_call 44; refine (refCut_any n d _ Hdl.out).mono ?_; rintro e w7 ⟨rfl, hb7⟩; rw [Hc.out])
    | (refine wpList_allocD rfl rfl w7.heap.size rfl ?_; intro w8 hd8 hb8 hz8)
    | (refine wpList_storeD rfl _ _ rfl w7.heap.size rfl zeros32 c rfl Hcl.out rfl hd8 ?_; intro w9 hd9 hb9 hk9 hz9))
  have z7 := hb7.size
  have hb69 : Below w6.heap.size w6 w9 := (hb7.trans (hb8.mono z7)).trans (hb9.mono z7)
  have HC9 : Hid (C3 w w1.heap.size w4.heap.size w7.heap.size d c c w9) := ⟨HE6.out.below hb69 (by omega), HD6.out.below hb69 z6, hd9, HB6.out.trans (hb69.mono HB6.out.size)⟩
  clear hb7 hd8 hb8 hd9 hb9 hk9 HB6 HE6 HD6 hb69
  refine wp_region_held_drew (S := C3 w w1.heap.size w4.heap.size w7.heap.size d c c) (by kernel_rfl) (C3.drew HC9.out) (fun hHeld => ?_)
  refine' wpAnyH_take (i := 0) (oi := { dst := Option.some 24, op := Op.load 39 (Operand.tmp 6), type := 39, pos := "text.go:93", after := #[], guard := Option.none }) rfl (by kernel_rfl) (by kernel_rfl) (by kernel_rfl) (fun _ _ _ h => h) (yieldsIf_loadD (by rfl) _ rfl (w4.heap.size) rfl (c) (Hcl.out) (fun W hW => hW.2.1)) (by assumption) _
  try simp only [Act.put, List.setIfInBounds_toArray, List.set_cons_zero, List.set_cons_succ]
  refine' wpAnyH_take (i := 1) (oi := { dst := Option.some 25, op := Op.load 39 (Operand.tmp 8), type := 39, pos := "text.go:93", after := #[], guard := Option.none }) rfl (by kernel_rfl) (by kernel_rfl) (by kernel_rfl) (fun _ _ _ h => h) (yieldsIf_loadD (by rfl) _ rfl (w7.heap.size) rfl (c) (Hcl.out) (fun W hW => hW.2.2.1)) (by assumption) _
  try simp only [Act.put, List.setIfInBounds_toArray, List.set_cons_zero, List.set_cons_succ]
  refine' wpAnyH_take (i := 2) (oi := { dst := Option.some 26, op := Op.binOp BinOp.eql 39 (Operand.tmp 24) (Operand.tmp 25) 39, type := 4, pos := "text.go:93", after := #[{ on := 0, ground := Ground.data }, { on := 1, ground := Ground.data }], guard := Option.none }) rfl (by kernel_rfl) (by kernel_rfl) (by kernel_rfl) (fun _ _ _ h => h) (Or.inl ⟨by rfl, _⟩) (by assumption) _
  rotate_left
  · (intro wS hSw; (try dsimp only at hSw); go_simp; try with_reducible rfl)
  try simp only [Act.put, List.setIfInBounds_toArray, List.set_cons_zero, List.set_cons_succ]
  refine' wpAnyH_take (i := 3) (oi := { dst := Option.some 27, op := Op.move (Operand.tmp 26), type := 4, pos := "text.go:93", after := #[{ on := 2, ground := Ground.data }], guard := Option.none }) rfl (by kernel_rfl) (by kernel_rfl) (by kernel_rfl) (fun _ _ _ h => h) (Or.inl ⟨by rfl, _⟩) (by assumption) _
  rotate_left
  · (intro wS hSw; (try dsimp only at hSw); go_simp; try with_reducible rfl)
  try simp only [Act.put, List.setIfInBounds_toArray, List.set_cons_zero, List.set_cons_succ]
  refine' wpAnyH_take (i := 4) (oi := { dst := Option.some 28, op := Op.move (Operand.tmp 7), type := 31, pos := "text.go:93", after := #[{ on := 3, ground := Ground.guard }], guard := Option.some (3, Bool.true) }) rfl (by kernel_rfl) (by kernel_rfl) (by kernel_rfl) (fun _ _ _ h => h) (Or.inl ⟨by rfl, _⟩) (by assumption) _
  rotate_left
  · (intro wS hSw; (try dsimp only at hSw); go_simp; try with_reducible rfl)
  try simp only [Act.put, List.setIfInBounds_toArray, List.set_cons_zero, List.set_cons_succ]
  refine' wpAnyH_take (i := 5) (oi := { dst := Option.some 29, op := Op.move (Operand.tmp 9), type := 31, pos := "text.go:93", after := #[{ on := 3, ground := Ground.guard }], guard := Option.some (3, Bool.true) }) rfl (by kernel_rfl) (by kernel_rfl) (by kernel_rfl) (fun _ _ _ h => h) (Or.inl ⟨by rfl, _⟩) (by assumption) _
  rotate_left
  · (intro wS hSw; (try dsimp only at hSw); go_simp; try with_reducible rfl)
  try simp only [Act.put, List.setIfInBounds_toArray, List.set_cons_zero, List.set_cons_succ]
  refine' wpAnyH_take (i := 6) (oi := { dst := Option.some 30, op := Op.binOp BinOp.eql 31 (Operand.tmp 28) (Operand.tmp 29) 31, type := 4, pos := "text.go:93", after := #[{ on := 4, ground := Ground.data }, { on := 5, ground := Ground.data }, { on := 3, ground := Ground.guard }], guard := Option.some (3, Bool.true) }) rfl (by kernel_rfl) (by kernel_rfl) (by kernel_rfl) (fun _ _ _ h => h) (Or.inl ⟨by rfl, _⟩) (by assumption) _
  rotate_left
  · (intro wS hSw; (try dsimp only at hSw); go_simp; try with_reducible rfl)
  try simp only [Act.put, List.setIfInBounds_toArray, List.set_cons_zero, List.set_cons_succ]
  refine' wpAnyH_take (i := 7) (oi := { dst := Option.some 31, op := Op.pick (Operand.tmp 27) (Operand.tmp 30) (Operand.const (Value.bool Bool.false)), type := 4, pos := "text.go:93", after := #[{ on := 3, ground := Ground.data }, { on := 6, ground := Ground.data }], guard := Option.none }) rfl (by kernel_rfl) (by kernel_rfl) (by kernel_rfl) (fun _ _ _ h => h) (Or.inl ⟨by rfl, _⟩) (by assumption) _
  rotate_left
  · (intro wS hSw; (try dsimp only at hSw); go_simp; try with_reducible rfl)
  try simp only [Act.put, List.setIfInBounds_toArray, List.set_cons_zero, List.set_cons_succ]
  refine' wpAnyH_take (i := 8) (oi := { dst := Option.some 32, op := Op.move (Operand.tmp 31), type := 4, pos := "text.go:93", after := #[{ on := 7, ground := Ground.data }, { on := 3, ground := Ground.chain }], guard := Option.none }) rfl (by kernel_rfl) (by kernel_rfl) (by kernel_rfl) (fun _ _ _ h => h) (Or.inl ⟨by rfl, _⟩) (by assumption) _
  rotate_left
  · (intro wS hSw; (try dsimp only at hSw); go_simp; try with_reducible rfl)
  try simp only [Act.put, List.setIfInBounds_toArray, List.set_cons_zero, List.set_cons_succ]
  refine' wpAnyH_take (i := 9) (oi := { dst := Option.some 33, op := Op.move (Operand.tmp 0), type := 3, pos := "text.go:93", after := #[{ on := 8, ground := Ground.guard }], guard := Option.some (8, Bool.true) }) rfl (by kernel_rfl) (by kernel_rfl) (by kernel_rfl) (fun _ _ _ h => h) (Or.inl ⟨by rfl, _⟩) (by assumption) _
  rotate_left
  · (intro wS hSw; (try dsimp only at hSw); go_simp; try with_reducible rfl)
  try simp only [Act.put, List.setIfInBounds_toArray, List.set_cons_zero, List.set_cons_succ]
  refine' wpAnyH_take (i := 12) (oi := { dst := Option.some 36, op := Op.move (Operand.tmp 0), type := 3, pos := "text.go:93", after := #[{ on := 8, ground := Ground.guard }], guard := Option.some (8, Bool.true) }) rfl (by kernel_rfl) (by kernel_rfl) (by kernel_rfl) (fun _ _ _ h => h) (Or.inl ⟨by rfl, _⟩) (by assumption) _
  rotate_left
  · (intro wS hSw; (try dsimp only at hSw); go_simp; try with_reducible rfl)
  try simp only [Act.put, List.setIfInBounds_toArray, List.set_cons_zero, List.set_cons_succ]
  refine' wpAnyH_take (i := 10) (oi := { dst := Option.some 34, op := Op.load 39 (Operand.tmp 5), type := 39, pos := "text.go:93", after := #[{ on := 8, ground := Ground.guard }], guard := Option.some (8, Bool.true) }) rfl (by kernel_rfl) (by kernel_rfl) (by kernel_rfl) (fun _ _ _ h => h) (yieldsIf_loadD (by rfl) _ rfl (w1.heap.size) rfl (d) (Hdl.out) (fun W hW => hW.1)) (by assumption) _
  try simp only [Act.put, List.setIfInBounds_toArray, List.set_cons_zero, List.set_cons_succ]
  refine' wpAnyH_take (i := 13) (oi := { dst := Option.some 37, op := Op.load 39 (Operand.tmp 5), type := 39, pos := "text.go:93", after := #[{ on := 8, ground := Ground.guard }], guard := Option.some (8, Bool.true) }) rfl (by kernel_rfl) (by kernel_rfl) (by kernel_rfl) (fun _ _ _ h => h) (yieldsIf_loadD (by rfl) _ rfl (w1.heap.size) rfl (d) (Hdl.out) (fun W hW => hW.1)) (by assumption) _
  try simp only [Act.put, List.setIfInBounds_toArray, List.set_cons_zero, List.set_cons_succ]
  refine wpAnyH_ready (rs := [11]) (by kernel_rfl) (by simp) ?_
  refine AllReadyH.cons (o := { dst := Option.some 35, op := Op.call { callee := Callee.value (Operand.func 45), args := #[Operand.tmp 33, Operand.tmp 34], argTypes := #[3, 39] }, type := 4, pos := "text.go:93", after := #[{ on := 9, ground := Ground.data }, { on := 10, ground := Ground.data }, { on := 8, ground := Ground.chain }, { on := 8, ground := Ground.guard }], guard := Option.some (8, Bool.true) }) rfl (fun K hK => ?_) AllReadyH.nil
  go_simp
  (go_at_call 45; refine (Fits_any n d _ Hdl.out).mono ?_; rintro e w12 ⟨rfl, hb12⟩; rw [HF1.out])
  refine hK.out _ _ ?_ (fun hHeld => ?_)
  · exact hHeld.below hb12
  clear hK K
  try simp only [Act.put, List.setIfInBounds_toArray, List.set_cons_zero, List.set_cons_succ]
  refine wpAnyH_ready (rs := [14]) (by kernel_rfl) (by simp) ?_
  refine AllReadyH.cons (o := { dst := Option.some 38, op := Op.call { callee := Callee.value (Operand.func 46), args := #[Operand.tmp 36, Operand.tmp 37], argTypes := #[3, 39] }, type := 4, pos := "text.go:93", after := #[{ on := 12, ground := Ground.data }, { on := 13, ground := Ground.data }, { on := 11, ground := Ground.chain }, { on := 8, ground := Ground.guard }], guard := Option.some (8, Bool.true) }) rfl (fun K hK => ?_) AllReadyH.nil
  go_simp
  (go_at_call 46; refine (refFits_any n d _ Hdl.out).mono ?_; rintro e w12 ⟨rfl, hb12⟩; rw [HF1.out])
  refine hK.out _ _ ?_ (fun hHeld => ?_)
  · exact hHeld.below hb12
  clear hK K
  try simp only [Act.put, List.setIfInBounds_toArray, List.set_cons_zero, List.set_cons_succ]
  refine' wpAnyH_take (i := 15) (oi := { dst := Option.some 39, op := Op.binOp BinOp.eql 4 (Operand.tmp 35) (Operand.tmp 38) 4, type := 4, pos := "text.go:93", after := #[{ on := 11, ground := Ground.data }, { on := 14, ground := Ground.data }, { on := 8, ground := Ground.guard }], guard := Option.some (8, Bool.true) }) rfl (by kernel_rfl) (by kernel_rfl) (by kernel_rfl) (fun _ _ _ h => h) (Or.inl ⟨by rfl, _⟩) (by assumption) _
  rotate_left
  · (intro wS hSw; (try dsimp only at hSw); go_simp; try with_reducible rfl)
  try simp only [Act.put, List.setIfInBounds_toArray, List.set_cons_zero, List.set_cons_succ]
  refine' wpAnyH_take (i := 16) (oi := { dst := Option.some 40, op := Op.pick (Operand.tmp 32) (Operand.tmp 39) (Operand.const (Value.bool Bool.false)), type := 4, pos := "text.go:93", after := #[{ on := 8, ground := Ground.data }, { on := 15, ground := Ground.data }], guard := Option.none }) rfl (by kernel_rfl) (by kernel_rfl) (by kernel_rfl) (fun _ _ _ h => h) (Or.inl ⟨by rfl, _⟩) (by assumption) _
  rotate_left
  · (intro wS hSw; (try dsimp only at hSw); go_simp; try with_reducible rfl)
  try simp only [Act.put, List.setIfInBounds_toArray, List.set_cons_zero, List.set_cons_succ]
  refine' wpAnyH_take (i := 17) (oi := { dst := Option.some 41, op := Op.move (Operand.tmp 40), type := 4, pos := "text.go:93", after := #[{ on := 16, ground := Ground.data }, { on := 14, ground := Ground.chain }], guard := Option.none }) rfl (by kernel_rfl) (by kernel_rfl) (by kernel_rfl) (fun _ _ _ h => h) (Or.inl ⟨by rfl, _⟩) (by assumption) _
  rotate_left
  · (intro wS hSw; (try dsimp only at hSw); go_simp; try with_reducible rfl)
  try simp only [Act.put, List.setIfInBounds_toArray, List.set_cons_zero, List.set_cons_succ]
  refine' wpAnyH_take (i := 18) (oi := { dst := Option.some 42, op := Op.move (Operand.tmp 0), type := 3, pos := "text.go:93", after := #[{ on := 17, ground := Ground.guard }], guard := Option.some (17, Bool.true) }) rfl (by kernel_rfl) (by kernel_rfl) (by kernel_rfl) (fun _ _ _ h => h) (Or.inl ⟨by rfl, _⟩) (by assumption) _
  rotate_left
  · (intro wS hSw; (try dsimp only at hSw); go_simp; try with_reducible rfl)
  try simp only [Act.put, List.setIfInBounds_toArray, List.set_cons_zero, List.set_cons_succ]
  refine' wpAnyH_take (i := 21) (oi := { dst := Option.some 45, op := Op.move (Operand.tmp 0), type := 3, pos := "text.go:93", after := #[{ on := 17, ground := Ground.guard }], guard := Option.some (17, Bool.true) }) rfl (by kernel_rfl) (by kernel_rfl) (by kernel_rfl) (fun _ _ _ h => h) (Or.inl ⟨by rfl, _⟩) (by assumption) _
  rotate_left
  · (intro wS hSw; (try dsimp only at hSw); go_simp; try with_reducible rfl)
  try simp only [Act.put, List.setIfInBounds_toArray, List.set_cons_zero, List.set_cons_succ]
  refine' wpAnyH_take (i := 19) (oi := { dst := Option.some 43, op := Op.load 39 (Operand.tmp 6), type := 39, pos := "text.go:93", after := #[{ on := 17, ground := Ground.guard }], guard := Option.some (17, Bool.true) }) rfl (by kernel_rfl) (by kernel_rfl) (by kernel_rfl) (fun _ _ _ h => h) (yieldsIf_loadD (by rfl) _ rfl (w4.heap.size) rfl (c) (Hcl.out) (fun W hW => hW.2.1)) (by assumption) _
  try simp only [Act.put, List.setIfInBounds_toArray, List.set_cons_zero, List.set_cons_succ]
  refine' wpAnyH_take (i := 22) (oi := { dst := Option.some 46, op := Op.load 39 (Operand.tmp 8), type := 39, pos := "text.go:93", after := #[{ on := 17, ground := Ground.guard }], guard := Option.some (17, Bool.true) }) rfl (by kernel_rfl) (by kernel_rfl) (by kernel_rfl) (fun _ _ _ h => h) (yieldsIf_loadD (by rfl) _ rfl (w7.heap.size) rfl (c) (Hcl.out) (fun W hW => hW.2.2.1)) (by assumption) _
  try simp only [Act.put, List.setIfInBounds_toArray, List.set_cons_zero, List.set_cons_succ]
  refine wpAnyH_ready (rs := [20]) (by kernel_rfl) (by simp) ?_
  refine AllReadyH.cons (o := { dst := Option.some 44, op := Op.call { callee := Callee.value (Operand.func 45), args := #[Operand.tmp 42, Operand.tmp 43], argTypes := #[3, 39] }, type := 4, pos := "text.go:93", after := #[{ on := 18, ground := Ground.data }, { on := 19, ground := Ground.data }, { on := 17, ground := Ground.chain }, { on := 17, ground := Ground.guard }], guard := Option.some (17, Bool.true) }) rfl (fun K hK => ?_) AllReadyH.nil
  go_simp
  (go_at_call 45; refine (Fits_any n c _ Hcl.out).mono ?_; rintro e w12 ⟨rfl, hb12⟩; rw [HF2.out])
  refine hK.out _ _ ?_ (fun hHeld => ?_)
  · exact hHeld.below hb12
  clear hK K
  try simp only [Act.put, List.setIfInBounds_toArray, List.set_cons_zero, List.set_cons_succ]
  refine wpAnyH_ready (rs := [23]) (by kernel_rfl) (by simp) ?_
  refine AllReadyH.cons (o := { dst := Option.some 47, op := Op.call { callee := Callee.value (Operand.func 46), args := #[Operand.tmp 45, Operand.tmp 46], argTypes := #[3, 39] }, type := 4, pos := "text.go:93", after := #[{ on := 21, ground := Ground.data }, { on := 22, ground := Ground.data }, { on := 20, ground := Ground.chain }, { on := 17, ground := Ground.guard }], guard := Option.some (17, Bool.true) }) rfl (fun K hK => ?_) AllReadyH.nil
  go_simp
  (go_at_call 46; refine (refFits_any n c _ Hcl.out).mono ?_; rintro e w12 ⟨rfl, hb12⟩; rw [HF2.out])
  refine hK.out _ _ ?_ (fun hHeld => ?_)
  · exact hHeld.below hb12
  clear hK K
  try simp only [Act.put, List.setIfInBounds_toArray, List.set_cons_zero, List.set_cons_succ]
  refine' wpAnyH_take (i := 24) (oi := { dst := Option.some 48, op := Op.binOp BinOp.eql 4 (Operand.tmp 44) (Operand.tmp 47) 4, type := 4, pos := "text.go:93", after := #[{ on := 20, ground := Ground.data }, { on := 23, ground := Ground.data }, { on := 17, ground := Ground.guard }], guard := Option.some (17, Bool.true) }) rfl (by kernel_rfl) (by kernel_rfl) (by kernel_rfl) (fun _ _ _ h => h) (Or.inl ⟨by rfl, _⟩) (by assumption) _
  rotate_left
  · (intro wS hSw; (try dsimp only at hSw); go_simp; try with_reducible rfl)
  try simp only [Act.put, List.setIfInBounds_toArray, List.set_cons_zero, List.set_cons_succ]
  refine' wpAnyH_take (i := 25) (oi := { dst := Option.some 49, op := Op.pick (Operand.tmp 41) (Operand.tmp 48) (Operand.const (Value.bool Bool.false)), type := 4, pos := "text.go:93", after := #[{ on := 17, ground := Ground.data }, { on := 24, ground := Ground.data }], guard := Option.none }) rfl (by kernel_rfl) (by kernel_rfl) (by kernel_rfl) (fun _ _ _ h => h) (Or.inl ⟨by rfl, _⟩) (by assumption) _
  rotate_left
  · (intro wS hSw; (try dsimp only at hSw); go_simp; try with_reducible rfl)
  try simp only [Act.put, List.setIfInBounds_toArray, List.set_cons_zero, List.set_cons_succ]
  refine' wpAnyH_take (i := 26) (oi := { dst := Option.some 50, op := Op.move (Operand.tmp 49), type := 4, pos := "text.go:93", after := #[{ on := 25, ground := Ground.data }, { on := 23, ground := Ground.chain }], guard := Option.none }) rfl (by kernel_rfl) (by kernel_rfl) (by kernel_rfl) (fun _ _ _ h => h) (Or.inl ⟨by rfl, _⟩) (by assumption) _
  rotate_left
  · (intro wS hSw; (try dsimp only at hSw); go_simp; try with_reducible rfl)
  try simp only [Act.put, List.setIfInBounds_toArray, List.set_cons_zero, List.set_cons_succ]
  refine wpAnyH_ready (rs := [27]) (by kernel_rfl) (by simp) ?_
  refine AllReadyH.cons (o := { dst := Option.some 51, op := Op.call { callee := Callee.value (Operand.func 23), args := #[], argTypes := #[] }, type := 4, pos := "text.go:93", after := #[{ on := 26, ground := Ground.chain }, { on := 26, ground := Ground.guard }], guard := Option.some (26, Bool.true) }) rfl (fun K hK => ?_) AllReadyH.nil
  go_simp
  (go_at_call 23; refine (awake_any _).mono ?_; rintro e w12 ⟨rfl, hb12⟩)
  refine hK.out _ _ ?_ (fun hHeld => ?_)
  · exact hHeld.below hb12
  clear hK K
  try simp only [Act.put, List.setIfInBounds_toArray, List.set_cons_zero, List.set_cons_succ]
  refine' wpAnyH_take (i := 28) (oi := { dst := Option.some 52, op := Op.pick (Operand.tmp 50) (Operand.tmp 51) (Operand.const (Value.bool Bool.false)), type := 4, pos := "text.go:93", after := #[{ on := 26, ground := Ground.data }, { on := 27, ground := Ground.data }], guard := Option.none }) rfl (by kernel_rfl) (by kernel_rfl) (by kernel_rfl) (fun _ _ _ h => h) (Or.inl ⟨by rfl, _⟩) (by assumption) _
  rotate_left
  · (intro wS hSw; (try dsimp only at hSw); go_simp; try with_reducible rfl)
  try simp only [Act.put, List.setIfInBounds_toArray, List.set_cons_zero, List.set_cons_succ]
  refine' wpAnyH_take (i := 29) (oi := { dst := Option.some 4, op := Op.assign (Operand.tmp 52), type := 4, pos := "text.go:93", after := #[{ on := 28, ground := Ground.data }, { on := 27, ground := Ground.chain }, { on := 0, ground := Ground.phase }, { on := 1, ground := Ground.phase }, { on := 2, ground := Ground.phase }, { on := 3, ground := Ground.phase }, { on := 4, ground := Ground.phase }, { on := 5, ground := Ground.phase }, { on := 6, ground := Ground.phase }, { on := 7, ground := Ground.phase }, { on := 8, ground := Ground.phase }, { on := 9, ground := Ground.phase }, { on := 10, ground := Ground.phase }, { on := 11, ground := Ground.phase }, { on := 12, ground := Ground.phase }, { on := 13, ground := Ground.phase }, { on := 14, ground := Ground.phase }, { on := 15, ground := Ground.phase }, { on := 16, ground := Ground.phase }, { on := 17, ground := Ground.phase }, { on := 18, ground := Ground.phase }, { on := 19, ground := Ground.phase }, { on := 20, ground := Ground.phase }, { on := 21, ground := Ground.phase }, { on := 22, ground := Ground.phase }, { on := 23, ground := Ground.phase }, { on := 24, ground := Ground.phase }, { on := 25, ground := Ground.phase }, { on := 26, ground := Ground.phase }, { on := 27, ground := Ground.phase }, { on := 28, ground := Ground.phase }], guard := Option.none }) rfl (by kernel_rfl) (by kernel_rfl) (by kernel_rfl) (fun _ _ _ h => h) (Or.inl ⟨by rfl, _⟩) (by assumption) _
  rotate_left
  · (intro wS hSw; (try dsimp only at hSw); go_simp; try with_reducible rfl)
  try simp only [Act.put, List.setIfInBounds_toArray, List.set_cons_zero, List.set_cons_succ]
  refine wpAnyH_done (by kernel_rfl) ?_ _
  go_wp2_with fail
  go_ret
  exact ⟨rfl, hHeld.2.2.2⟩
end Go.Proofs.Ytmjikebbknjahaa
