/-
  The walks of the matrices: on, twice; the reference's through.
-/
import Derived.Test.YtmjikebbknjahaaJoinP
import Derived.Test.YtmjikebbknjahaaOwnU
import Derived.Test.YtmjikebbknjahaaShaS
namespace Go.Proofs.Ytmjikebbknjahaa
open Go.RowKit Go.Lib Hw
set_option linter.unusedVariables false

/-- a matrix's block -/
def MB (w : World) (b : Nat) (m : List (BitVec 32)) : Prop := w.heap[b]? = some (.cells (m.map uv).toArray 90 (0, 0))
def zeroM : List (BitVec 32) := List.replicate 32 0#32
theorem zero_M (w : World) : (zeroValue 90).run Try.prog w = .ok (.agg (zeroM.map uv).toArray) w := by kernel_rfl
theorem MB.cell {w : World} {b : Nat} {m : List (BitVec 32)} (h : MB w b m) (j : Nat) (X : BitVec 32) (hX : X = m.getD j 0) (hj : j < m.length) : w.cell? ⟨b, j, none⟩ = some (.int .u32 (toU X)) := by
  rw [heap_cell h, hX]; simp [List.getElem?_eq_getElem hj, uv, List.getD]
theorem MB.set {w : World} {b : Nat} {m : List (BitVec 32)} (h : MB w b m) (j : Nat) (x : BitVec 32) : MB (w.setCell ⟨b, j, none⟩ (.int .u32 (toU x))) b (m.set j x) := by
  unfold MB
  have h1 := heap_set (o := j) h (.int .u32 (toU x))
  rw [List.map_set, ← List.setIfInBounds_toArray]
  exact h1
theorem MB.below {w w' : World} {b B : Nat} {m : List (BitVec 32)} (h : MB w b m) (hb : Below B w w') (hB : b < B) : MB w' b m := heap_below h hb hB
theorem shl1 (i : Nat) : (2 : Int) ^ i % 4294967296 = toU (1#32 <<< i) := by
  have h := toU_shl 1#32 i
  have h1 : toU 1#32 = 1 := rfl
  rw [h1, Int.one_mul] at h
  exact h

set_option maxHeartbeats 1000000 in
theorem on_any (b : Nat) (m : List (BitVec 32)) (V : BitVec 32) (w : World) (hm : MB w b m) (hl : m.length = 32) :
    Calls Try.prog 66 #[.pointer (some ⟨b, 0, none⟩), .int .u32 (toU V)] w fun e w' => e = .returned (.int .u32 (toU (thr m V 32))) ∧ Below w.heap.size w w' := by
  have HM := Lib.hid hm
  clear hm
  go_enter Try.func66, Try.ntmps66
  go_wp2
  go_loopw [5, 9] (fun t i wr => ∃ (k : Nat) (X : BitVec 32), k ≤ 32 ∧ Hid (X = thr m V k) ∧ Hid (Below w.heap.size w wr) ∧ i = .int .i64 (k : Int) ∧ t = .int .u32 (toU X)) (fun _ i _ => 32 - (intOf i).toNat)
  case atStart => exact ⟨0, 0#32, by omega, rfl, Below.refl _ _, rfl, rfl⟩
  case round =>
    obtain ⟨k, X, hk, HX, HB, rfl, rfl⟩ := hrel
    by_cases hlt : k < 32
    · have ck := MB.cell (HM.out.below HB.out (heap_lt HM.out)) k _ rfl (by omega)
      obtain ⟨M, hM⟩ : ∃ M, m.getD k 0 = M := ⟨_, rfl⟩
      rw [hM] at ck
      have HMk := Lib.hid hM
      clear hM
      have l4 : (k : Int) < 32 := by omega
      have hxb := toU_bd V
      have hb := bits_and32 (V >>> k) 1#32
      rw [toU_shift] at hb
      have ha : bits .and .u32 (toU V / 2 ^ k) 1 = toU ((V >>> k) &&& 1#32) := hb
      have hbit := bit_at V k
      have hx := bits_xor32 X M
      clear hb
      go_upto_region 4 with fail
      refine wp_region_held_drew (S := fun W => W.cell? ⟨b, k, none⟩ = some (.int .u32 (toU M))) (by kernel_rfl) ck (fun hHeld => ?_)
      refine' wpAnyH_take (i := 0) (oi := { dst := Option.some 11, op := Op.move (Operand.tmp 9), type := 3, pos := "crc.go:40", after := #[], guard := Option.none }) rfl (by kernel_rfl) (by kernel_rfl) (by kernel_rfl) (fun _ _ _ h => h) (Or.inl ⟨by rfl, _⟩) (by assumption) _
      rotate_left
      · (intro wS hSw; (try dsimp only at hSw); go_simp; try with_reducible rfl)
      try simp only [Act.put, List.setIfInBounds_toArray, List.set_cons_zero, List.set_cons_succ]
      refine' wpAnyH_take (i := 1) (oi := { dst := Option.some 12, op := Op.nilCheck (Operand.tmp 8), type := 0, pos := "crc.go:40", after := #[{ on := 4, ground := Ground.gcOnly Departure.lateStores }], guard := Option.none }) rfl (by kernel_rfl) (by kernel_rfl) (by kernel_rfl) (fun _ _ _ h => h) (Or.inl ⟨by rfl, _⟩) (by assumption) _
      rotate_left
      · (intro wS hSw; (try dsimp only at hSw); go_simp; try with_reducible rfl)
      try simp only [Act.put, List.setIfInBounds_toArray, List.set_cons_zero, List.set_cons_succ]
      refine' wpAnyH_take (i := 2) (oi := { dst := Option.some 13, op := Op.indexAddr 90 (Operand.tmp 12) (Operand.tmp 9), type := 0, pos := "crc.go:40", after := #[{ on := 1, ground := Ground.data }, { on := 4, ground := Ground.gcOnly Departure.lateStores }], guard := Option.none }) rfl (by kernel_rfl) (by kernel_rfl) (by kernel_rfl) (fun _ _ _ h => h) (Or.inl ⟨by rfl, _⟩) (by assumption) _
      rotate_left
      · (intro wS hSw; (try dsimp only at hSw); go_simp; try with_reducible rfl)
      try simp only [Act.put, List.setIfInBounds_toArray, List.set_cons_zero, List.set_cons_succ]
      refine' wpAnyH_take (i := 3) (oi := { dst := Option.some 14, op := Op.load 25 (Operand.tmp 13), type := 25, pos := "crc.go:40", after := #[{ on := 2, ground := Ground.data }, { on := 4, ground := Ground.gcOnly Departure.lateStores }], guard := Option.none }) rfl (by kernel_rfl) (by kernel_rfl) (by kernel_rfl) (fun _ _ _ h => h) (Or.inl ⟨by rfl, _⟩) (by assumption) _
      rotate_left
      · (intro wS hSw; (try dsimp only at hSw); go_simp; try with_reducible rfl)
      try simp only [Act.put, List.setIfInBounds_toArray, List.set_cons_zero, List.set_cons_succ]
      refine' wpAnyH_take (i := 4) (oi := { dst := Option.some 6, op := Op.assign (Operand.tmp 11), type := 3, pos := "crc.go:40", after := #[{ on := 0, ground := Ground.data }, { on := 0, ground := Ground.phase }, { on := 1, ground := Ground.textOnly Departure.lateStores }, { on := 2, ground := Ground.textOnly Departure.lateStores }, { on := 3, ground := Ground.textOnly Departure.lateStores }], guard := Option.none }) rfl (by kernel_rfl) (by kernel_rfl) (by kernel_rfl) (fun _ _ _ h => h) (Or.inl ⟨by rfl, _⟩) (by assumption) _
      rotate_left
      · (intro wS hSw; (try dsimp only at hSw); go_simp; try with_reducible rfl)
      try simp only [Act.put, List.setIfInBounds_toArray, List.set_cons_zero, List.set_cons_succ]
      refine' wpAnyH_take (i := 5) (oi := { dst := Option.some 7, op := Op.assign (Operand.tmp 14), type := 25, pos := "crc.go:40", after := #[{ on := 3, ground := Ground.data }, { on := 4, ground := Ground.chain }, { on := 0, ground := Ground.phase }, { on := 1, ground := Ground.phase }, { on := 2, ground := Ground.phase }, { on := 3, ground := Ground.phase }, { on := 4, ground := Ground.phase }], guard := Option.none }) rfl (by kernel_rfl) (by kernel_rfl) (by kernel_rfl) (fun _ _ _ h => h) (Or.inl ⟨by rfl, _⟩) (by assumption) _
      rotate_left
      · (intro wS hSw; (try dsimp only at hSw); go_simp; try with_reducible rfl)
      try simp only [Act.put, List.setIfInBounds_toArray, List.set_cons_zero, List.set_cons_succ]
      refine wpAnyH_done (by kernel_rfl) ?_ _
      go_upto_region 5 with fail
      cases hv : V.getLsbD k
      · rw [hv] at hbit
        have Hv := Lib.hid hv
        clear hv
        go_wp2_with fail
        refine ⟨⟨k + 1, X, by omega, ?_, HB.out.drew, by go_num, rfl⟩, by simp [intOf]; omega⟩
        show _ = thr m V (k + 1)
        simp only [thr]
        rw [Hv.out, HX.out]; rfl
      · rw [hv] at hbit
        have Hv := Lib.hid hv
        clear hv
        go_wp2_with fail
        refine ⟨⟨k + 1, X ^^^ M, by omega, ?_, HB.out.drew, by go_num, rfl⟩, by simp [intOf]; omega⟩
        show _ = thr m V (k + 1)
        simp only [thr]
        rw [Hv.out, ← HX.out, HMk.out]; rfl
    · obtain rfl : k = 32 := by omega
      go_wp2_with fail
      go_ret
      exact ⟨by rw [HX.out]; rfl, HB.out⟩

set_option maxHeartbeats 1000000 in
theorem twice_any (b : Nat) (f : BitVec 32 → BitVec 32) (w : World) (hm : MB w b (matF f)) (hf : Lin f) :
    Calls Try.prog 67 #[.pointer (some ⟨b, 0, none⟩)] w fun e w' => e = .returned (.pointer (some ⟨w.heap.size, 0, none⟩)) ∧ MB w' w.heap.size (matF fun x => f (f x)) ∧ Below w.heap.size w w' := by
  have hbl := heap_lt hm
  have HM0 := Lib.hid hm
  clear hm
  go_enter Try.func67, Try.ntmps67
  go_upto_region 2 with (refine wpList_allocB rfl 90 rfl w.heap.size rfl _ zero_M ?_; intro w1 h1 hB1 hz1)
  have HO : Hid (MB w1 w.heap.size (rowU (matF fun x => f (f x)) 0)) := h1
  have HB := Lib.hid hB1
  clear h1 hB1
  try simp only [Act.put, List.setIfInBounds_toArray, List.set_cons_zero, List.set_cons_succ]
  go_wp2_with fail
  go_loopw [7] (fun i wr => ∃ (k : Nat), k ≤ 32 ∧ Hid (MB wr w.heap.size (rowU (matF fun x => f (f x)) k)) ∧ Hid (Below w.heap.size w wr) ∧ i = .int .i64 (k : Int)) (fun i _ => 32 - (intOf i).toNat)
  case atStart => exact ⟨0, by omega, HO, HB, rfl⟩
  case round =>
    clear HO HB
    obtain ⟨k, hk, HO, HB, rfl⟩ := hrel
    by_cases hlt : k < 32
    · have HM := Lib.hid (HM0.out.below HB.out hbl)
      have ck := MB.cell HM.out k _ (matF_get f k hlt).symm (by rw [matF_length]; exact hlt)
      have l4 : (k : Int) < 32 := by omega
      go_upto_region 4 with fail
      refine wp_region_held_drew (S := fun W => W.cell? ⟨b, k, none⟩ = some (.int .u32 (toU (f (1#32 <<< k))))) (by kernel_rfl) ck (fun hHeld => ?_)
      refine' wpAnyH_take (i := 0) (oi := { dst := Option.some 9, op := Op.move (Operand.tmp 7), type := 3, pos := "crc.go:51", after := #[], guard := Option.none }) rfl (by kernel_rfl) (by kernel_rfl) (by kernel_rfl) (fun _ _ _ h => h) (Or.inl ⟨by rfl, _⟩) (by assumption) _
      rotate_left
      · (intro wS hSw; (try dsimp only at hSw); go_simp; try with_reducible rfl)
      try simp only [Act.put, List.setIfInBounds_toArray, List.set_cons_zero, List.set_cons_succ]
      refine' wpAnyH_take (i := 1) (oi := { dst := Option.some 10, op := Op.nilCheck (Operand.tmp 6), type := 0, pos := "crc.go:51", after := #[{ on := 4, ground := Ground.gcOnly Departure.lateStores }], guard := Option.none }) rfl (by kernel_rfl) (by kernel_rfl) (by kernel_rfl) (fun _ _ _ h => h) (Or.inl ⟨by rfl, _⟩) (by assumption) _
      rotate_left
      · (intro wS hSw; (try dsimp only at hSw); go_simp; try with_reducible rfl)
      try simp only [Act.put, List.setIfInBounds_toArray, List.set_cons_zero, List.set_cons_succ]
      refine' wpAnyH_take (i := 2) (oi := { dst := Option.some 11, op := Op.indexAddr 90 (Operand.tmp 10) (Operand.tmp 7), type := 0, pos := "crc.go:51", after := #[{ on := 1, ground := Ground.data }, { on := 4, ground := Ground.gcOnly Departure.lateStores }], guard := Option.none }) rfl (by kernel_rfl) (by kernel_rfl) (by kernel_rfl) (fun _ _ _ h => h) (Or.inl ⟨by rfl, _⟩) (by assumption) _
      rotate_left
      · (intro wS hSw; (try dsimp only at hSw); go_simp; try with_reducible rfl)
      try simp only [Act.put, List.setIfInBounds_toArray, List.set_cons_zero, List.set_cons_succ]
      refine' wpAnyH_take (i := 3) (oi := { dst := Option.some 12, op := Op.load 25 (Operand.tmp 11), type := 25, pos := "crc.go:51", after := #[{ on := 2, ground := Ground.data }, { on := 4, ground := Ground.gcOnly Departure.lateStores }], guard := Option.none }) rfl (by kernel_rfl) (by kernel_rfl) (by kernel_rfl) (fun _ _ _ h => h) (Or.inl ⟨by rfl, _⟩) (by assumption) _
      rotate_left
      · (intro wS hSw; (try dsimp only at hSw); go_simp; try with_reducible rfl)
      try simp only [Act.put, List.setIfInBounds_toArray, List.set_cons_zero, List.set_cons_succ]
      refine' wpAnyH_take (i := 4) (oi := { dst := Option.some 4, op := Op.assign (Operand.tmp 9), type := 3, pos := "crc.go:51", after := #[{ on := 0, ground := Ground.data }, { on := 0, ground := Ground.phase }, { on := 1, ground := Ground.textOnly Departure.lateStores }, { on := 2, ground := Ground.textOnly Departure.lateStores }, { on := 3, ground := Ground.textOnly Departure.lateStores }], guard := Option.none }) rfl (by kernel_rfl) (by kernel_rfl) (by kernel_rfl) (fun _ _ _ h => h) (Or.inl ⟨by rfl, _⟩) (by assumption) _
      rotate_left
      · (intro wS hSw; (try dsimp only at hSw); go_simp; try with_reducible rfl)
      try simp only [Act.put, List.setIfInBounds_toArray, List.set_cons_zero, List.set_cons_succ]
      refine' wpAnyH_take (i := 5) (oi := { dst := Option.some 5, op := Op.assign (Operand.tmp 12), type := 25, pos := "crc.go:51", after := #[{ on := 3, ground := Ground.data }, { on := 4, ground := Ground.chain }, { on := 0, ground := Ground.phase }, { on := 1, ground := Ground.phase }, { on := 2, ground := Ground.phase }, { on := 3, ground := Ground.phase }, { on := 4, ground := Ground.phase }], guard := Option.none }) rfl (by kernel_rfl) (by kernel_rfl) (by kernel_rfl) (fun _ _ _ h => h) (Or.inl ⟨by rfl, _⟩) (by assumption) _
      rotate_left
      · (intro wS hSw; (try dsimp only at hSw); go_simp; try with_reducible rfl)
      try simp only [Act.put, List.setIfInBounds_toArray, List.set_cons_zero, List.set_cons_succ]
      refine wpAnyH_done (by kernel_rfl) ?_ _
      go_upto_region 5 with fail
      have HM2 : MB wr.drew b (matF f) := HM.out
      clear ck hHeld
      go_wp2_with (go_at_call 66; refine (on_any _ _ _ _ HM2 (matF_length f)).mono ?_; rintro e w3 ⟨rfl, hb3⟩; have hz3 : w.heap.size < wr.drew.heap.size := heap_lt HO.out; have HO3 : MB w3 w.heap.size (rowU (matF fun x => f (f x)) k) := MB.below (w := wr.drew) HO.out hb3 hz3; have c3 := MB.cell HO3 k _ rfl (by rw [rowU_length _ _ (matF_length _) (by omega)]; exact hlt); have f3 := heap_free HO3 k)
      refine ⟨⟨k + 1, by omega, ?_, (HB.out.drew.trans (hb3.mono (by exact Nat.le_of_lt hz3))).setCell (by exact Nat.le_refl _) _, by go_num⟩, by simp [intOf]; omega⟩
      have h1 := HO3.set k (thr (matF f) (f (1#32 <<< k)) 32)
      rw [thr_all hf, rowU_succ _ _ _ (matF_length _) hlt (matF_get _ k hlt)] at h1
      rw [thr_all hf]
      exact h1
    · obtain rfl : k = 32 := by omega
      go_wp2_with fail
      go_ret
      refine ⟨rfl, ?_, HB.out⟩
      have := HO.out
      rw [rowU_all _ (matF_length _)] at this
      exact this
end Go.Proofs.Ytmjikebbknjahaa
