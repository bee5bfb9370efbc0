/-
  The walk of the law SumsOneText.
-/
import Derived.Test.YtmjikebbknjahaaTextL
import Derived.Deep.RegionHeld
namespace Go.Proofs.Ytmjikebbknjahaa
open Go.RowKit Go.Lib Hw
set_option linter.unusedVariables false

def textB (tag : ByteArray) (l : List ByteArray) : ByteArray := bif badTag tag then ⟨#[]⟩ else ⟨(textL tag l).toArray⟩
def textE (tag : ByteArray) : Int := bif badTag tag then 20 else 0
theorem Text_all (tag : ByteArray) (v : Value) (ss : List ByteArray) (w : World) (hv : Hid (StrRow w v ss)) (hlen : tag.size + (ss.flatMap partL).length < 140737488355328) (hn : ss.length ≤ 9223372036854775807) :
    Calls Try.prog 33 #[.string tag, v] w fun e w' => e = .returned (.tuple #[.string (textB tag ss), .int .i64 (textE tag)]) ∧ Below w.heap.size w w' := by
  unfold textB textE
  cases h : badTag tag
  · exact Text_any tag v ss w h hv hlen hn
  · refine (Text_bad tag v w h (by omega)).mono ?_
    rintro e w' ⟨rfl, rfl⟩
    exact ⟨rfl, Below.refl _ _⟩
theorem textB_inj {tA tB : ByteArray} {lA lB : List ByteArray} (hA : badTag tA = false) (hB : badTag tB = false) (sA : ∀ s ∈ lA, s.size < 4294967296) (sB : ∀ s ∈ lB, s.size < 4294967296) (h : textB tA lA = textB tB lB) : tA = tB ∧ lA = lB := by
  have h1 := partsR_text tA lA hA sA
  have h2 := partsR_text tB lB hB sB
  have e1 : textB tA lA = ⟨(textL tA lA).toArray⟩ := by unfold textB; rw [hA]; rfl
  have e2 : textB tB lB = ⟨(textL tB lB).toArray⟩ := by unfold textB; rw [hB]; rfl
  rw [← e1, h, e2, h2] at h1
  simp only [Option.some.injEq, Prod.mk.injEq] at h1
  exact ⟨h1.1.symm, h1.2.symm⟩

set_option maxHeartbeats 1000000 in
theorem mayTag_any (tag : ByteArray) (v : Value) (w : World) (hs : tag.size ≤ 9223372036854775807) :
    Calls Try.prog 34 #[.agg #[.string tag, v]] w fun e w' => e = .returned (.bool (!badTag tag)) ∧ Below w.heap.size w w' := by
  by_cases h0 : tag.size = 0
  · have hb : badTag tag = true := by simp [badTag, h0]
    have d1 : decide ((1 : Int) ≤ (tag.size : Int)) = false := decide_eq_false (by omega)
    have d2 : decide (1 ≤ tag.size) = false := decide_eq_false (by omega)
    rw [hb]
    clear hb h0
    go_enter Try.func34, Try.ntmps34
    go_wp2_with fail
    go_ret
    exact ⟨rfl, (Below.refl _ _).alloc (Nat.le_refl _) _⟩
  · have d1 : decide ((1 : Int) ≤ (tag.size : Int)) = true := by simp; omega
    have d2 : decide (1 ≤ tag.size) = true := by simp; omega
    by_cases h1 : 64 < tag.size
    · have hb : badTag tag = true := by simp [badTag, h0, h1]
      have d3 : decide ((tag.size : Int) ≤ 64) = false := by simp; omega
      have d4 : decide (tag.size ≤ 64) = false := by simp; omega
      rw [hb]
      clear hb h0 h1
      go_enter Try.func34, Try.ntmps34
      go_wp2_with fail
      go_ret
      exact ⟨rfl, (Below.refl _ _).alloc (Nat.le_refl _) _⟩
    · have hb : badTag tag = false := by simp [badTag, h0, h1]
      have d3 : decide ((tag.size : Int) ≤ 64) = true := by simp; omega
      have d4 : decide (tag.size ≤ 64) = true := by simp; omega
      rw [hb]
      clear hb h0 h1
      go_enter Try.func34, Try.ntmps34
      go_wp2_with fail
      go_ret
      exact ⟨rfl, (Below.refl _ _).alloc (Nat.le_refl _) _⟩

/-- the two boxes of the law's arguments -/
structure TG (w : World) (tA tB : ByteArray) (vA vB : Value) (lA lB : List ByteArray) (W : World) : Prop where
  a : W.heap[w.heap.size]? = some (.cells #[.string tA, vA] 43 (0, 0))
  b : W.heap[w.heap.size + 1]? = some (.cells #[.string tB, vB] 43 (0, 0))
  ra : StrRow W vA lA
  rb : StrRow W vB lB
  bel : Below w.heap.size w W
section
variable {w W W' : World} {tA tB : ByteArray} {vA vB : Value} {lA lB : List ByteArray}
theorem TG.start (hA : StrRow w vA lA) (hB : StrRow w vB lB) : TG w tA tB vA vB lA lB ((w.alloc (.cells #[.string tA, vA] 43)).alloc (.cells #[.string tB, vB] 43)) := by
  have hb : Below w.heap.size w ((w.alloc (.cells #[.string tA, vA] 43)).alloc (.cells #[.string tB, vB] 43)) := ((Below.refl _ _).alloc (Nat.le_refl _) _).alloc (by simp) _
  refine ⟨heap_alloc (heap_new _ _), ?_, hA.below' hb, hB.below' hb, hb⟩
  have := heap_new (w.alloc (.cells #[.string tA, vA] 43)) (.cells #[.string tB, vB] 43)
  simpa only [World.size_alloc] using this
theorem TG.below (h : TG w tA tB vA vB lA lB W) (hb : Below W.heap.size W W') : TG w tA tB vA vB lA lB W' :=
  ⟨heap_below h.a hb (heap_lt h.a), heap_below h.b hb (heap_lt h.b), h.ra.below' hb, h.rb.below' hb, h.bel.trans (hb.mono h.bel.size)⟩
theorem TG.drew (h : TG w tA tB vA vB lA lB W) : TG w tA tB vA vB lA lB W.drew := ⟨h.a, h.b, h.ra.drew, h.rb.drew, h.bel.drew⟩
theorem TG.full (h : TG w tA tB vA vB lA lB W) : W.cell? ⟨w.heap.size, 0, none⟩ = some (.string tA) ∧ W.cell? ⟨w.heap.size, 1, none⟩ = some vA ∧ W.cell? ⟨w.heap.size + 1, 0, none⟩ = some (.string tB) ∧ W.cell? ⟨w.heap.size + 1, 1, none⟩ = some vB ∧ TG w tA tB vA vB lA lB W :=
  ⟨by rw [heap_cell h.a]; rfl, by rw [heap_cell h.a]; rfl, by rw [heap_cell h.b]; rfl, by rw [heap_cell h.b]; rfl, h⟩
end
def IsTagU (w : World) (v : Value) : Prop := ∃ tag pv l, v = .agg #[.string tag, pv] ∧ tag.size ≤ 1048576 ∧ StrRow w pv l ∧ (l.map ByteArray.size).sum + l.length ≤ 1048576
theorem lent_row {w : World} {B g c : Nat} {l : List ByteArray} (h : OwnT w B (.slice (some ⟨g, 0, none⟩) (l.length + 5) c) (l ++ marks)) : StrRow w (.slice (some ⟨g, 0, none⟩) l.length c) l := by
  have h := h.row l.length (by simp [marks])
  rw [List.take_append_of_le_length (Nat.le_refl _), List.take_length] at h
  exact h

set_option maxHeartbeats 4000000 in
theorem SumsOneText_walk (v0 v1 : Value) (w : World) (h0 : IsTagU w v0) (h1 : IsTagU w v1) :
    Calls Try.prog 8 #[v0, v1] w fun e w' => e = .returned (.bool true) ∧ Below w.heap.size w w' := by
  obtain ⟨tA, vA, lA, rfl, hzA, hvA, hlA⟩ := h0
  obtain ⟨tB, vB, lB, rfl, hzB, hvB, hlB⟩ := h1
  have T0 := Lib.hid (TG.start (tA := tA) (tB := tB) hvA hvB)
  have a1 : lA.length * 16 ≤ 140737488355240 := by omega
  have a2 : lA.length ≤ 9223372036854775807 := by omega
  have a3 : tA.size + (lA.flatMap partL).length < 140737488355328 := by rw [parts_length]; omega
  have a4 : tA.size ≤ 9223372036854775807 := by omega
  have b1 : lB.length * 16 ≤ 140737488355240 := by omega
  have b2 : lB.length ≤ 9223372036854775807 := by omega
  have b3 : tB.size + (lB.flatMap partL).length < 140737488355328 := by rw [parts_length]; omega
  have b4 : tB.size ≤ 9223372036854775807 := by omega
  have sA : ∀ s ∈ lA, s.size < 4294967296 := fun s hs => by have := size_le_sum lA s hs; omega
  have sB : ∀ s ∈ lB, s.size < 4294967296 := fun s hs => by have := size_le_sum lB s hs; omega
  have Hinj : Hid (badTag tA = false → badTag tB = false → textB tA lA = textB tB lB → tA = tB ∧ lA = lB) := fun hA hB h => textB_inj hA hB sA sB h
  clear hvA hvB sA sB hlA hlB hzA hzB
  go_enter Try.func8, Try.ntmps8
  go_upto_region 1 with fail
  refine wp_name (fun W => TG w tA tB vA vB lA lB W) T0.out (fun W0 T1 => ?_)
  have T1 := Lib.hid T1
  clear T0
  refine wp_region_held_drew (S := fun W => W.cell? ⟨w.heap.size, 0, none⟩ = some (.string tA) ∧ W.cell? ⟨w.heap.size, 1, none⟩ = some vA ∧ W.cell? ⟨w.heap.size + 1, 0, none⟩ = some (.string tB) ∧ W.cell? ⟨w.heap.size + 1, 1, none⟩ = some vB ∧ TG w tA tB vA vB lA lB W) (by kernel_rfl) T1.out.drew.full (fun hHeld => ?_)
  refine' wpAnyH_take (i := 0) (oi := { dst := Option.some 10, op := Op.fieldAddr 43 (Operand.tmp 2) 0, type := 0, pos := "text.go:53", after := #[], guard := Option.none }) rfl (by kernel_rfl) (by kernel_rfl) (by kernel_rfl) (fun _ _ _ h => h) (Or.inl ⟨by rfl, _⟩) (by assumption) _
  rotate_left
  · (intro wS hSw; (try dsimp only at hSw); go_simp; try with_reducible rfl)
  try simp only [Act.put, List.setIfInBounds_toArray, List.set_cons_zero, List.set_cons_succ]
  refine' wpAnyH_take (i := 1) (oi := { dst := Option.some 11, op := Op.load 9 (Operand.tmp 10), type := 9, pos := "text.go:53", after := #[{ on := 0, ground := Ground.data }], guard := Option.none }) rfl (by kernel_rfl) (by kernel_rfl) (by kernel_rfl) (fun _ _ _ h => h) (Or.inl ⟨by rfl, _⟩) (by assumption) _
  rotate_left
  · (intro wS hSw; (try dsimp only at hSw); go_simp; try with_reducible rfl)
  try simp only [Act.put, List.setIfInBounds_toArray, List.set_cons_zero, List.set_cons_succ]
  refine' wpAnyH_take (i := 2) (oi := { dst := Option.some 12, op := Op.fieldAddr 43 (Operand.tmp 2) 1, type := 0, pos := "text.go:53", after := #[], guard := Option.none }) rfl (by kernel_rfl) (by kernel_rfl) (by kernel_rfl) (fun _ _ _ h => h) (Or.inl ⟨by rfl, _⟩) (by assumption) _
  rotate_left
  · (intro wS hSw; (try dsimp only at hSw); go_simp; try with_reducible rfl)
  try simp only [Act.put, List.setIfInBounds_toArray, List.set_cons_zero, List.set_cons_succ]
  refine' wpAnyH_take (i := 3) (oi := { dst := Option.some 13, op := Op.load 23 (Operand.tmp 12), type := 23, pos := "text.go:53", after := #[{ on := 2, ground := Ground.data }], guard := Option.none }) rfl (by kernel_rfl) (by kernel_rfl) (by kernel_rfl) (fun _ _ _ h => h) (Or.inl ⟨by rfl, _⟩) (by assumption) _
  rotate_left
  · (intro wS hSw; (try dsimp only at hSw); go_simp; try with_reducible rfl)
  try simp only [Act.put, List.setIfInBounds_toArray, List.set_cons_zero, List.set_cons_succ]
  refine wpAnyH_ready (rs := [4]) (by kernel_rfl) (by simp) ?_
  refine AllReadyH.cons (o := { dst := Option.some 14, op := Op.call { callee := Callee.value (Operand.func 24), args := #[Operand.tmp 13], argTypes := #[23] }, type := 23, pos := "text.go:53", after := #[{ on := 3, ground := Ground.data }], guard := Option.none }) rfl (fun K hK => ?_) AllReadyH.nil
  go_simp
  (go_at_call 24; refine (lent_any _ lA _ hHeld.2.2.2.2.ra a1).mono ?_; rintro e w2 ⟨g2, c2, rfl, hO2, hb2⟩; have R2 := Lib.hid (lent_row hO2))
  refine hK.out _ _ ?_ (fun hHeld => ?_)
  · exact (hHeld.2.2.2.2.below hb2).full
  clear hK K
  try simp only [Act.put, List.setIfInBounds_toArray, List.set_cons_zero, List.set_cons_succ]
  refine wpAnyH_ready (rs := [5]) (by kernel_rfl) (by simp) ?_
  refine AllReadyH.cons (o := { dst := Option.some 15, op := Op.call { callee := Callee.value (Operand.func 33), args := #[Operand.tmp 11, Operand.tmp 14], argTypes := #[9, 23] }, type := 44, pos := "text.go:53", after := #[{ on := 1, ground := Ground.data }, { on := 4, ground := Ground.data }, { on := 4, ground := Ground.chain }], guard := Option.none }) rfl (fun K hK => ?_) AllReadyH.nil
  go_simp
  (go_at_call 33; refine (Text_all tA _ lA _ R2 a3 a2).mono ?_; rintro e w3 ⟨rfl, hb3⟩)
  refine hK.out _ _ ?_ (fun hHeld => ?_)
  · exact (hHeld.2.2.2.2.below hb3).full
  clear hK K
  try simp only [Act.put, List.setIfInBounds_toArray, List.set_cons_zero, List.set_cons_succ]
  refine' wpAnyH_take (i := 6) (oi := { dst := Option.some 9, op := Op.move (Operand.tmp 15), type := 44, pos := "text.go:53", after := #[{ on := 5, ground := Ground.data }], guard := Option.none }) rfl (by kernel_rfl) (by kernel_rfl) (by kernel_rfl) (fun _ _ _ h => h) (Or.inl ⟨by rfl, _⟩) (by assumption) _
  rotate_left
  · (intro wS hSw; (try dsimp only at hSw); go_simp; try with_reducible rfl)
  try simp only [Act.put, List.setIfInBounds_toArray, List.set_cons_zero, List.set_cons_succ]
  refine' wpAnyH_take (i := 7) (oi := { dst := Option.some 16, op := Op.extract (Operand.tmp 9) 0, type := 9, pos := "text.go:53", after := #[{ on := 6, ground := Ground.data }], guard := Option.none }) rfl (by kernel_rfl) (by kernel_rfl) (by kernel_rfl) (fun _ _ _ h => h) (Or.inl ⟨by rfl, _⟩) (by assumption) _
  rotate_left
  · (intro wS hSw; (try dsimp only at hSw); go_simp; try with_reducible rfl)
  try simp only [Act.put, List.setIfInBounds_toArray, List.set_cons_zero, List.set_cons_succ]
  refine' wpAnyH_take (i := 8) (oi := { dst := Option.some 17, op := Op.extract (Operand.tmp 9) 1, type := 31, pos := "text.go:53", after := #[{ on := 6, ground := Ground.data }, { on := 9, ground := Ground.gcOnly Departure.lateStores }], guard := Option.none }) rfl (by kernel_rfl) (by kernel_rfl) (by kernel_rfl) (fun _ _ _ h => h) (Or.inl ⟨by rfl, _⟩) (by assumption) _
  rotate_left
  · (intro wS hSw; (try dsimp only at hSw); go_simp; try with_reducible rfl)
  try simp only [Act.put, List.setIfInBounds_toArray, List.set_cons_zero, List.set_cons_succ]
  refine' wpAnyH_take (i := 9) (oi := { dst := Option.some 5, op := Op.assign (Operand.tmp 16), type := 9, pos := "text.go:53", after := #[{ on := 7, ground := Ground.data }, { on := 5, ground := Ground.chain }, { on := 0, ground := Ground.phase }, { on := 1, ground := Ground.phase }, { on := 2, ground := Ground.phase }, { on := 3, ground := Ground.phase }, { on := 4, ground := Ground.phase }, { on := 5, ground := Ground.phase }, { on := 6, ground := Ground.phase }, { on := 7, ground := Ground.phase }, { on := 8, ground := Ground.textOnly Departure.lateStores }], guard := Option.none }) rfl (by kernel_rfl) (by kernel_rfl) (by kernel_rfl) (fun _ _ _ h => h) (Or.inl ⟨by rfl, _⟩) (by assumption) _
  rotate_left
  · (intro wS hSw; (try dsimp only at hSw); go_simp; try with_reducible rfl)
  try simp only [Act.put, List.setIfInBounds_toArray, List.set_cons_zero, List.set_cons_succ]
  refine' wpAnyH_take (i := 10) (oi := { dst := Option.some 6, op := Op.assign (Operand.tmp 17), type := 31, pos := "text.go:53", after := #[{ on := 8, ground := Ground.data }, { on := 9, ground := Ground.chain }, { on := 0, ground := Ground.phase }, { on := 1, ground := Ground.phase }, { on := 2, ground := Ground.phase }, { on := 3, ground := Ground.phase }, { on := 4, ground := Ground.phase }, { on := 5, ground := Ground.phase }, { on := 6, ground := Ground.phase }, { on := 7, ground := Ground.phase }, { on := 8, ground := Ground.phase }, { on := 9, ground := Ground.phase }], guard := Option.none }) rfl (by kernel_rfl) (by kernel_rfl) (by kernel_rfl) (fun _ _ _ h => h) (Or.inl ⟨by rfl, _⟩) (by assumption) _
  rotate_left
  · (intro wS hSw; (try dsimp only at hSw); go_simp; try with_reducible rfl)
  try simp only [Act.put, List.setIfInBounds_toArray, List.set_cons_zero, List.set_cons_succ]
  refine wpAnyH_done (by kernel_rfl) ?_ _
  have T3 := Lib.hid hHeld.2.2.2.2
  clear hHeld hb2 hb3 hO2 R2 T1
  go_upto_region 2 with fail
  refine wp_region_held_drew (S := fun W => W.cell? ⟨w.heap.size, 0, none⟩ = some (.string tA) ∧ W.cell? ⟨w.heap.size, 1, none⟩ = some vA ∧ W.cell? ⟨w.heap.size + 1, 0, none⟩ = some (.string tB) ∧ W.cell? ⟨w.heap.size + 1, 1, none⟩ = some vB ∧ TG w tA tB vA vB lA lB W) (by kernel_rfl) T3.out.drew.full (fun hHeld => ?_)
  refine' wpAnyH_take (i := 0) (oi := { dst := Option.some 19, op := Op.fieldAddr 43 (Operand.tmp 3) 0, type := 0, pos := "text.go:54", after := #[], guard := Option.none }) rfl (by kernel_rfl) (by kernel_rfl) (by kernel_rfl) (fun _ _ _ h => h) (Or.inl ⟨by rfl, _⟩) (by assumption) _
  rotate_left
  · (intro wS hSw; (try dsimp only at hSw); go_simp; try with_reducible rfl)
  try simp only [Act.put, List.setIfInBounds_toArray, List.set_cons_zero, List.set_cons_succ]
  refine' wpAnyH_take (i := 1) (oi := { dst := Option.some 20, op := Op.load 9 (Operand.tmp 19), type := 9, pos := "text.go:54", after := #[{ on := 0, ground := Ground.data }], guard := Option.none }) rfl (by kernel_rfl) (by kernel_rfl) (by kernel_rfl) (fun _ _ _ h => h) (Or.inl ⟨by rfl, _⟩) (by assumption) _
  rotate_left
  · (intro wS hSw; (try dsimp only at hSw); go_simp; try with_reducible rfl)
  try simp only [Act.put, List.setIfInBounds_toArray, List.set_cons_zero, List.set_cons_succ]
  refine' wpAnyH_take (i := 2) (oi := { dst := Option.some 21, op := Op.fieldAddr 43 (Operand.tmp 3) 1, type := 0, pos := "text.go:54", after := #[], guard := Option.none }) rfl (by kernel_rfl) (by kernel_rfl) (by kernel_rfl) (fun _ _ _ h => h) (Or.inl ⟨by rfl, _⟩) (by assumption) _
  rotate_left
  · (intro wS hSw; (try dsimp only at hSw); go_simp; try with_reducible rfl)
  try simp only [Act.put, List.setIfInBounds_toArray, List.set_cons_zero, List.set_cons_succ]
  refine' wpAnyH_take (i := 3) (oi := { dst := Option.some 22, op := Op.load 23 (Operand.tmp 21), type := 23, pos := "text.go:54", after := #[{ on := 2, ground := Ground.data }], guard := Option.none }) rfl (by kernel_rfl) (by kernel_rfl) (by kernel_rfl) (fun _ _ _ h => h) (Or.inl ⟨by rfl, _⟩) (by assumption) _
  rotate_left
  · (intro wS hSw; (try dsimp only at hSw); go_simp; try with_reducible rfl)
  try simp only [Act.put, List.setIfInBounds_toArray, List.set_cons_zero, List.set_cons_succ]
  refine wpAnyH_ready (rs := [4]) (by kernel_rfl) (by simp) ?_
  refine AllReadyH.cons (o := { dst := Option.some 23, op := Op.call { callee := Callee.value (Operand.func 24), args := #[Operand.tmp 22], argTypes := #[23] }, type := 23, pos := "text.go:54", after := #[{ on := 3, ground := Ground.data }], guard := Option.none }) rfl (fun K hK => ?_) AllReadyH.nil
  go_simp
  (go_at_call 24; refine (lent_any _ lB _ hHeld.2.2.2.2.rb b1).mono ?_; rintro e w4 ⟨g4, c4, rfl, hO4, hb4⟩; have R4 := Lib.hid (lent_row hO4))
  refine hK.out _ _ ?_ (fun hHeld => ?_)
  · exact (hHeld.2.2.2.2.below hb4).full
  clear hK K
  try simp only [Act.put, List.setIfInBounds_toArray, List.set_cons_zero, List.set_cons_succ]
  refine wpAnyH_ready (rs := [5]) (by kernel_rfl) (by simp) ?_
  refine AllReadyH.cons (o := { dst := Option.some 24, op := Op.call { callee := Callee.value (Operand.func 33), args := #[Operand.tmp 20, Operand.tmp 23], argTypes := #[9, 23] }, type := 44, pos := "text.go:54", after := #[{ on := 1, ground := Ground.data }, { on := 4, ground := Ground.data }, { on := 4, ground := Ground.chain }], guard := Option.none }) rfl (fun K hK => ?_) AllReadyH.nil
  go_simp
  (go_at_call 33; refine (Text_all tB _ lB _ R4 b3 b2).mono ?_; rintro e w5 ⟨rfl, hb5⟩)
  refine hK.out _ _ ?_ (fun hHeld => ?_)
  · exact (hHeld.2.2.2.2.below hb5).full
  clear hK K
  try simp only [Act.put, List.setIfInBounds_toArray, List.set_cons_zero, List.set_cons_succ]
  refine' wpAnyH_take (i := 6) (oi := { dst := Option.some 18, op := Op.move (Operand.tmp 24), type := 44, pos := "text.go:54", after := #[{ on := 5, ground := Ground.data }], guard := Option.none }) rfl (by kernel_rfl) (by kernel_rfl) (by kernel_rfl) (fun _ _ _ h => h) (Or.inl ⟨by rfl, _⟩) (by assumption) _
  rotate_left
  · (intro wS hSw; (try dsimp only at hSw); go_simp; try with_reducible rfl)
  try simp only [Act.put, List.setIfInBounds_toArray, List.set_cons_zero, List.set_cons_succ]
  refine' wpAnyH_take (i := 7) (oi := { dst := Option.some 25, op := Op.extract (Operand.tmp 18) 0, type := 9, pos := "text.go:54", after := #[{ on := 6, ground := Ground.data }], guard := Option.none }) rfl (by kernel_rfl) (by kernel_rfl) (by kernel_rfl) (fun _ _ _ h => h) (Or.inl ⟨by rfl, _⟩) (by assumption) _
  rotate_left
  · (intro wS hSw; (try dsimp only at hSw); go_simp; try with_reducible rfl)
  try simp only [Act.put, List.setIfInBounds_toArray, List.set_cons_zero, List.set_cons_succ]
  refine' wpAnyH_take (i := 8) (oi := { dst := Option.some 26, op := Op.extract (Operand.tmp 18) 1, type := 31, pos := "text.go:54", after := #[{ on := 6, ground := Ground.data }, { on := 9, ground := Ground.gcOnly Departure.lateStores }], guard := Option.none }) rfl (by kernel_rfl) (by kernel_rfl) (by kernel_rfl) (fun _ _ _ h => h) (Or.inl ⟨by rfl, _⟩) (by assumption) _
  rotate_left
  · (intro wS hSw; (try dsimp only at hSw); go_simp; try with_reducible rfl)
  try simp only [Act.put, List.setIfInBounds_toArray, List.set_cons_zero, List.set_cons_succ]
  refine' wpAnyH_take (i := 9) (oi := { dst := Option.some 7, op := Op.assign (Operand.tmp 25), type := 9, pos := "text.go:54", after := #[{ on := 7, ground := Ground.data }, { on := 5, ground := Ground.chain }, { on := 0, ground := Ground.phase }, { on := 1, ground := Ground.phase }, { on := 2, ground := Ground.phase }, { on := 3, ground := Ground.phase }, { on := 4, ground := Ground.phase }, { on := 5, ground := Ground.phase }, { on := 6, ground := Ground.phase }, { on := 7, ground := Ground.phase }, { on := 8, ground := Ground.textOnly Departure.lateStores }], guard := Option.none }) rfl (by kernel_rfl) (by kernel_rfl) (by kernel_rfl) (fun _ _ _ h => h) (Or.inl ⟨by rfl, _⟩) (by assumption) _
  rotate_left
  · (intro wS hSw; (try dsimp only at hSw); go_simp; try with_reducible rfl)
  try simp only [Act.put, List.setIfInBounds_toArray, List.set_cons_zero, List.set_cons_succ]
  refine' wpAnyH_take (i := 10) (oi := { dst := Option.some 8, op := Op.assign (Operand.tmp 26), type := 31, pos := "text.go:54", after := #[{ on := 8, ground := Ground.data }, { on := 9, ground := Ground.chain }, { on := 0, ground := Ground.phase }, { on := 1, ground := Ground.phase }, { on := 2, ground := Ground.phase }, { on := 3, ground := Ground.phase }, { on := 4, ground := Ground.phase }, { on := 5, ground := Ground.phase }, { on := 6, ground := Ground.phase }, { on := 7, ground := Ground.phase }, { on := 8, ground := Ground.phase }, { on := 9, ground := Ground.phase }], guard := Option.none }) rfl (by kernel_rfl) (by kernel_rfl) (by kernel_rfl) (fun _ _ _ h => h) (Or.inl ⟨by rfl, _⟩) (by assumption) _
  rotate_left
  · (intro wS hSw; (try dsimp only at hSw); go_simp; try with_reducible rfl)
  try simp only [Act.put, List.setIfInBounds_toArray, List.set_cons_zero, List.set_cons_succ]
  refine wpAnyH_done (by kernel_rfl) ?_ _
  have T5 := Lib.hid hHeld.2.2.2.2
  clear hHeld hb4 hb5 hO4 R4 T3
  go_upto_region 3 with fail
  obtain ⟨S, hS⟩ : ∃ S, textB tA lA = S := ⟨_, rfl⟩
  obtain ⟨T, hT⟩ : ∃ T, textB tB lB = T := ⟨_, rfl⟩
  obtain ⟨eA, hA⟩ : ∃ e, textE tA = e := ⟨_, rfl⟩
  obtain ⟨eB, hB⟩ : ∃ e, textE tB = e := ⟨_, rfl⟩
  rw [hS, hT] at Hinj
  obtain ⟨bA, hbA⟩ : ∃ b, badTag tA = b := ⟨_, rfl⟩
  obtain ⟨bB, hbB⟩ : ∃ b, badTag tB = b := ⟨_, rfl⟩
  rw [hS, hT, hA, hB]
  rw [hbA, hbB] at Hinj
  have HbA := Lib.hid hbA
  have HbB := Lib.hid hbB
  have hA2 : eA = bif bA then 20 else 0 := by rw [← hA, textE, hbA]
  have hB2 : eB = bif bB then 20 else 0 := by rw [← hB, textE, hbB]
  have HS := Lib.hid (show tA = tB → lA = lB → S = T from fun h1 h2 => by rw [← hS, ← hT, h1, h2])
  clear hA hB hS hT hbA hbB
  obtain ⟨f0, f1, f2, f3, _⟩ := T5.out.full
  cases bA <;> cases bB <;> dsimp only [cond_true, cond_false] at hA2 hB2 <;> subst hA2 <;> subst hB2
  · go_upto_region 7 with (first
      | (go_at_call 34; (with_reducible refine (mayTag_any tA vA _ a4).mono ?_); rintro e w6 ⟨rfl, hb6⟩; rw [HbA.out]; have T6 := Lib.hid (T5.out.below hb6); obtain ⟨g0, g1, g2, g3, _⟩ := T6.out.full)
      | (go_at_call 34; (with_reducible refine (mayTag_any tB vB _ b4).mono ?_); rintro e w7 ⟨rfl, hb7⟩; rw [HbB.out]; have T7 := Lib.hid (T6.out.below hb7); obtain ⟨h0, h1, h2, h3, _⟩ := T7.out.full)
      | (go_at_call 23; refine (awake_any _).mono ?_; rintro e w9 ⟨rfl, hb9⟩))
    have hinj : S = T → tA = tB ∧ lA = lB := fun h => Hinj.out (by first | trivial | rfl) (by first | trivial | rfl) h
    have r1 := T7.out.ra
    have r2 := T7.out.rb
    have R1 := Lib.hid r1
    have R2 := Lib.hid r2
    clear r1 r2
    by_cases ht : tA = tB
    · have e1 : (tA.toList == tB.toList) = true := by rw [ht]; exact beq_self_eq_true _
      by_cases hl : lA = lB
      · have hST := HS.out ht hl
        have e2 : (S.toList == T.toList) = true := by rw [hST]; exact beq_self_eq_true _
        have R3 : Hid (StrRow w7 vB lA) := by rw [hl]; exact R2
        clear hinj hST ht hl
        go_wp2_with (first
          | (go_at_call 35; refine (same_same _ _ lA _ R1.out R3.out a2).mono ?_; rintro e w8 ⟨rfl, hb8⟩)
          | (go_at_call 23; refine (awake_any _).mono ?_; rintro e w9 ⟨rfl, hb9⟩))
        go_ret
        have z7 := T7.out.bel.size
        have z8 := hb8.size
        exact ⟨rfl, (T7.out.bel.trans (hb8.mono z7)).trans (hb9.mono (by omega))⟩
      · have hST : S ≠ T := fun h => hl (hinj h).2
        have e2 := bne_bytes hST
        have hd : decide (lA = lB) = false := decide_eq_false hl
        have Hd := Lib.hid hd
        clear hinj hST ht hl hd
        go_wp2_with (first
          | (go_at_call 35; refine (same_any _ _ lA lB _ R1.out R2.out a2 b2).mono ?_; rintro e w8 ⟨rfl, hb8⟩; rw [Hd.out])
          | (go_at_call 23; refine (awake_any _).mono ?_; rintro e w9 ⟨rfl, hb9⟩))
        go_ret
        have z7 := T7.out.bel.size
        have z8 := hb8.size
        exact ⟨rfl, (T7.out.bel.trans (hb8.mono z7)).trans (hb9.mono (by omega))⟩
    · have hST : S ≠ T := fun h => ht (hinj h).1
      have e2 := bne_bytes hST
      have e1 := bne_bytes ht
      clear hinj hST ht
      go_wp2_with (go_at_call 23; refine (awake_any _).mono ?_; rintro e w9 ⟨rfl, hb9⟩)
      go_ret
      exact ⟨rfl, T7.out.bel.trans (hb9.mono T7.out.bel.size)⟩
  · go_wp2_with (first
      | (go_at_call 34; (with_reducible refine (mayTag_any tA vA _ a4).mono ?_); rintro e w6 ⟨rfl, hb6⟩; rw [HbA.out]; have T6 := Lib.hid (T5.out.below hb6); obtain ⟨g0, g1, g2, g3, _⟩ := T6.out.full)
      | (go_at_call 34; (with_reducible refine (mayTag_any tB vB _ b4).mono ?_); rintro e w7 ⟨rfl, hb7⟩; rw [HbB.out]; have T7 := Lib.hid (T6.out.below hb7); obtain ⟨h0, h1, h2, h3, _⟩ := T7.out.full)
      | (go_at_call 23; refine (awake_any _).mono ?_; rintro e w9 ⟨rfl, hb9⟩))
    go_ret
    exact ⟨rfl, T7.out.bel.trans (hb9.mono T7.out.bel.size)⟩
  · go_wp2_with (first
      | (go_at_call 34; (with_reducible refine (mayTag_any tA vA _ a4).mono ?_); rintro e w6 ⟨rfl, hb6⟩; rw [HbA.out]; have T6 := Lib.hid (T5.out.below hb6); obtain ⟨g0, g1, g2, g3, _⟩ := T6.out.full)
      | (go_at_call 34; (with_reducible refine (mayTag_any tB vB _ b4).mono ?_); rintro e w7 ⟨rfl, hb7⟩; rw [HbB.out]; have T7 := Lib.hid (T6.out.below hb7); obtain ⟨h0, h1, h2, h3, _⟩ := T7.out.full)
      | (go_at_call 23; refine (awake_any _).mono ?_; rintro e w9 ⟨rfl, hb9⟩))
    go_ret
    exact ⟨rfl, T7.out.bel.trans (hb9.mono T7.out.bel.size)⟩
  · go_wp2_with (first
      | (go_at_call 34; (with_reducible refine (mayTag_any tA vA _ a4).mono ?_); rintro e w6 ⟨rfl, hb6⟩; rw [HbA.out]; have T6 := Lib.hid (T5.out.below hb6); obtain ⟨g0, g1, g2, g3, _⟩ := T6.out.full)
      | (go_at_call 34; (with_reducible refine (mayTag_any tB vB _ b4).mono ?_); rintro e w7 ⟨rfl, hb7⟩; rw [HbB.out]; have T7 := Lib.hid (T6.out.below hb7); obtain ⟨h0, h1, h2, h3, _⟩ := T7.out.full)
      | (go_at_call 23; refine (awake_any _).mono ?_; rintro e w9 ⟨rfl, hb9⟩))
    go_ret
    exact ⟨rfl, T7.out.bel.trans (hb9.mono T7.out.bel.size)⟩
end Go.Proofs.Ytmjikebbknjahaa
