/-
  Blocks: the reference's Blocks, Sheet; the law's blocks.Read; page.Over.
-/
import Derived.Test.YtfhfeaipdmcekaaPageL6
namespace Go.Proofs.Ytfhfeaipdmcekaa
open Go.RowKit Hw
set_option linter.unusedVariables false

/-- one block of a list -/
structure Blk where
  no : Int
  text : ByteArray
  code : Int
def BlkOk (x : Blk) : Prop := (0 ≤ x.no ∧ x.no < 4294967296) ∧ x.text.size ≤ 9223372036854775807 ∧ (-9223372036854775808 ≤ x.code ∧ x.code ≤ 9223372036854775807)
/-- a slice of blocks -/
def BlkRow (w : World) (v : Value) (l : List Blk) : Prop :=
  l.length ≤ 9223372036854775807 ∧ (∀ x ∈ l, BlkOk x) ∧ ∃ a c, v = .slice a l.length c ∧ (0 < l.length → ∃ b o, a = some ⟨b, o, none⟩ ∧ ∀ i (h : i < l.length),
    w.cell? ⟨b, o + i * 3, none⟩ = some (.int .u32 l[i].no) ∧ w.cell? ⟨b, o + i * 3 + 1, none⟩ = some (.string l[i].text) ∧ w.cell? ⟨b, o + i * 3 + 2, none⟩ = some (.int .i64 l[i].code))
theorem BlkRow.same {w w' : World} {v : Value} {l : List Blk} (h : BlkRow w v l) (hk : ∀ a v, w.cell? a = some v → w'.cell? a = some v) : BlkRow w' v l := by
  obtain ⟨h0, h1, a, c, h2, h3⟩ := h
  refine ⟨h0, h1, a, c, h2, fun hl => ?_⟩
  obtain ⟨b, o, ha, hc⟩ := h3 hl
  exact ⟨b, o, ha, fun i hi => ⟨hk _ _ (hc i hi).1, hk _ _ (hc i hi).2.1, hk _ _ (hc i hi).2.2⟩⟩
theorem BlkRow.below {w w' : World} {v : Value} {l : List Blk} (h : BlkRow w v l) (hb : Below w.heap.size w w') : BlkRow w' v l :=
  h.same fun a v hv => (hb.cell (p := a) (World.block_lt_of_cell? w _ hv)).trans hv

/-- what blocks answer of a number -/
def blkFind (no : Int) : List Blk → ByteArray × Int
  | [] => (⟨#[]⟩, 41)
  | x :: l => if x.no = no then (x.text, x.code) else blkFind no l

set_option maxHeartbeats 1000000 in
theorem Blocks_any (v : Value) (l : List Blk) (no : Int) (w : World) (h : BlkRow w v l) :
    Calls Try.prog 58 #[v, .int .u32 no] w fun e w' => e = .returned (.tuple #[.string (blkFind no l).1, .int .i64 (blkFind no l).2]) ∧ Below w.heap.size w w' := by
  obtain ⟨h0, h1, a, c, rfl, h3⟩ := h
  have H3 := Lib.hid h3
  have H1 := Lib.hid h1
  clear h3 h1
  go_enter Try.func58, Try.ntmps58
  go_wp2
  go_loop [6] (fun i => ∃ (k : Nat), k ≤ l.length ∧ Hid (blkFind no (l.drop k) = blkFind no l) ∧ i = .int .i64 k) (fun i => l.length - (intOf i).toNat)
  case atStart => exact ⟨0, Nat.zero_le _, rfl, rfl⟩
  case round =>
    obtain ⟨k, hk, HF, rfl⟩ := hrel
    by_cases hlt : k < l.length
    · obtain ⟨b, o, rfl, hc⟩ := H3.out (by omega)
      obtain ⟨c0, c1, c2⟩ := hc k hlt
      obtain ⟨x, hx⟩ : ∃ x, l[k] = x := ⟨_, rfl⟩
      rw [hx] at c0 c1 c2
      have hd : l.drop k = x :: l.drop (k + 1) := by rw [List.drop_eq_getElem_cons hlt, hx]
      have HD : Hid (blkFind no l = if x.no = no then (x.text, x.code) else blkFind no (l.drop (k + 1))) := by show _ = _; rw [← HF.out, hd]; rfl
      clear hd hx hc
      by_cases hno : x.no = no
      · have d0 : (x.no == no) = true := by simpa using hno
        have HR : Hid (blkFind no l = (x.text, x.code)) := by show _ = _; rw [HD.out, if_pos hno]
        clear hno
        go_wp2_with fail
        have hkb : (0 : Int) ≤ (k : Int) ∧ (k : Int) < (l.length : Int) := by omega
        refine wp_region_held_drew (S := fun W => W.cell? ⟨b, o + k * 3 + 1, none⟩ = some (.string x.text) ∧ W.cell? ⟨b, o + k * 3 + 2, none⟩ = some (.int .i64 x.code)) (by kernel_rfl) ⟨c1, c2⟩ (fun hHeld => ?_)
        refine' wpAnyH_take (i := 0) (oi := { dst := Option.some 20, op := Op.move (Operand.tmp 0), type := 49, pos := "ref.go:114", after := #[], guard := Option.none }) rfl (by kernel_rfl) (by kernel_rfl) (by kernel_rfl) (fun _ _ _ h => h) (Or.inl ⟨by rfl, _⟩) (by assumption) _
        rotate_left
        · (intro wS hSw; (try dsimp only at hSw); go_simp; try with_reducible rfl)
        try simp only [Act.put, List.setIfInBounds_toArray, List.set_cons_zero, List.set_cons_succ]
        refine' wpAnyH_take (i := 1) (oi := { dst := Option.some 21, op := Op.move (Operand.tmp 6), type := 3, pos := "ref.go:114", after := #[], guard := Option.none }) rfl (by kernel_rfl) (by kernel_rfl) (by kernel_rfl) (fun _ _ _ h => h) (Or.inl ⟨by rfl, _⟩) (by assumption) _
        rotate_left
        · (intro wS hSw; (try dsimp only at hSw); go_simp; try with_reducible rfl)
        try simp only [Act.put, List.setIfInBounds_toArray, List.set_cons_zero, List.set_cons_succ]
        refine' wpAnyH_take (i := 2) (oi := { dst := Option.some 22, op := Op.indexAddr 49 (Operand.tmp 20) (Operand.tmp 21), type := 0, pos := "ref.go:114", after := #[{ on := 0, ground := Ground.data }, { on := 1, ground := Ground.data }], guard := Option.none }) rfl (by kernel_rfl) (by kernel_rfl) (by kernel_rfl) (fun _ _ _ h => h) (Or.inl ⟨by rfl, _⟩) (by assumption) _
        rotate_left
        · (intro wS hSw; (try dsimp only at hSw); go_simp; try with_reducible rfl)
        try simp only [Act.put, List.setIfInBounds_toArray, List.set_cons_zero, List.set_cons_succ]
        refine' wpAnyH_take (i := 3) (oi := { dst := Option.some 23, op := Op.fieldAddr 67 (Operand.tmp 22) 1, type := 0, pos := "ref.go:114", after := #[{ on := 2, ground := Ground.data }], guard := Option.none }) rfl (by kernel_rfl) (by kernel_rfl) (by kernel_rfl) (fun _ _ _ h => h) (Or.inl ⟨by rfl, _⟩) (by assumption) _
        rotate_left
        · (intro wS hSw; (try dsimp only at hSw); go_simp; try with_reducible rfl)
        try simp only [Act.put, List.setIfInBounds_toArray, List.set_cons_zero, List.set_cons_succ]
        refine' wpAnyH_take (i := 4) (oi := { dst := Option.some 24, op := Op.load 9 (Operand.tmp 23), type := 9, pos := "ref.go:114", after := #[{ on := 3, ground := Ground.data }], guard := Option.none }) rfl (by kernel_rfl) (by kernel_rfl) (by kernel_rfl) (fun _ _ _ h => h) (Or.inl ⟨by rfl, _⟩) (by assumption) _
        rotate_left
        · (intro wS hSw; (try dsimp only at hSw); go_simp; try with_reducible rfl)
        try simp only [Act.put, List.setIfInBounds_toArray, List.set_cons_zero, List.set_cons_succ]
        refine' wpAnyH_take (i := 5) (oi := { dst := Option.some 25, op := Op.move (Operand.tmp 0), type := 49, pos := "ref.go:114", after := #[{ on := 10, ground := Ground.gcOnly Departure.lateStores }], guard := Option.none }) rfl (by kernel_rfl) (by kernel_rfl) (by kernel_rfl) (fun _ _ _ h => h) (Or.inl ⟨by rfl, _⟩) (by assumption) _
        rotate_left
        · (intro wS hSw; (try dsimp only at hSw); go_simp; try with_reducible rfl)
        try simp only [Act.put, List.setIfInBounds_toArray, List.set_cons_zero, List.set_cons_succ]
        refine' wpAnyH_take (i := 6) (oi := { dst := Option.some 26, op := Op.move (Operand.tmp 6), type := 3, pos := "ref.go:114", after := #[{ on := 10, ground := Ground.gcOnly Departure.lateStores }], guard := Option.none }) rfl (by kernel_rfl) (by kernel_rfl) (by kernel_rfl) (fun _ _ _ h => h) (Or.inl ⟨by rfl, _⟩) (by assumption) _
        rotate_left
        · (intro wS hSw; (try dsimp only at hSw); go_simp; try with_reducible rfl)
        try simp only [Act.put, List.setIfInBounds_toArray, List.set_cons_zero, List.set_cons_succ]
        refine' wpAnyH_take (i := 7) (oi := { dst := Option.some 27, op := Op.indexAddr 49 (Operand.tmp 25) (Operand.tmp 26), type := 0, pos := "ref.go:114", after := #[{ on := 5, ground := Ground.data }, { on := 6, ground := Ground.data }, { on := 10, ground := Ground.gcOnly Departure.lateStores }], guard := Option.none }) rfl (by kernel_rfl) (by kernel_rfl) (by kernel_rfl) (fun _ _ _ h => h) (Or.inl ⟨by rfl, _⟩) (by assumption) _
        rotate_left
        · (intro wS hSw; (try dsimp only at hSw); go_simp; try with_reducible rfl)
        try simp only [Act.put, List.setIfInBounds_toArray, List.set_cons_zero, List.set_cons_succ]
        refine' wpAnyH_take (i := 8) (oi := { dst := Option.some 28, op := Op.fieldAddr 67 (Operand.tmp 27) 2, type := 0, pos := "ref.go:114", after := #[{ on := 7, ground := Ground.data }, { on := 10, ground := Ground.gcOnly Departure.lateStores }], guard := Option.none }) rfl (by kernel_rfl) (by kernel_rfl) (by kernel_rfl) (fun _ _ _ h => h) (Or.inl ⟨by rfl, _⟩) (by assumption) _
        rotate_left
        · (intro wS hSw; (try dsimp only at hSw); go_simp; try with_reducible rfl)
        try simp only [Act.put, List.setIfInBounds_toArray, List.set_cons_zero, List.set_cons_succ]
        refine' wpAnyH_take (i := 9) (oi := { dst := Option.some 29, op := Op.load 33 (Operand.tmp 28), type := 33, pos := "ref.go:114", after := #[{ on := 8, ground := Ground.data }, { on := 10, ground := Ground.gcOnly Departure.lateStores }], guard := Option.none }) rfl (by kernel_rfl) (by kernel_rfl) (by kernel_rfl) (fun _ _ _ h => h) (Or.inl ⟨by rfl, _⟩) (by assumption) _
        rotate_left
        · (intro wS hSw; (try dsimp only at hSw); go_simp; try with_reducible rfl)
        try simp only [Act.put, List.setIfInBounds_toArray, List.set_cons_zero, List.set_cons_succ]
        refine' wpAnyH_take (i := 10) (oi := { dst := Option.some 4, op := Op.assign (Operand.tmp 24), type := 9, pos := "ref.go:114", after := #[{ on := 4, ground := Ground.data }, { on := 0, ground := Ground.phase }, { on := 1, ground := Ground.phase }, { on := 2, ground := Ground.phase }, { on := 3, ground := Ground.phase }, { on := 4, ground := Ground.phase }, { on := 5, ground := Ground.textOnly Departure.lateStores }, { on := 6, ground := Ground.textOnly Departure.lateStores }, { on := 7, ground := Ground.textOnly Departure.lateStores }, { on := 8, ground := Ground.textOnly Departure.lateStores }, { on := 9, ground := Ground.textOnly Departure.lateStores }], guard := Option.none }) rfl (by kernel_rfl) (by kernel_rfl) (by kernel_rfl) (fun _ _ _ h => h) (Or.inl ⟨by rfl, _⟩) (by assumption) _
        rotate_left
        · (intro wS hSw; (try dsimp only at hSw); go_simp; try with_reducible rfl)
        try simp only [Act.put, List.setIfInBounds_toArray, List.set_cons_zero, List.set_cons_succ]
        refine' wpAnyH_take (i := 11) (oi := { dst := Option.some 5, op := Op.assign (Operand.tmp 29), type := 33, pos := "ref.go:114", after := #[{ on := 9, ground := Ground.data }, { on := 10, ground := Ground.chain }, { on := 0, ground := Ground.phase }, { on := 1, ground := Ground.phase }, { on := 2, ground := Ground.phase }, { on := 3, ground := Ground.phase }, { on := 4, ground := Ground.phase }, { on := 5, ground := Ground.phase }, { on := 6, ground := Ground.phase }, { on := 7, ground := Ground.phase }, { on := 8, ground := Ground.phase }, { on := 9, ground := Ground.phase }, { on := 10, ground := Ground.phase }], guard := Option.none }) rfl (by kernel_rfl) (by kernel_rfl) (by kernel_rfl) (fun _ _ _ h => h) (Or.inl ⟨by rfl, _⟩) (by assumption) _
        rotate_left
        · (intro wS hSw; (try dsimp only at hSw); go_simp; try with_reducible rfl)
        try simp only [Act.put, List.setIfInBounds_toArray, List.set_cons_zero, List.set_cons_succ]
        refine wpAnyH_done (by kernel_rfl) ?_ _
        go_wp2_with fail
        go_ret2
        exact ⟨by rw [HR.out]; rfl, (Below.refl _ _).drew⟩
      · have d0 : (x.no == no) = false := by simpa using hno
        have HR : Hid (blkFind no (l.drop (k + 1)) = blkFind no l) := by show _ = _; rw [HD.out, if_neg hno]
        clear hno
        go_wp2
        go_round
        case rel => exact ⟨k + 1, by omega, HR, by go_num⟩
        case measure => simp [intOf]; omega
    · have hn : Hid (blkFind no l = (⟨#[]⟩, 41)) := by
        show _ = _
        rw [← HF.out, List.drop_eq_nil_of_le (by omega)]
        rfl
      go_wp2
      go_ret2
      exact ⟨by rw [hn.out]; rfl, Below.refl _ _⟩

/-- page.Over -/
theorem Over_nil (a b : Int) (m : Bool) (w : World) (hm : mayB a b = m) : Calls Try.prog 27 #[.agg #[.int .i64 a, .int .i64 b], .nilIface] w fun e w' =>
    e = .returned (.tuple #[.pointer none, .int .i64 (if m = true then 1 else 2)]) ∧ Below w.heap.size w w' := by
  have B0 := Lib.hid ((Below.refl w.heap.size w).alloc (Nat.le_refl _) (.cells #[.int .i64 a, .int .i64 b] 23))
  have HM := Lib.hid (May_any a b)
  rw [hm] at HM
  clear hm
  cases m
  · go_enter Try.func27, Try.ntmps27
    go_wp2_with fail
    refine (HM.out _).mono ?_
    rintro e w1 ⟨rfl, hb1⟩
    have B1 := Lib.hid (B0.out.trans (hb1.mono (by simp only [World.size_alloc]; omega)))
    go_wp2_with fail
    go_ret2
    exact ⟨rfl, B1.out⟩
  · go_enter Try.func27, Try.ntmps27
    go_wp2_with fail
    refine (HM.out _).mono ?_
    rintro e w1 ⟨rfl, hb1⟩
    have B1 := Lib.hid (B0.out.trans (hb1.mono (by simp only [World.size_alloc]; omega)))
    go_wp2_with fail
    go_ret2
    exact ⟨rfl, B1.out⟩
theorem Over_no (a b : Int) (t : TypeId) (u : Value) (w : World) (hm : mayB a b = false) : Calls Try.prog 27 #[.agg #[.int .i64 a, .int .i64 b], .iface t u] w fun e w' =>
    e = .returned (.tuple #[.pointer none, .int .i64 2]) ∧ Below w.heap.size w w' := by
  have B0 := Lib.hid ((Below.refl w.heap.size w).alloc (Nat.le_refl _) (.cells #[.int .i64 a, .int .i64 b] 23))
  have HM := Lib.hid (May_any a b)
  rw [hm] at HM
  clear hm
  go_enter Try.func27, Try.ntmps27
  go_wp2_with fail
  refine (HM.out _).mono ?_
  rintro e w1 ⟨rfl, hb1⟩
  have B1 := Lib.hid (B0.out.trans (hb1.mono (by simp only [World.size_alloc]; omega)))
  go_wp2_with fail
  go_ret2
  exact ⟨rfl, B1.out⟩
theorem Over_some (a b : Int) (t : TypeId) (u : Value) (w : World) (hm : mayB a b = true) : Calls Try.prog 27 #[.agg #[.int .i64 a, .int .i64 b], .iface t u] w fun e w' =>
    ∃ S, e = .returned (.tuple #[.pointer (some ⟨S, 0, none⟩), .int .i64 0]) ∧ w.heap.size < S ∧ w'.heap[S]? = some (.cells #[.iface t u, .int .i64 a, .int .i64 b] 83 (0, 0)) ∧ Below w.heap.size w w' := by
  have B0 := Lib.hid ((Below.refl w.heap.size w).alloc (Nat.le_refl _) (.cells #[.int .i64 a, .int .i64 b] 23))
  have F0 := Lib.hid (heap_new w (.cells #[.int .i64 a, .int .i64 b] 23))
  have HM := Lib.hid (May_any a b)
  rw [hm] at HM
  clear hm
  go_enter Try.func27, Try.ntmps27
  go_wp2_with fail
  refine (HM.out _).mono ?_
  rintro e w1 ⟨rfl, hb1⟩
  have B1 := Lib.hid (B0.out.trans (hb1.mono (by simp only [World.size_alloc]; omega)))
  have F1 := Lib.hid (heap_below F0.out hb1 (by simp only [World.size_alloc]; omega))
  have f0 : w1.cell? ⟨w.heap.size, 0, none⟩ = some (.int .i64 a) := by rw [heap_cell F1.out]; rfl
  have f1 : w1.cell? ⟨w.heap.size, 1, none⟩ = some (.int .i64 b) := by rw [heap_cell F1.out]; rfl
  have hz := heap_lt F1.out
  clear hb1
  go_wp2_with fail
  go_ret2
  exact ⟨w1.heap.size, rfl, by omega, heap_new _ _, B1.out.alloc (by omega) _⟩
/-- the reference's Sheet: its value -/
def sheetV (a b no : Int) (l : List Blk) : Value :=
  if namedB no = false then .tuple #[.agg #[.int .u8 0, .int .u32 0, .int .u64 0, .string ⟨#[]⟩], .int .i64 2]
  else if (blkFind no l).2 ≠ 0 then .tuple #[.agg #[.int .u8 0, .int .u32 0, .int .u64 0, .string ⟨#[]⟩], .int .i64 (blkFind no l).2]
  else openV a b no (blkFind no l).1

theorem blkFind_ok (no : Int) (l : List Blk) (h : ∀ x ∈ l, BlkOk x) : (blkFind no l).1.size ≤ 9223372036854775807 := by
  induction l with
  | nil => show (⟨#[]⟩ : ByteArray).size ≤ _; decide
  | cons x l ih =>
    unfold blkFind
    split
    · exact (h x (by simp)).2.1
    · exact ih (fun y hy => h y (by simp [hy]))

set_option maxHeartbeats 2000000 in
theorem Sheet_any (a b no : Int) (v : Value) (l : List Blk) (w : World) (ha : -9223372036854775808 ≤ a ∧ a ≤ 9223372036854775807) (hno : 0 ≤ no ∧ no < 4294967296) (hl : BlkRow w v l) :
    Calls Try.prog 29 #[.agg #[.int .i64 a, .int .i64 b], v, .int .u32 no] w fun e w' => e = .returned (sheetV a b no l) ∧ Below w.heap.size w w' := by
  have F0 : Hid (((w.alloc (.cells #[.int .i64 a, .int .i64 b] 23)).alloc (.cells #[.int .u8 0, .int .u32 0, .int .u64 0, .string ⟨#[]⟩] 28)).heap[w.heap.size]? = some (.cells #[.int .i64 a, .int .i64 b] 23 (0, 0))) := Lib.hid (heap_alloc (heap_new _ _))
  have R0 : Hid (((w.alloc (.cells #[.int .i64 a, .int .i64 b] 23)).alloc (.cells #[.int .u8 0, .int .u32 0, .int .u64 0, .string ⟨#[]⟩] 28)).heap[w.heap.size + 1]? = some (.cells #[.int .u8 0, .int .u32 0, .int .u64 0, .string ⟨#[]⟩] 28 (0, 0))) := by
    have := heap_new (w.alloc (.cells #[.int .i64 a, .int .i64 b] 23)) (.cells #[.int .u8 0, .int .u32 0, .int .u64 0, .string ⟨#[]⟩] 28)
    exact Lib.hid (by simpa only [World.size_alloc] using this)
  have B0 : Hid (Below w.heap.size w ((w.alloc (.cells #[.int .i64 a, .int .i64 b] 23)).alloc (.cells #[.int .u8 0, .int .u32 0, .int .u64 0, .string ⟨#[]⟩] 28))) := ((Below.refl _ _).alloc (Nat.le_refl _) _).alloc (by simp) _
  have hl0 := Lib.hid (hl.below B0.out)
  have HS := Lib.hid (blkFind_ok no l hl.2.1)
  by_cases hn : namedB no = false
  · have hv : Hid (sheetV a b no l = .tuple #[.agg #[.int .u8 0, .int .u32 0, .int .u64 0, .string ⟨#[]⟩], .int .i64 2]) := by show _ = _; rw [sheetV, if_pos hn]
    have hcase : no < 2 ∨ 2147483648 ≤ no := by simp [namedB] at hn; omega
    clear hn hl
    go_enter Try.func29, Try.ntmps29
    by_cases h2 : no < 2
    · have d1 : decide (no < 2) = true := by simpa using h2
      clear h2 hcase
      go_wp2_with fail
      exact bodyPost_ret (v := .tuple #[.agg #[.int .u8 0, .int .u32 0, .int .u64 0, .string ⟨#[]⟩], .int .i64 2]) (by simp [results, Try.results29, go_sem]) rfl ⟨by rw [hv.out], B0.out⟩
    · have d1 : decide (no < 2) = false := by simpa using h2
      have d2 : decide (2147483648 ≤ no) = true := by simp; omega
      clear h2 hcase
      go_wp2_with fail
      exact bodyPost_ret (v := .tuple #[.agg #[.int .u8 0, .int .u32 0, .int .u64 0, .string ⟨#[]⟩], .int .i64 2]) (by simp [results, Try.results29, go_sem]) rfl ⟨by rw [hv.out], B0.out⟩
  · have hb : 2 ≤ no ∧ no < 2147483648 := by simp [namedB] at hn; omega
    have d1 : decide (no < 2) = false := by simp; omega
    have d2 : decide (2147483648 ≤ no) = false := by simp; omega
    have HN := Lib.hid hn
    clear hn hl
    go_enter Try.func29, Try.ntmps29
    go_wp2_with fail
    refine (Blocks_any _ l no _ hl0.out).mono ?_
    rintro e w1 ⟨rfl, hb1⟩
    have F1 := Lib.hid (heap_below F0.out hb1 (by simp only [World.size_alloc]; omega))
    have R1 := Lib.hid (heap_below R0.out hb1 (by simp only [World.size_alloc]; omega))
    have B1 := Lib.hid (B0.out.trans (hb1.mono (by simp only [World.size_alloc]; omega)))
    have z1 := heap_lt R1.out
    clear hb1 F0 R0 B0 hl0
    obtain ⟨s, hs⟩ : ∃ s, (blkFind no l).1 = s := ⟨_, rfl⟩
    obtain ⟨c, hc⟩ : ∃ c, (blkFind no l).2 = c := ⟨_, rfl⟩
    rw [hs] at HS
    rw [hs, hc]
    have Hs := Lib.hid hs
    have Hc := Lib.hid hc
    clear hs hc
    obtain ⟨q0, q1, q2, q3, k0, k1, k2, k3⟩ := blk4 R1.out
    by_cases hc0 : c = 0
    · have d3 : (c != 0) = false := by rw [hc0]; rfl
      have hv : Hid (sheetV a b no l = openV a b no s) := by show _ = _; rw [sheetV, if_neg HN.out, Hc.out, if_neg (by rw [hc0]; simp), Hs.out]
      clear hc0
      have f0 : w1.cell? ⟨w.heap.size, 0, none⟩ = some (.int .i64 a) := by rw [heap_cell F1.out]; rfl
      have f1 : w1.cell? ⟨w.heap.size, 1, none⟩ = some (.int .i64 b) := by rw [heap_cell F1.out]; rfl
      go_wp2_with fail
      clear f0 f1 q0 q1 q2 q3 k0 k1 k2 k3
      obtain ⟨k, n, r, c1, t, hV, j1, j2, j3⟩ := openV_form a b no s
      clear j1 j2 j3
      have HO := Lib.hid (refOpen5_any a b no s)
      rw [hV] at HO
      refine (HO.out _ ha hno HS.out).mono ?_
      rintro e w2 ⟨rfl, hb2⟩
      have R2 := Lib.hid (heap_below R1.out hb2 z1)
      have B2 := Lib.hid (B1.out.trans (hb2.mono (by omega)))
      clear hb2
      obtain ⟨q0, q1, q2, q3, k0, k1, k2, k3⟩ := blk4 R2.out
      have HV := Lib.hid hV
      clear hV
      go_wp2_with fail
      refine wpDone (fun W4 e4 => ?_)
      obtain ⟨h3, hB3⟩ := blk4_set R2.out e4
      obtain ⟨z0, z1, z2, z3, _⟩ := blk4 h3
      exact bodyPost_ret (v := .tuple #[.agg #[.int .u8 k, .int .u32 n, .int .u64 r, .string t], .int .i64 c1]) (by simp [results, Try.results29, go_sem, z0, z1, z2, z3]) rfl ⟨by rw [hv.out, HV.out], B2.out.trans (hB3 _ (by omega))⟩
    · have d3 : (c != 0) = true := by rw [bne_iff_ne]; exact hc0
      have hv : Hid (sheetV a b no l = .tuple #[.agg #[.int .u8 0, .int .u32 0, .int .u64 0, .string ⟨#[]⟩], .int .i64 c]) := by show _ = _; rw [sheetV, if_neg HN.out, Hc.out, if_pos hc0]
      clear hc0
      go_wp2_with fail
      refine wpDone (fun W4 e4 => ?_)
      obtain ⟨h3, hB3⟩ := blk4_set R1.out e4
      obtain ⟨z0, z1, z2, z3, _⟩ := blk4 h3
      exact bodyPost_ret (v := .tuple #[.agg #[.int .u8 0, .int .u32 0, .int .u64 0, .string ⟨#[]⟩], .int .i64 c]) (by simp [results, Try.results29, go_sem, z0, z1, z2, z3]) rfl ⟨by rw [hv.out], B1.out.trans (hB3 _ (by omega))⟩
end Go.Proofs.Ytfhfeaipdmcekaa
