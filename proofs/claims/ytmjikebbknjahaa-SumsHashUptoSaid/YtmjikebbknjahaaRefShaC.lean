/-
  SHA-256 by the reference: the walks of table, By, Sum.
-/
import Derived.Test.YtmjikebbknjahaaRefShaB
import Derived.Test.YtmjikebbknjahaaAwakeS
namespace Go.Proofs.Ytmjikebbknjahaa
open Go.RowKit Go.Lib Hw
set_option linter.unusedVariables false

theorem bs_K (ρ : Operand → Value) (hρ : ∀ v, ρ (.const v) = v) (w : World) : (execOp ρ ({ dst := Option.some 2, op := Op.buildSlice 85 64 #[(0, Operand.const (Value.int IntKind.u32 1116352408)), (1, Operand.const (Value.int IntKind.u32 1899447441)), (2, Operand.const (Value.int IntKind.u32 3049323471)), (3, Operand.const (Value.int IntKind.u32 3921009573)), (4, Operand.const (Value.int IntKind.u32 961987163)), (5, Operand.const (Value.int IntKind.u32 1508970993)), (6, Operand.const (Value.int IntKind.u32 2453635748)), (7, Operand.const (Value.int IntKind.u32 2870763221)), (8, Operand.const (Value.int IntKind.u32 3624381080)), (9, Operand.const (Value.int IntKind.u32 310598401)), (10, Operand.const (Value.int IntKind.u32 607225278)), (11, Operand.const (Value.int IntKind.u32 1426881987)), (12, Operand.const (Value.int IntKind.u32 1925078388)), (13, Operand.const (Value.int IntKind.u32 2162078206)), (14, Operand.const (Value.int IntKind.u32 2614888103)), (15, Operand.const (Value.int IntKind.u32 3248222580)), (16, Operand.const (Value.int IntKind.u32 3835390401)), (17, Operand.const (Value.int IntKind.u32 4022224774)), (18, Operand.const (Value.int IntKind.u32 264347078)), (19, Operand.const (Value.int IntKind.u32 604807628)), (20, Operand.const (Value.int IntKind.u32 770255983)), (21, Operand.const (Value.int IntKind.u32 1249150122)), (22, Operand.const (Value.int IntKind.u32 1555081692)), (23, Operand.const (Value.int IntKind.u32 1996064986)), (24, Operand.const (Value.int IntKind.u32 2554220882)), (25, Operand.const (Value.int IntKind.u32 2821834349)), (26, Operand.const (Value.int IntKind.u32 2952996808)), (27, Operand.const (Value.int IntKind.u32 3210313671)), (28, Operand.const (Value.int IntKind.u32 3336571891)), (29, Operand.const (Value.int IntKind.u32 3584528711)), (30, Operand.const (Value.int IntKind.u32 113926993)), (31, Operand.const (Value.int IntKind.u32 338241895)), (32, Operand.const (Value.int IntKind.u32 666307205)), (33, Operand.const (Value.int IntKind.u32 773529912)), (34, Operand.const (Value.int IntKind.u32 1294757372)), (35, Operand.const (Value.int IntKind.u32 1396182291)), (36, Operand.const (Value.int IntKind.u32 1695183700)), (37, Operand.const (Value.int IntKind.u32 1986661051)), (38, Operand.const (Value.int IntKind.u32 2177026350)), (39, Operand.const (Value.int IntKind.u32 2456956037)), (40, Operand.const (Value.int IntKind.u32 2730485921)), (41, Operand.const (Value.int IntKind.u32 2820302411)), (42, Operand.const (Value.int IntKind.u32 3259730800)), (43, Operand.const (Value.int IntKind.u32 3345764771)), (44, Operand.const (Value.int IntKind.u32 3516065817)), (45, Operand.const (Value.int IntKind.u32 3600352804)), (46, Operand.const (Value.int IntKind.u32 4094571909)), (47, Operand.const (Value.int IntKind.u32 275423344)), (48, Operand.const (Value.int IntKind.u32 430227734)), (49, Operand.const (Value.int IntKind.u32 506948616)), (50, Operand.const (Value.int IntKind.u32 659060556)), (51, Operand.const (Value.int IntKind.u32 883997877)), (52, Operand.const (Value.int IntKind.u32 958139571)), (53, Operand.const (Value.int IntKind.u32 1322822218)), (54, Operand.const (Value.int IntKind.u32 1537002063)), (55, Operand.const (Value.int IntKind.u32 1747873779)), (56, Operand.const (Value.int IntKind.u32 1955562222)), (57, Operand.const (Value.int IntKind.u32 2024104815)), (58, Operand.const (Value.int IntKind.u32 2227730452)), (59, Operand.const (Value.int IntKind.u32 2361852424)), (60, Operand.const (Value.int IntKind.u32 2428436474)), (61, Operand.const (Value.int IntKind.u32 2756734187)), (62, Operand.const (Value.int IntKind.u32 3204031479)), (63, Operand.const (Value.int IntKind.u32 3329325298))], type := 85, pos := "ref.go:226", after := #[], guard := Option.none })).run Try.prog w = .ok (.value (.slice (some ⟨w.heap.size, 0, none⟩) 64 64)) (w.alloc (.cells shaKs 25)) := by
  simp only [execOp, List.map_toArray, List.map_cons, List.map_nil, hρ]
  kernel_rfl
theorem UR.setOther {w : World} {v : Value} {xs : List (BitVec 32)} (h : UR w v xs) {p o : Nat} (hne : ∀ g, v.ownBlock = some g → g ≠ p) (u : Value) : UR (w.setCell ⟨p, o, none⟩ u) v xs := by
  obtain ⟨g, cap, rfl, hg, hc⟩ := h
  refine ⟨g, cap, rfl, by simpa [World.setCell] using hg, fun j hj => ?_⟩
  rw [← hc j hj]
  exact World.cell?_of_block (Below.heap_setCell _ _ _ _ (hne g rfl))
theorem bs_H (ρ : Operand → Value) (hρ : ∀ v, ρ (.const v) = v) (w : World) : (execOp ρ ({ dst := Option.some 1, op := Op.buildSlice 85 8 #[(0, Operand.const (Value.int IntKind.u32 1779033703)), (1, Operand.const (Value.int IntKind.u32 3144134277)), (2, Operand.const (Value.int IntKind.u32 1013904242)), (3, Operand.const (Value.int IntKind.u32 2773480762)), (4, Operand.const (Value.int IntKind.u32 1359893119)), (5, Operand.const (Value.int IntKind.u32 2600822924)), (6, Operand.const (Value.int IntKind.u32 528734635)), (7, Operand.const (Value.int IntKind.u32 1541459225))], type := 85, pos := "ref.go:226", after := #[], guard := Option.none })).run Try.prog w = .ok (.value (.slice (some ⟨w.heap.size, 0, none⟩) 8 8)) (w.alloc (.cells #[.int .u32 (toU sha0.a), .int .u32 (toU sha0.b), .int .u32 (toU sha0.c), .int .u32 (toU sha0.d), .int .u32 (toU sha0.e), .int .u32 (toU sha0.f), .int .u32 (toU sha0.g), .int .u32 (toU sha0.h)] 25)) := by
  simp only [execOp, List.map_toArray, List.map_cons, List.map_nil, hρ]
  kernel_rfl
theorem UR.table (W : World) (N : Nat) (hN : W.heap.size = N) : UR (W.alloc (.cells shaKs 25)) (.slice (some ⟨N, 0, none⟩) 64 64) shaKB := by
  subst hN
  refine ⟨W.heap.size, 64, rfl, by simp, fun j hj => ?_⟩
  rw [heap_cell (heap_alloc_new W _), shaKs_get j hj]
  simp [List.getD, hj]

set_option maxHeartbeats 4000000 in
theorem table_any (w : World) : Calls Try.prog 64 #[] w fun e w' => ∃ vh vk, e = .returned (.agg #[vh, vk]) ∧ UR w' vh sha0.list ∧ UR w' vk shaKB ∧ Below w.heap.size w w' := by
  go_enter Try.func64, Try.ntmps64
  go_upto_region 1 with fail
  refine wp_region_list ?_
  obtain ⟨w0, hw0⟩ : ∃ w0, w.alloc (.cells #[.slice none 0 0, .slice none 0 0] 87) = w0 := ⟨_, rfl⟩
  have hz0 : w0.heap.size = w.heap.size + 1 := by rw [← hw0]; simp
  have h0 : w0.heap[w.heap.size]? = some (.cells #[.slice none 0 0, .slice none 0 0] 87 (0, 0)) := by rw [← hw0]; exact heap_alloc_new w _
  have hb0 : Below w.heap.size w w0 := by rw [← hw0]; exact (Below.refl _ _).alloc (Nat.le_refl _) _
  rw [hw0]
  clear hw0
  refine wpList_plain rfl fun K hK => ?_
  show Oper.upon _ _ _ _ _ ((execOp _ _).run _ _)
  rw [bs_H _ (fun v => rfl)]
  refine hK _ _ ?_
  refine wpList_name (fun W => UR W (.slice (some ⟨w.heap.size + 1, 0, none⟩) 8 8) sha0.list ∧ W.heap[w.heap.size]? = some (.cells #[.slice none 0 0, .slice none 0 0] 87 (0, 0)) ∧ Below w.heap.size w W ∧ W.heap.size = w.heap.size + 1 + 1) ⟨UR.new w0 sha0 _ _ hz0, heap_alloc h0, hb0.alloc (by omega) _, by simp [hz0]⟩ (fun w1 h1 => ?_)
  obtain ⟨h1a, h1b, h1c, hz1⟩ := h1
  clear h0 hb0
  refine wpList_plain rfl fun K hK => ?_
  show Oper.upon _ _ _ _ _ ((execOp _ _).run _ _)
  rw [bs_K _ (fun v => rfl), hz0, hz1]
  refine hK _ _ ?_
  refine wpList_name (fun W => UR W (.slice (some ⟨w.heap.size + 1, 0, none⟩) 8 8) sha0.list ∧ UR W (.slice (some ⟨w.heap.size + 1 + 1, 0, none⟩) 64 64) shaKB ∧ W.heap[w.heap.size]? = some (.cells #[.slice none 0 0, .slice none 0 0] 87 (0, 0)) ∧ Below w.heap.size w W ∧ W.heap.size = w.heap.size + 1 + 1 + 1) ⟨h1a.below ((Below.refl _ _).alloc (Nat.le_refl _) _), UR.table w1 _ hz1, heap_alloc h1b, h1c.alloc (by omega) _, by simp [hz1]⟩ (fun w2 h2 => ?_)
  obtain ⟨h2a, h2b, h2c, h2d, hz2⟩ := h2
  clear h1a h1b h1c
  have HA := Lib.hid h2a
  have HK := Lib.hid h2b
  have HC := Lib.hid h2c
  have HB := Lib.hid h2d
  have f0 := heap_free h2c 0
  have f1 := heap_free h2c 1
  have c0 : w2.cell? ⟨w.heap.size, 0, none⟩ = some (.slice none 0 0) := by rw [heap_cell h2c]; rfl
  have c1 : w2.cell? ⟨w.heap.size, 1, none⟩ = some (.slice none 0 0) := by rw [heap_cell h2c]; rfl
  clear h2a h2b h2c h2d
  (try simp only [Act.put, List.setIfInBounds_toArray, List.set_cons_zero, List.set_cons_succ])
  go_wp2_with fail
  have n1 : ∀ g, (Value.slice (some ⟨w.heap.size + 1, 0, none⟩) 8 8).ownBlock = some g → g ≠ w.heap.size := fun g h => by have := own_blk h; omega
  have n2 : ∀ g, (Value.slice (some ⟨w.heap.size + 1 + 1, 0, none⟩) 64 64).ownBlock = some g → g ≠ w.heap.size := fun g h => by have := own_blk h; omega
  have s1 := heap_set (o := 1) (heap_set (o := 0) HC.out (.slice (some ⟨w.heap.size + 1, 0, none⟩) 8 8)) (.slice (some ⟨w.heap.size + 1 + 1, 0, none⟩) 64 64)
  have d0 := heap_cell s1 0
  have d1 := heap_cell s1 1
  refine bodyPost_ret (v := .agg #[.slice (some ⟨w.heap.size + 1, 0, none⟩) 8 8, .slice (some ⟨w.heap.size + 1 + 1, 0, none⟩) 64 64]) (by simp [results, Try.results64, go_sem, d0, d1]) rfl ⟨_, _, rfl, (HA.out.setOther n1 _).setOther n1 _, (HK.out.setOther n2 _).setOther n2 _, (HB.out.setCell (by exact Nat.le_refl _) _).setCell (by exact Nat.le_refl _) _⟩

def ByPost (w : World) (l : List UInt8) (e : Ending) (w' : World) : Prop := e = .returned (dv (sha256 l)) ∧ Below w.heap.size w w'
theorem nextB (L q : Nat) (h : L % 64 = 0) (hq : 64 * q < L) : 64 * q + 64 ≤ L := by omega

set_option maxHeartbeats 4000000 in
theorem By_any (vh vk : Value) (s : ByteArray) (w : World) (hh : UR w vh sha0.list) (hk : UR w vk shaKB) (hs : s.size ≤ 140737488355200) :
    Calls Try.prog 70 #[.agg #[vh, vk], .string s] w (ByPost w s.data.toList) := by
  have HH := Lib.hid hh
  have HK := Lib.hid hk
  clear hh hk
  go_enter Try.func70, Try.ntmps70
  go_upto_region 1 with (refine wpList_allocD rfl rfl (w.heap.size + 1) (by simp) ?_; intro w1 hd1 hb1 hz1)
  (try simp only [Act.put, List.setIfInBounds_toArray, List.set_cons_zero, List.set_cons_succ])
  have hc1 := heap_below (heap_alloc_new w (.cells #[vh, vk] 87)) hb1 (by omega)
  have HC1 := Lib.hid hc1
  have HD1 := Lib.hid hd1
  have HB1 := Lib.hid (((Below.refl _ _).alloc (Nat.le_refl _) _).trans (hb1.mono (by omega)) : Below w.heap.size w w1)
  clear hc1 hd1 hb1
  go_upto_region 2 with (go_at_call 81; refine (padded_any _ _ hs).mono ?_; rintro e w2 ⟨bv2, rfl, hO2, hb2⟩)
  have hz2 := hb2.size
  have hc2 := heap_below HC1.out hb2 (by omega)
  have HD2 := Lib.hid (HD1.out.below hb2 (by omega))
  have HB2 := Lib.hid (HB1.out.trans (hb2.mono (by omega)))
  have HO2 := Lib.hid hO2
  have c0 : w2.cell? ⟨w.heap.size, 0, none⟩ = some vh := by rw [heap_cell hc2]; rfl
  have HC2 := Lib.hid hc2
  clear hc2 hb2 hO2 HC1 HD1 HB1
  obtain ⟨P, hP⟩ : ∃ P, Hw.padded s.data.toList = P := ⟨_, rfl⟩
  have hP64 := padded_mod s.data.toList
  rw [hP] at HO2 hP64
  have hPl : P.length ≤ 140737488355400 := by rw [← hP]; unfold Hw.padded; rw [List.length_append, padOf_length, data_len]; omega
  have HP := Lib.hid hP
  clear hP
  obtain ⟨g, cap, hg2, hgb, hglt, hcap⟩ := HO2.out.form
  subst hg2
  have Hcap := Lib.hid hcap
  go_wp2_with fail
  clear c0
  go_loopw [6, 7] (fun t i wr => ∃ (q Q : Nat), Hid (Q = 64 * q) ∧ Q ≤ P.length ∧ Hid (UR wr t (shaN sha0 P q).list) ∧ Hid (Below w2.heap.size w2 wr) ∧ i = .int .i64 (Q : Int)) (fun _ i _ => P.length - (intOf i).toNat)
  case atStart => exact ⟨0, 0, rfl, by omega, HH.out.below HB2.out, Below.refl _ _, rfl⟩
  case round =>
    obtain ⟨q, Q, HQ, hq, HV, HB, rfl⟩ := hrel
    by_cases hlt : Q < P.length
    · have hnx : Q + 64 ≤ P.length := by have := HQ.out; have := nextB P.length q hP64 (by omega); omega
      have hc64 : (Q : Int) + 64 ≤ (cap : Int) := by omega
      have hw64 : IntKind.i64.wrap ((Q : Int) + 64) = (Q : Int) + 64 := IntWalk.i64_in _ (by omega)
      have hne : ¬ cap = Q := by omega
      have h0q : (0 : Int) ≤ (Q : Int) + 64 := by omega
      have hq64 : (Q : Int) ≤ (Q : Int) + 64 := by omega
      have ht64 : ((Q : Int) + 64).toNat = Q + 64 := by omega
      have hlen : ((P.drop Q).take 64).length = 64 := by rw [List.length_take, List.length_drop]; omega
      have HBR : Hid (BR wr (.slice (some ⟨g, Q, none⟩) 64 (cap - Q)) ((P.drop Q).take 64)) := by
        refine ⟨g, Q, cap - Q, by rw [hlen], Nat.lt_of_lt_of_le hglt HB.out.size, fun j hj => ?_⟩
        rw [hlen] at hj
        have h1 := cellB HB.out hglt (HO2.out.cell (Q + j) (by omega))
        rw [h1]
        simp
      have Hlen := Lib.hid hlen
      clear hlen
      have hz := HB.out.size
      have hc3 := heap_below HC2.out HB.out (by omega)
      have c1 : wr.cell? ⟨w.heap.size, 1, none⟩ = some vk := by rw [heap_cell hc3]; rfl
      have HKr := Lib.hid ((HK.out.below HB2.out).below HB.out)
      clear hc3
      go_upto_region 6 with fail
      refine wp_region_held_drew (S := fun _ => True) (by kernel_rfl) trivial (fun hHeld => ?_)
      refine' wpAnyH_take (i := 0) (oi := { dst := Option.some 20, op := Op.move (Operand.tmp 6), type := 85, pos := "ref.go:212", after := #[], guard := Option.none }) rfl (by kernel_rfl) (by kernel_rfl) (by kernel_rfl) (fun _ _ _ h => h) (Or.inl ⟨by rfl, _⟩) (by assumption) _
      rotate_left
      · (intro wS hSw; (try dsimp only at hSw); go_simp; try with_reducible rfl)
      try simp only [Act.put, List.setIfInBounds_toArray, List.set_cons_zero, List.set_cons_succ]
      refine' wpAnyH_take (i := 1) (oi := { dst := Option.some 21, op := Op.fieldAddr 87 (Operand.tmp 2) 1, type := 0, pos := "ref.go:212", after := #[], guard := Option.none }) rfl (by kernel_rfl) (by kernel_rfl) (by kernel_rfl) (fun _ _ _ h => h) (Or.inl ⟨by rfl, _⟩) (by assumption) _
      rotate_left
      · (intro wS hSw; (try dsimp only at hSw); go_simp; try with_reducible rfl)
      try simp only [Act.put, List.setIfInBounds_toArray, List.set_cons_zero, List.set_cons_succ]
      refine' wpAnyH_take (i := 3) (oi := { dst := Option.some 23, op := Op.move (Operand.tmp 5), type := 35, pos := "ref.go:212", after := #[], guard := Option.none }) rfl (by kernel_rfl) (by kernel_rfl) (by kernel_rfl) (fun _ _ _ h => h) (Or.inl ⟨by rfl, _⟩) (by assumption) _
      rotate_left
      · (intro wS hSw; (try dsimp only at hSw); go_simp; try with_reducible rfl)
      try simp only [Act.put, List.setIfInBounds_toArray, List.set_cons_zero, List.set_cons_succ]
      refine' wpAnyH_take (i := 4) (oi := { dst := Option.some 24, op := Op.move (Operand.tmp 7), type := 3, pos := "ref.go:212", after := #[], guard := Option.none }) rfl (by kernel_rfl) (by kernel_rfl) (by kernel_rfl) (fun _ _ _ h => h) (Or.inl ⟨by rfl, _⟩) (by assumption) _
      rotate_left
      · (intro wS hSw; (try dsimp only at hSw); go_simp; try with_reducible rfl)
      try simp only [Act.put, List.setIfInBounds_toArray, List.set_cons_zero, List.set_cons_succ]
      refine' wpAnyH_take (i := 5) (oi := { dst := Option.some 25, op := Op.move (Operand.tmp 7), type := 3, pos := "ref.go:212", after := #[], guard := Option.none }) rfl (by kernel_rfl) (by kernel_rfl) (by kernel_rfl) (fun _ _ _ h => h) (Or.inl ⟨by rfl, _⟩) (by assumption) _
      rotate_left
      · (intro wS hSw; (try dsimp only at hSw); go_simp; try with_reducible rfl)
      try simp only [Act.put, List.setIfInBounds_toArray, List.set_cons_zero, List.set_cons_succ]
      refine' wpAnyH_take (i := 6) (oi := { dst := Option.some 26, op := Op.binOp BinOp.add 3 (Operand.tmp 25) (Operand.const (Value.int IntKind.i64 64)) 3, type := 3, pos := "ref.go:212", after := #[{ on := 5, ground := Ground.data }], guard := Option.none }) rfl (by kernel_rfl) (by kernel_rfl) (by kernel_rfl) (fun _ _ _ h => h) (Or.inl ⟨by rfl, _⟩) (by assumption) _
      rotate_left
      · (intro wS hSw; (try dsimp only at hSw); go_simp; try with_reducible rfl)
      try simp only [Act.put, List.setIfInBounds_toArray, List.set_cons_zero, List.set_cons_succ]
      refine' wpAnyH_take (i := 7) (oi := { dst := Option.some 27, op := Op.slice 35 (Operand.tmp 23) (Option.some (Operand.tmp 24)) (Option.some (Operand.tmp 26)) Option.none, type := 35, pos := "ref.go:212", after := #[{ on := 3, ground := Ground.data }, { on := 4, ground := Ground.data }, { on := 6, ground := Ground.data }], guard := Option.none }) rfl (by kernel_rfl) (by kernel_rfl) (by kernel_rfl) (fun _ _ _ h => h) (Or.inl ⟨by rfl, _⟩) (by assumption) _
      rotate_left
      · (intro wS hSw; (try dsimp only at hSw); go_simp; try with_reducible rfl)
      try simp only [Act.put, List.setIfInBounds_toArray, List.set_cons_zero, List.set_cons_succ]
      refine wpAnyH_ready (rs := [2]) (by kernel_rfl) (by simp) ?_
      refine AllReadyH.cons (o := { dst := Option.some 22, op := Op.load 85 (Operand.tmp 21), type := 85, pos := "ref.go:212", after := #[{ on := 1, ground := Ground.data }], guard := Option.none }) rfl (fun K hK => ?_) AllReadyH.nil
      go_simp
      refine hK.out _ _ ?_ (fun hHeld => ?_)
      · trivial
      clear hK K
      try simp only [Act.put, List.setIfInBounds_toArray, List.set_cons_zero, List.set_cons_succ]
      refine wpAnyH_ready (rs := [8]) (by kernel_rfl) (by simp) ?_
      refine AllReadyH.cons (o := { dst := Option.some 28, op := Op.call { callee := Callee.value (Operand.func 82), args := #[Operand.tmp 20, Operand.tmp 22, Operand.tmp 27], argTypes := #[85, 85, 35] }, type := 85, pos := "ref.go:212", after := #[{ on := 0, ground := Ground.data }, { on := 2, ground := Ground.data }, { on := 7, ground := Ground.data }], guard := Option.none }) rfl (fun K hK => ?_) AllReadyH.nil
      go_simp
      (go_at_call 82; refine (refBlock_any u6 vk (.slice (some ⟨g, Q, none⟩) 64 (cap - Q)) (shaN sha0 P q) ((P.drop Q).take 64) wr.drew HV.out HKr.out HBR.out Hlen.out).mono ?_; rintro e w5 ⟨r5, rfl, hO5, hb5⟩)
      refine hK.out _ _ ?_ (fun hHeld => ?_)
      · trivial
      clear hK K
      try simp only [Act.put, List.setIfInBounds_toArray, List.set_cons_zero, List.set_cons_succ]
      refine' wpAnyH_take (i := 9) (oi := { dst := Option.some 6, op := Op.assign (Operand.tmp 28), type := 85, pos := "ref.go:212", after := #[{ on := 8, ground := Ground.data }, { on := 8, ground := Ground.chain }, { on := 0, ground := Ground.phase }, { on := 1, ground := Ground.phase }, { on := 2, ground := Ground.phase }, { on := 3, ground := Ground.phase }, { on := 4, ground := Ground.phase }, { on := 5, ground := Ground.phase }, { on := 6, ground := Ground.phase }, { on := 7, ground := Ground.phase }, { on := 8, ground := Ground.phase }], guard := Option.none }) rfl (by kernel_rfl) (by kernel_rfl) (by kernel_rfl) (fun _ _ _ h => h) (Or.inl ⟨by rfl, _⟩) (by assumption) _
      rotate_left
      · (intro wS hSw; (try dsimp only at hSw); go_simp; try with_reducible rfl)
      try simp only [Act.put, List.setIfInBounds_toArray, List.set_cons_zero, List.set_cons_succ]
      refine wpAnyH_done (by kernel_rfl) ?_ _
      go_wp2_with fail
      refine ⟨⟨q + 1, Q + 64, ?_, hnx, ?_, HB.out.drew.trans (hb5.mono hz), by go_num⟩, by simp [intOf]; omega⟩
      · have := HQ.out; show _ = _; omega
      · show UR _ _ _
        have e : shaN sha0 P (q + 1) = shaBlock (shaN sha0 P q) ((P.drop Q).take 64) := by rw [HQ.out]; rfl
        rw [e]
        exact UR.of hO5 (by rw [S8.list_length]; omega)
    · have hQP : Q = P.length := by omega
      have HF : Hid (sha256 s.data.toList = shaOut (shaN sha0 P q)) := by
        show sha256 _ = _
        unfold sha256
        rw [HP.out]
        have e : P.length / 64 = q := by have := HQ.out; omega
        rw [e]
      obtain ⟨V, hV⟩ : ∃ V, shaN sha0 P q = V := ⟨_, rfl⟩
      rw [hV] at HV HF
      have HDr := Lib.hid (HD2.out.below HB.out (by omega))
      have HBr := Lib.hid (HB2.out.trans (HB.out.mono (by omega)))
      have hzr := HB.out.size
      clear hV HQ hlt HO2 Hcap hcap hP64 HP HB HC2 HD2 HB2
      obtain ⟨NW, hNW⟩ : ∃ NW, wr.heap.size = NW := ⟨_, rfl⟩
      go_upto_region 8 with (refine wpList_allocD rfl rfl NW hNW ?_; intro w6 hd6 hb6 hz6)
      (try simp only [Act.put, List.setIfInBounds_toArray, List.set_cons_zero, List.set_cons_succ])
      have HV6 := Lib.hid (HV.out.below (by rw [hNW]; exact hb6))
      have HD6 := Lib.hid (HDr.out.below hb6 (by omega))
      have HB6 := Lib.hid (HBr.out.trans (hb6.mono (by omega)))
      have HO6 : Hid (DB w6 NW (lay32 (shaOut V) 0)) := by rw [lay32_zero]; exact hd6
      obtain ⟨g6, p6, hu6, hg6, hc6⟩ := HV6.out
      rw [S8.list_length] at hu6
      subst hu6
      have HC6 := Lib.hid hc6
      have hgN : g6 < NW := by
        obtain ⟨g', c', e', h', _⟩ := HV.out
        cases e'
        rw [hNW] at h'
        exact h'
      clear hc6 hd6 hb6 hg6 HV HV6 HDr HBr
      go_wp2_with fail
      go_loopw [9] (fun i wi => ∃ (j : Nat), j ≤ 32 ∧ Hid (DB wi NW (lay32 (shaOut V) j)) ∧ Hid (Below NW w6 wi) ∧ i = .int .i64 (j : Int)) (fun i _ => 32 - (intOf i).toNat)
      case atStart => exact ⟨0, by omega, HO6, Below.refl _ _, rfl⟩
      case round =>
        clear HO6
        obtain ⟨j, hj, HO, HB, rfl⟩ := hrel
        by_cases hlt : j < 32
        · obtain ⟨b, hb1, hb2⟩ := out_byte V (j / 4) (j % 4) (by omega) (by omega)
          have e4 : 4 * (j / 4) + j % 4 = j := by omega
          rw [e4] at hb1
          have hcx := cellB HB.out hgN (HC6.out (j / 4) (by rw [S8.list_length]; omega))
          obtain ⟨X, hX⟩ : ∃ X, V.list.getD (j / 4) 0 = X := ⟨_, rfl⟩
          have hjl : j / 4 < V.list.length := by rw [S8.list_length]; omega
          have hXe : V.list[j / 4]'hjl = X := by rw [← hX, List.getD_eq_getElem?_getD, List.getElem?_eq_getElem hjl]; rfl
          rw [hXe] at hcx
          rw [hX] at hb2
          obtain ⟨old, c1⟩ : ∃ old : Value, wr.cell? ⟨NW, j, none⟩ = some old := ⟨_, HO.out.cell j (by rw [lay32_length _ _ (shaOut_length V) (by omega)]; omega)⟩
          have f1 := HO.out.free j
          have Hb1 := Lib.hid hb1
          clear hb1 hX hXe e4
          go_wp2_with fail
          refine ⟨⟨j + 1, by omega, ?_, HB.out.setCell (by exact Nat.le_refl _) _, by go_num⟩, by simp [intOf]; omega⟩
          have h1 := HO.out.set j b
          rw [lay32_succ _ _ _ (shaOut_length V) hlt Hb1.out] at h1
          exact h1
        · obtain rfl : j = 32 := by omega
          go_upto_region 12 with fail
          have HO2 : Hid (DB wr NW (shaOut V)) := by have := HO.out; rw [lay32_all _ (shaOut_length V)] at this; exact this
          have HD7 := Lib.hid (HD6.out.below HB.out (by omega))
          have HB7 := Lib.hid (HB6.out.trans (HB.out.mono (by omega)))
          go_wp2_with (first
            | (refine wpList_loadD rfl _ rfl NW rfl (shaOut V) (shaOut_length V) HO2.out ?_)
            | (refine wpList_storeD rfl _ _ rfl (w.heap.size + 1) rfl zeros32 (shaOut V) rfl (shaOut_length V) rfl HD7.out ?_; intro w9 hd9 hb9 hk9 hz9))
          refine bodyPost_ret (v := dv (shaOut V)) ?_ rfl ⟨by rw [HF.out], HB7.out.trans (hb9.mono (by omega))⟩
          exact results_cell1 Try.results70 rfl (DB.load hd9 (shaOut_length V))

set_option maxHeartbeats 2000000 in
theorem refSum_any (s : ByteArray) (w : World) (hs : s.size ≤ 140737488355200) :
    Calls Try.prog 32 #[.string s] w fun e w' => e = .returned (dv (sha256 s.data.toList)) ∧ Below w.heap.size w w' := by
  have Hl := Lib.hid (sha256_length s.data.toList)
  go_enter Try.func32, Try.ntmps32
  go_upto_region 1 with (refine wpList_allocD rfl rfl w.heap.size rfl ?_; intro w1 hd1 hb1 hz1)
  (try simp only [Act.put, List.setIfInBounds_toArray, List.set_cons_zero, List.set_cons_succ])
  have HD1 := Lib.hid hd1
  have HB1 := Lib.hid hb1
  clear hd1 hb1
  go_wp2_with (first
    | (go_at_call 64; refine (table_any _).mono ?_; rintro e w2 ⟨vh, vk, rfl, hh2, hk2, hb2⟩; have HH := Lib.hid hh2; have HK := Lib.hid hk2; clear hh2 hk2)
    | (go_at_call 70; refine (By_any vh vk _ _ HH.out HK.out hs).mono ?_; rintro e w3 ⟨rfl, hb3⟩; have HD3 : Hid (DB w3 w.heap.size zeros32) := DB.below (DB.below HD1.out hb2 (by omega)) hb3 (by have := hb2.size; omega))
    | (refine wpList_storeD rfl _ _ rfl w.heap.size rfl zeros32 (sha256 s.data.toList) rfl Hl.out rfl HD3.out ?_; intro w6 hd6 hb6 hk6 hz6))
  refine bodyPost_ret (v := dv (sha256 s.data.toList)) ?_ rfl ⟨rfl, ((HB1.out.trans (hb2.mono (by omega))).trans (hb3.mono (by have := hb2.size; omega))).trans hb6⟩
  exact results_cell1 Try.results32 rfl (DB.load hd6 Hl.out)
end Go.Proofs.Ytmjikebbknjahaa
