/-
 SHA-256 by the reference: the walks of table, By, Sum.
-/
import Derived.Test.YtihbhpggpnmifaaGF
import Derived.Test.YtihbhpggpnmifaaGD
import Derived.Test.YtihbhpggpnmifaaRows
import Derived.WalkKit
import Derived.ProofKit
import Derived.OpenShut
import Derived.ShutString
import Derived.ChangeOld
import Derived.Below
import Derived.SizedLaws
import Derived.Lib.SmallJoins
import Derived.Deep.Slices
import Derived.Deep.Strs
set_option linter.unusedSimpArgs false
set_option linter.unusedVariables false
namespace Go.Proofs.Ytihbhpggpnmifaa
open Go.RowKit Go.Lib Hw
theorem bs_K (ρ : Operand → Value) (hρ : ∀ v, ρ (.const v) = v) (w : World) : (execOp ρ ⟨some 2, .buildSlice 128 64 #[(0, .const (.int .u32 1116352408)), (1, .const (.int .u32 1899447441)), (2, .const (.int .u32 3049323471)), (3, .const (.int .u32 3921009573)), (4, .const (.int .u32 961987163)), (5, .const (.int .u32 1508970993)), (6, .const (.int .u32 2453635748)), (7, .const (.int .u32 2870763221)), (8, .const (.int .u32 3624381080)), (9, .const (.int .u32 310598401)), (10, .const (.int .u32 607225278)), (11, .const (.int .u32 1426881987)), (12, .const (.int .u32 1925078388)), (13, .const (.int .u32 2162078206)), (14, .const (.int .u32 2614888103)), (15, .const (.int .u32 3248222580)), (16, .const (.int .u32 3835390401)), (17, .const (.int .u32 4022224774)), (18, .const (.int .u32 264347078)), (19, .const (.int .u32 604807628)), (20, .const (.int .u32 770255983)), (21, .const (.int .u32 1249150122)), (22, .const (.int .u32 1555081692)), (23, .const (.int .u32 1996064986)), (24, .const (.int .u32 2554220882)), (25, .const (.int .u32 2821834349)), (26, .const (.int .u32 2952996808)), (27, .const (.int .u32 3210313671)), (28, .const (.int .u32 3336571891)), (29, .const (.int .u32 3584528711)), (30, .const (.int .u32 113926993)), (31, .const (.int .u32 338241895)), (32, .const (.int .u32 666307205)), (33, .const (.int .u32 773529912)), (34, .const (.int .u32 1294757372)), (35, .const (.int .u32 1396182291)), (36, .const (.int .u32 1695183700)), (37, .const (.int .u32 1986661051)), (38, .const (.int .u32 2177026350)), (39, .const (.int .u32 2456956037)), (40, .const (.int .u32 2730485921)), (41, .const (.int .u32 2820302411)), (42, .const (.int .u32 3259730800)), (43, .const (.int .u32 3345764771)), (44, .const (.int .u32 3516065817)), (45, .const (.int .u32 3600352804)), (46, .const (.int .u32 4094571909)), (47, .const (.int .u32 275423344)), (48, .const (.int .u32 430227734)), (49, .const (.int .u32 506948616)), (50, .const (.int .u32 659060556)), (51, .const (.int .u32 883997877)), (52, .const (.int .u32 958139571)), (53, .const (.int .u32 1322822218)), (54, .const (.int .u32 1537002063)), (55, .const (.int .u32 1747873779)), (56, .const (.int .u32 1955562222)), (57, .const (.int .u32 2024104815)), (58, .const (.int .u32 2227730452)), (59, .const (.int .u32 2361852424)), (60, .const (.int .u32 2428436474)), (61, .const (.int .u32 2756734187)), (62, .const (.int .u32 3204031479)), (63, .const (.int .u32 3329325298))], 128, "ref.go:226", #[], none⟩).run Try.prog w = .ok (.value (.slice (some ⟨w.heap.size, 0, none⟩) 64 64)) (w.alloc (.cells shaKs 122)) := by
 simp only [execOp, List.map_toArray, List.map_cons, List.map_nil, hρ]
 kernel_rfl
theorem UR.setOther {w : World} {v : Value} {xs : List (BitVec 32)} (h : UR w v xs) {p o : Nat} (hne : ∀ g, v.ownBlock = some g → g ≠ p) (u : Value) : UR (w.setCell ⟨p, o, none⟩ u) v xs := by
 obtain ⟨g, cap, rfl, hg, hc⟩ := h
 refine ⟨g, cap, rfl, by simpa [World.setCell] using hg, fun j hj => ?_⟩
 rw [← hc j hj]
 exact World.cell?_of_block (Below.heap_setCell _ _ _ _ (hne g rfl))
theorem bs_H (ρ : Operand → Value) (hρ : ∀ v, ρ (.const v) = v) (w : World) : (execOp ρ ⟨some 1, .buildSlice 128 8 #[(0, .const (.int .u32 1779033703)), (1, .const (.int .u32 3144134277)), (2, .const (.int .u32 1013904242)), (3, .const (.int .u32 2773480762)), (4, .const (.int .u32 1359893119)), (5, .const (.int .u32 2600822924)), (6, .const (.int .u32 528734635)), (7, .const (.int .u32 1541459225))], 128, "ref.go:226", #[], none⟩).run Try.prog w = .ok (.value (.slice (some ⟨w.heap.size, 0, none⟩) 8 8)) (w.alloc (.cells #[.int .u32 (toU sha0.a), .int .u32 (toU sha0.b), .int .u32 (toU sha0.c), .int .u32 (toU sha0.d), .int .u32 (toU sha0.e), .int .u32 (toU sha0.f), .int .u32 (toU sha0.g), .int .u32 (toU sha0.h)] 122)) := by
 simp only [execOp, List.map_toArray, List.map_cons, List.map_nil, hρ]
 kernel_rfl
theorem UR.table (W : World) (N : Nat) (hN : W.heap.size = N) : UR (W.alloc (.cells shaKs 122)) (.slice (some ⟨N, 0, none⟩) 64 64) shaKB := by
 subst hN
 refine ⟨W.heap.size, 64, rfl, by simp, fun j hj => ?_⟩
 rw [heap_cell (heap_alloc_new W _), shaKs_get j hj]
 simp [List.getD, hj]
set_option maxHeartbeats 4000000 in
theorem table_any (w : World) : Calls Try.prog 85 #[] w fun e w' => ∃ vh vk, e = .returned (.agg #[vh, vk]) ∧ UR w' vh sha0.list ∧ UR w' vk shaKB ∧ Below w.heap.size w w' := by
 go_enter Try.func85, Try.ntmps85
 go_upto_region 1 with fail
 refine wp_region_list ?_
 obtain ⟨w0, hw0⟩ : ∃ w0, w.alloc (.cells #[.slice none 0 0, .slice none 0 0] 130) = w0 := ⟨_, rfl⟩
 have hz0 : w0.heap.size = w.heap.size + 1 := by rw [← hw0]; simp
 have h0 : w0.heap[w.heap.size]? = some (.cells #[.slice none 0 0, .slice none 0 0] 130 (0, 0)) := by rw [← hw0]; exact heap_alloc_new w _
 have hb0 : Below w.heap.size w w0 := by rw [← hw0]; exact (Below.refl _ _).alloc (Nat.le_refl _) _
 rw [hw0]
 clear hw0
 refine wpList_plain rfl fun K hK => ?_
 show Oper.upon _ _ _ _ _ ((execOp _ _).run _ _)
 rw [bs_H _ (fun v => rfl)]
 refine hK _ _ ?_
 refine wpList_name (fun W => UR W (.slice (some ⟨w.heap.size + 1, 0, none⟩) 8 8) sha0.list ∧ W.heap[w.heap.size]? = some (.cells #[.slice none 0 0, .slice none 0 0] 130 (0, 0)) ∧ Below w.heap.size w W ∧ W.heap.size = w.heap.size + 1 + 1) ⟨UR.new w0 sha0 _ _ hz0, heap_alloc h0, hb0.alloc (by omega) _, by simp [hz0]⟩ (fun w1 h1 => ?_)
 obtain ⟨h1a, h1b, h1c, hz1⟩ := h1
 clear h0 hb0
 refine wpList_plain rfl fun K hK => ?_
 show Oper.upon _ _ _ _ _ ((execOp _ _).run _ _)
 rw [bs_K _ (fun v => rfl), hz0, hz1]
 refine hK _ _ ?_
 refine wpList_name (fun W => UR W (.slice (some ⟨w.heap.size + 1, 0, none⟩) 8 8) sha0.list ∧ UR W (.slice (some ⟨w.heap.size + 1 + 1, 0, none⟩) 64 64) shaKB ∧ W.heap[w.heap.size]? = some (.cells #[.slice none 0 0, .slice none 0 0] 130 (0, 0)) ∧ Below w.heap.size w W ∧ W.heap.size = w.heap.size + 1 + 1 + 1) ⟨h1a.below ((Below.refl _ _).alloc (Nat.le_refl _) _), UR.table w1 _ hz1, heap_alloc h1b, h1c.alloc (by omega) _, by simp [hz1]⟩ (fun w2 h2 => ?_)
 obtain ⟨h2a, h2b, h2c, h2d, hz2⟩ := h2
 clear h1a h1b h1c
 have HA := Lib.hid h2a
 have HK := Lib.hid h2b
 have HC := Lib.hid h2c
 have HB := Lib.hid h2d
 have f0 := heap_free h2c 0
 have f1 := heap_free h2c 1
 have c0 : w2.cell? ⟨w.heap.size, 0, none⟩ = some (.slice none 0 0) := by rw [heap_cell h2c]; rfl
 have c1 : w2.cell? ⟨w.heap.size, 1, none⟩ = some (.slice none 0 0) := by rw [heap_cell h2c]; rfl
 clear h2a h2b h2c h2d
 try simp only [Act.put,nA,nB,nC]
 go_wp2_with fail
 have n1 : ∀ g, (Value.slice (some ⟨w.heap.size + 1, 0, none⟩) 8 8).ownBlock = some g → g ≠ w.heap.size := fun g h => by have := own_blk h; omega
 have n2 : ∀ g, (Value.slice (some ⟨w.heap.size + 1 + 1, 0, none⟩) 64 64).ownBlock = some g → g ≠ w.heap.size := fun g h => by have := own_blk h; omega
 have s1 := heap_set (o := 1) (heap_set (o := 0) HC.out (.slice (some ⟨w.heap.size + 1, 0, none⟩) 8 8)) (.slice (some ⟨w.heap.size + 1 + 1, 0, none⟩) 64 64)
 have d0 := heap_cell s1 0
 have d1 := heap_cell s1 1
 refine bodyPost_ret (v := .agg #[.slice (some ⟨w.heap.size + 1, 0, none⟩) 8 8, .slice (some ⟨w.heap.size + 1 + 1, 0, none⟩) 64 64]) (by simp [results, Try.results85, go_sem, d0, d1]) rfl ⟨_, _, rfl, (HA.out.setOther n1 _).setOther n1 _, (HK.out.setOther n2 _).setOther n2 _, (HB.out.setCell (by exact Nat.le_refl _) _).setCell (by exact Nat.le_refl _) _⟩
def ByPost (w : World) (l : List UInt8) (e : Ending) (w' : World) : Prop := e = .returned (dv (sha256 l)) ∧ Below w.heap.size w w'
theorem nextB (L q : Nat) (h : L % 64 = 0) (hq : 64 * q < L) : 64 * q + 64 ≤ L := by omega
set_option maxHeartbeats 4000000 in
theorem By_any (vh vk : Value) (s : ByteArray) (w : World) (hh : UR w vh sha0.list) (hk : UR w vk shaKB) (hs : s.size ≤ 140737488355200) :
  Calls Try.prog 84 #[.agg #[vh, vk], .string s] w (ByPost w s.data.toList) := by
 have HH := Lib.hid hh
 have HK := Lib.hid hk
 clear hh hk
 go_enter Try.func84, Try.ntmps84
 go_upto_region 1 with (refine wpList_allocD rfl rfl (w.heap.size + 1) (by simp) ?_; intro w1 hd1 hb1 hz1)
 try simp only [Act.put,nA,nB,nC]
 have hc1 := heap_below (heap_alloc_new w (.cells #[vh, vk] 130)) hb1 (by omega)
 have HC1 := Lib.hid hc1
 have HD1 := Lib.hid hd1
 have HB1 := Lib.hid (((Below.refl _ _).alloc (Nat.le_refl _) _).trans (hb1.mono (by omega)) : Below w.heap.size w w1)
 clear hc1 hd1 hb1
 go_upto_region 2 with (go_at_call 89; refine (padded_any _ _ hs).mono ?_; rintro e w2 ⟨bv2, rfl, hO2, hb2⟩)
 have hz2 := hb2.size
 have hc2 := heap_below HC1.out hb2 (by omega)
 have HD2 := Lib.hid (HD1.out.below hb2 (by omega))
 have HB2 := Lib.hid (HB1.out.trans (hb2.mono (by omega)))
 have HO2 := Lib.hid hO2
 have c0 : w2.cell? ⟨w.heap.size, 0, none⟩ = some vh := by rw [heap_cell hc2]; rfl
 have HC2 := Lib.hid hc2
 clear hc2 hb2 hO2 HC1 HD1 HB1
 obtain ⟨P, hP⟩ : ∃ P, Hw.padded s.data.toList = P := ⟨_, rfl⟩
 have hP64 := padded_mod s.data.toList
 rw [hP] at HO2 hP64
 have hPl : P.length ≤ 140737488355400 := by rw [← hP]; unfold Hw.padded; rw [List.length_append, padOf_length, data_len]; omega
 have HP := Lib.hid hP
 clear hP
 obtain ⟨g, cap, hg2, hgb, hglt, hcap⟩ := HO2.out.form
 subst hg2
 have Hcap := Lib.hid hcap
 go_wp2_with fail
 clear c0
 go_loopw [6, 7] (fun t i wr => ∃ (q Q : Nat), Hid (Q = 64 * q) ∧ Q ≤ P.length ∧ Hid (UR wr t (shaN sha0 P q).list) ∧ Hid (Below w2.heap.size w2 wr) ∧ i = .int .i64 (Q : Int)) (fun _ i _ => P.length - (intOf i).toNat)
 case atStart => exact ⟨0, 0, rfl, by omega, HH.out.below HB2.out, Below.refl _ _, rfl⟩
 case round =>
  obtain ⟨q, Q, HQ, hq, HV, HB, rfl⟩ := hrel
  by_cases hlt : Q < P.length
  ·have hnx : Q + 64 ≤ P.length := by have := HQ.out; have := nextB P.length q hP64 (by omega); omega
   have hc64 : (Q : Int) + 64 ≤ (cap : Int) := by omega
   have hw64 : IntKind.i64.wrap ((Q : Int) + 64) = (Q : Int) + 64 := IntWalk.i64_in _ (by omega)
   have hne : ¬ cap = Q := by omega
   have h0q : (0 : Int) ≤ (Q : Int) + 64 := by omega
   have hq64 : (Q : Int) ≤ (Q : Int) + 64 := by omega
   have ht64 : ((Q : Int) + 64).toNat = Q + 64 := by omega
   have hlen : ((P.drop Q).take 64).length = 64 := by rw [List.length_take, List.length_drop]; omega
   have HBR : Hid (BR wr (.slice (some ⟨g, Q, none⟩) 64 (cap - Q)) ((P.drop Q).take 64)) := by
    refine ⟨g, Q, cap - Q, by rw [hlen], Nat.lt_of_lt_of_le hglt HB.out.size, fun j hj => ?_⟩
    rw [hlen] at hj
    have h1 := cellB HB.out hglt (HO2.out.cell (Q + j) (by omega))
    rw [h1]
    simp
   have Hlen := Lib.hid hlen
   clear hlen
   have hz := HB.out.size
   have hc3 := heap_below HC2.out HB.out (by omega)
   have c1 : wr.cell? ⟨w.heap.size, 1, none⟩ = some vk := by rw [heap_cell hc3]; rfl
   have HKr := Lib.hid ((HK.out.below HB2.out).below HB.out)
   clear hc3
   go_upto_region 6 with fail
   refine wp_region_held_drew (S := fun _ => True) (by kernel_rfl) trivial (fun hHeld => ?_)
   refine' tQ 0 ⟨some 20, .move (.tmp 6), 128, "ref.go:212", #[], none⟩ rfl (by kernel_rfl) (Or.inl ⟨by rfl, _⟩) _; rotate_left; · (intro s h; (try dsimp only at h); go_simp; try with_reducible rfl)
   try simp only [Act.put,nA,nB,nC]
   refine' tQ 1 ⟨some 21, .fieldAddr 130 (.tmp 2) 1, 0, "ref.go:212", #[], none⟩ rfl (by kernel_rfl) (Or.inl ⟨by rfl, _⟩) _; rotate_left; · (intro s h; (try dsimp only at h); go_simp; try with_reducible rfl)
   try simp only [Act.put,nA,nB,nC]
   refine' tQ 3 ⟨some 23, .move (.tmp 5), 121, "ref.go:212", #[], none⟩ rfl (by kernel_rfl) (Or.inl ⟨by rfl, _⟩) _; rotate_left; · (intro s h; (try dsimp only at h); go_simp; try with_reducible rfl)
   try simp only [Act.put,nA,nB,nC]
   refine' tQ 4 ⟨some 24, .move (.tmp 7), 3, "ref.go:212", #[], none⟩ rfl (by kernel_rfl) (Or.inl ⟨by rfl, _⟩) _; rotate_left; · (intro s h; (try dsimp only at h); go_simp; try with_reducible rfl)
   try simp only [Act.put,nA,nB,nC]
   refine' tQ 5 ⟨some 25, .move (.tmp 7), 3, "ref.go:212", #[], none⟩ rfl (by kernel_rfl) (Or.inl ⟨by rfl, _⟩) _; rotate_left; · (intro s h; (try dsimp only at h); go_simp; try with_reducible rfl)
   try simp only [Act.put,nA,nB,nC]
   refine' tQ 6 ⟨some 26, .binOp .add 3 (.tmp 25) (.const (.int .i64 64)) 3, 3, "ref.go:212", #[⟨5, .data⟩], none⟩ rfl (by kernel_rfl) (Or.inl ⟨by rfl, _⟩) _; rotate_left; · (intro s h; (try dsimp only at h); go_simp; try with_reducible rfl)
   try simp only [Act.put,nA,nB,nC]
   refine' tQ 7 ⟨some 27, .slice 121 (.tmp 23) (some (.tmp 24)) (some (.tmp 26)) none, 121, "ref.go:212", #[⟨3, .data⟩, ⟨4, .data⟩, ⟨6, .data⟩], none⟩ rfl (by kernel_rfl) (Or.inl ⟨by rfl, _⟩) _; rotate_left; · (intro s h; (try dsimp only at h); go_simp; try with_reducible rfl)
   try simp only [Act.put,nA,nB,nC]
   refine wpAnyH_ready (rs := [2]) (by kernel_rfl) (by simp) ?_
   refine AllReadyH.cons (o := ⟨some 22, .load 128 (.tmp 21), 128, "ref.go:212", #[⟨1, .data⟩], none⟩) rfl (fun K hK => ?_) AllReadyH.nil
   go_simp
   refine hK.out _ _ ?_ (fun hHeld => ?_)
   ·trivial
   clear hK K
   try simp only [Act.put,nA,nB,nC]
   refine wpAnyH_ready (rs := [8]) (by kernel_rfl) (by simp) ?_
   refine AllReadyH.cons (o := ⟨some 28, .call ⟨.value (.func 90), #[.tmp 20, .tmp 22, .tmp 27], #[128, 128, 121]⟩, 128, "ref.go:212", #[⟨0, .data⟩, ⟨2, .data⟩, ⟨7, .data⟩], none⟩) rfl (fun K hK => ?_) AllReadyH.nil
   go_simp
   (go_at_call 90; refine (refBlock_any u6 vk (.slice (some ⟨g, Q, none⟩) 64 (cap - Q)) (shaN sha0 P q) ((P.drop Q).take 64) wr.drew HV.out HKr.out HBR.out Hlen.out).mono ?_; rintro e w5 ⟨r5, rfl, hO5, hb5⟩)
   refine hK.out _ _ ?_ (fun hHeld => ?_)
   ·trivial
   clear hK K
   try simp only [Act.put,nA,nB,nC]
   refine' tQ 9 ⟨some 6, .assign (.tmp 28), 128, "ref.go:212", #[⟨8, .data⟩, ⟨8, .chain⟩, ⟨0, .phase⟩, ⟨1, .phase⟩, ⟨2, .phase⟩, ⟨3, .phase⟩, ⟨4, .phase⟩, ⟨5, .phase⟩, ⟨6, .phase⟩, ⟨7, .phase⟩, ⟨8, .phase⟩], none⟩ rfl (by kernel_rfl) (Or.inl ⟨by rfl, _⟩) _; rotate_left; · (intro s h; (try dsimp only at h); go_simp; try with_reducible rfl)
   try simp only [Act.put,nA,nB,nC]
   refine wpAnyH_done (by kernel_rfl) ?_ _
   go_wp2_with fail
   refine ⟨⟨q + 1, Q + 64, ?_, hnx, ?_, HB.out.drew.trans (hb5.mono hz), by go_num⟩, by simp [intOf]; omega⟩
   ·have := HQ.out; show _ = _; omega
   ·show UR _ _ _
    have e : shaN sha0 P (q + 1) = shaBlock (shaN sha0 P q) ((P.drop Q).take 64) := by rw [HQ.out]; rfl
    rw [e]
    exact UR.of hO5 (by rw [S8.list_length]; omega)
  ·have hQP : Q = P.length := by omega
   have HF : Hid (sha256 s.data.toList = shaOut (shaN sha0 P q)) := by
    show sha256 _ = _
    unfold sha256
    rw [HP.out]
    have e : P.length / 64 = q := by have := HQ.out; omega
    rw [e]
   obtain ⟨V, hV⟩ : ∃ V, shaN sha0 P q = V := ⟨_, rfl⟩
   rw [hV] at HV HF
   have HDr := Lib.hid (HD2.out.below HB.out (by omega))
   have HBr := Lib.hid (HB2.out.trans (HB.out.mono (by omega)))
   have hzr := HB.out.size
   clear hV HQ hlt HO2 Hcap hcap hP64 HP HB HC2 HD2 HB2
   obtain ⟨NW, hNW⟩ : ∃ NW, wr.heap.size = NW := ⟨_, rfl⟩
   go_upto_region 8 with (refine wpList_allocD rfl rfl NW hNW ?_; intro w6 hd6 hb6 hz6)
   try simp only [Act.put,nA,nB,nC]
   have HV6 := Lib.hid (HV.out.below (by rw [hNW]; exact hb6))
   have HD6 := Lib.hid (HDr.out.below hb6 (by omega))
   have HB6 := Lib.hid (HBr.out.trans (hb6.mono (by omega)))
   have HO6 : Hid (DB w6 NW (lay32 (shaOut V) 0)) := by rw [lay32_zero]; exact hd6
   obtain ⟨g6, p6, hu6, hg6, hc6⟩ := HV6.out
   rw [S8.list_length] at hu6
   subst hu6
   have HC6 := Lib.hid hc6
   have hgN : g6 < NW := by
    obtain ⟨g', c', e', h', _⟩ := HV.out
    cases e'
    rw [hNW] at h'
    exact h'
   clear hc6 hd6 hb6 hg6 HV HV6 HDr HBr
   go_wp2_with fail
   go_loopw [9] (fun i wi => ∃ (j : Nat), j ≤ 32 ∧ Hid (DB wi NW (lay32 (shaOut V) j)) ∧ Hid (Below NW w6 wi) ∧ i = .int .i64 (j : Int)) (fun i _ => 32 - (intOf i).toNat)
   case atStart => exact ⟨0, by omega, HO6, Below.refl _ _, rfl⟩
   case round =>
    clear HO6
    obtain ⟨j, hj, HO, HB, rfl⟩ := hrel
    by_cases hlt : j < 32
    ·obtain ⟨b, hb1, hb2⟩ := out_byte V (j / 4) (j % 4) (by omega) (by omega)
     have e4 : 4 * (j / 4) + j % 4 = j := by omega
     rw [e4] at hb1
     have hcx := cellB HB.out hgN (HC6.out (j / 4) (by rw [S8.list_length]; omega))
     obtain ⟨X, hX⟩ : ∃ X, V.list.getD (j / 4) 0 = X := ⟨_, rfl⟩
     have hjl : j / 4 < V.list.length := by rw [S8.list_length]; omega
     have hXe : V.list[j / 4]'hjl = X := by rw [← hX, List.getD_eq_getElem?_getD, List.getElem?_eq_getElem hjl]; rfl
     rw [hXe] at hcx
     rw [hX] at hb2
     obtain ⟨old, c1⟩ : ∃ old : Value, wr.cell? ⟨NW, j, none⟩ = some old := ⟨_, HO.out.cell j (by rw [lay32_length _ _ (shaOut_length V) (by omega)]; omega)⟩
     have f1 := HO.out.free j
     have Hb1 := Lib.hid hb1
     clear hb1 hX hXe e4
     go_wp2_with fail
     refine ⟨⟨j + 1, by omega, ?_, HB.out.setCell (by exact Nat.le_refl _) _, by go_num⟩, by simp [intOf]; omega⟩
     have h1 := HO.out.set j b
     rw [lay32_succ _ _ _ (shaOut_length V) hlt Hb1.out] at h1
     exact h1
    ·obtain rfl : j = 32 := by omega
     go_upto_region 12 with fail
     have HO2 : Hid (DB wr NW (shaOut V)) := by have := HO.out; rw [lay32_all _ (shaOut_length V)] at this; exact this
     have HD7 := Lib.hid (HD6.out.below HB.out (by omega))
     have HB7 := Lib.hid (HB6.out.trans (HB.out.mono (by omega)))
     go_wp2_with (first
      | (refine wpList_loadD rfl _ rfl NW rfl (shaOut V) (shaOut_length V) HO2.out ?_)
      | (refine wpList_storeD rfl _ _ rfl (w.heap.size + 1) rfl zeros32 (shaOut V) rfl (shaOut_length V) rfl HD7.out ?_; intro w9 hd9 hb9 hk9 hz9))
     refine bodyPost_ret (v := dv (shaOut V)) ?_ rfl ⟨by rw [HF.out], HB7.out.trans (hb9.mono (by omega))⟩
     exact results_cell1 Try.results84 rfl (DB.load hd9 (shaOut_length V))
set_option maxHeartbeats 2000000 in
theorem refSum_any (s : ByteArray) (w : World) (hs : s.size ≤ 140737488355200) :
  Calls Try.prog 80 #[.string s] w fun e w' => e = .returned (dv (sha256 s.data.toList)) ∧ Below w.heap.size w w' := by
 have Hl := Lib.hid (sha256_length s.data.toList)
 go_enter Try.func80, Try.ntmps80
 go_upto_region 1 with (refine wpList_allocD rfl rfl w.heap.size rfl ?_; intro w1 hd1 hb1 hz1)
 try simp only [Act.put,nA,nB,nC]
 have HD1 := Lib.hid hd1
 have HB1 := Lib.hid hb1
 clear hd1 hb1
 go_wp2_with (first
  | (go_at_call 85; refine (table_any _).mono ?_; rintro e w2 ⟨vh, vk, rfl, hh2, hk2, hb2⟩; have HH := Lib.hid hh2; have HK := Lib.hid hk2; clear hh2 hk2)
  | (go_at_call 84; refine (By_any vh vk _ _ HH.out HK.out hs).mono ?_; rintro e w3 ⟨rfl, hb3⟩; have HD3 : Hid (DB w3 w.heap.size zeros32) := DB.below (DB.below HD1.out hb2 (by omega)) hb3 (by have := hb2.size; omega))
  | (refine wpList_storeD rfl _ _ rfl w.heap.size rfl zeros32 (sha256 s.data.toList) rfl Hl.out rfl HD3.out ?_; intro w6 hd6 hb6 hk6 hz6))
 refine bodyPost_ret (v := dv (sha256 s.data.toList)) ?_ rfl ⟨rfl, ((HB1.out.trans (hb2.mono (by omega))).trans (hb3.mono (by have := hb2.size; omega))).trans hb6⟩
 exact results_cell1 Try.results80 rfl (DB.load hd6 Hl.out)
end Go.Proofs.Ytihbhpggpnmifaa
namespace Go.Proofs.Ytihbhpggpnmifaa
open Go.ChangeShapes Go.WideShapes Go.ChangeAt Go.RowKit Go.Joins
open Go.ChangeMaps (open_string shut_string)
theorem own : ownKnob Try.prog.godebug = none := by kernel_rfl
theorem laidOut : laidOutB Try.prog = true := by kernel_rfl
section
variable {H : Type} {enc : TypeId × Value → H} {W : World} {base : Nat} {sp : Nat → Bool} {b1 : Nat} {held : Bool}
theorem wf_u8_bd {n : Int} (h : (Lit.int .u8 n).wf = true) : 0 ≤ n ∧ n < 256 := by
 have h' : 0 ≤ n ∧ n ≤ 255 := by simpa [Lit.wf, IntKind.min, IntKind.max, IntKind.signed, IntKind.bits] using h
 omega
theorem wf_u64_bd {n : Int} (h : (Lit.int .u64 n).wf = true) : 0 ≤ n ∧ n < 18446744073709551616 := by
 have h' : 0 ≤ n ∧ n ≤ 18446744073709551615 := by simpa [Lit.wf, IntKind.min, IntKind.max, IntKind.signed, IntKind.bits] using h
 omega
end
end Go.Proofs.Ytihbhpggpnmifaa
namespace Go.Proofs.Ytihbhpggpnmifaa
open Go.ChangeShapes Go.WideShapes Go.ChangeAt Go.RowKit Go.Joins Go.Deep
open Go.ChangeMaps (open_string shut_string)
theorem weights_get {H : Type} {n : Nat} : ∀ (i : Nat) (ts : List TypeId) (ds : List (DataW H)) (t : TypeId) (d : DataW H), (DataW.weightsEach Try.prog ts ds).all (· ≤ n) = true → ts[i]? = some t → ds[i]? = some d → (d.weights Try.prog t).all (· ≤ n) = true
 | 0, t' :: ts, d' :: ds, t, d, h, ht, hd => by
  simp only [List.getElem?_cons_zero, Option.some.injEq] at ht hd
  subst ht hd
  rw [DataW.weightsEach, List.all_append] at h
  exact (Bool.and_eq_true _ _ ▸ h).1
 | i + 1, t' :: ts, d' :: ds, t, d, h, ht, hd => by
  rw [DataW.weightsEach, List.all_append] at h
  exact weights_get i ts ds t d (Bool.and_eq_true _ _ ▸ h).2 (by simpa using ht) (by simpa using hd)
 | _, [], _, _, _, _, ht, _ => by simp at ht
 | _, _ :: _, [], _, _, _, _, hd => by simp at hd
section
variable {H : Type} {enc : TypeId × Value → H} {W : World} {base : Nat} {sp : Nat → Bool} {b1 : Nat} {held : Bool}
end
end Go.Proofs.Ytihbhpggpnmifaa
namespace Go.Proofs.Ytihbhpggpnmifaa
open Go.RowKit Go.Lib Hw
theorem may_any (n : Int) (w : World) : Calls Try.prog 75 #[.int .i64 n] w fun e w' => e = .returned (.bool (wideB n)) ∧ w = w' := by
 unfold wideB
 go_enter Try.func75, Try.ntmps75
 cases h1 : decide (1 ≤ n)
 ·go_wp2
  go_ret
  exact ⟨rfl, rfl⟩
 ·cases h2 : decide (n ≤ 32)
  ·go_wp2
   go_ret
   exact ⟨rfl, rfl⟩
  ·go_wp2
   go_ret
   exact ⟨rfl, rfl⟩
def mid32 (l : List UInt8) (n i : Nat) : List UInt8 := l.take n ++ (List.replicate (i - n) 0 ++ l.drop i)
theorem mid32_start (l : List UInt8) (n : Nat) : mid32 l n n = l := by simp [mid32]
theorem mid32_end (l : List UInt8) (n : Nat) (hl : l.length = 32) : mid32 l n 32 = lay32 l n := by
 unfold mid32 lay32
 rw [List.drop_of_length_le (by omega), List.append_nil]
theorem mid32_length (l : List UInt8) (n i : Nat) (hl : l.length = 32) (hn : n ≤ i) (hi : i ≤ 32) : (mid32 l n i).length = 32 := by
 simp [mid32, hl]; omega
theorem mid32_succ (l : List UInt8) (n i : Nat) (hl : l.length = 32) (hn : n ≤ i) (hi : i < 32) : (mid32 l n i).set i 0 = mid32 l n (i + 1) := by
 unfold mid32
 have e1 : (l.take n).length = n := by rw [List.length_take]; omega
 have e2 : i + 1 - n = (i - n) + 1 := by omega
 rw [List.set_append_right _ _ (by omega), e1, List.set_append_right _ _ (by simp), List.length_replicate, Nat.sub_self, e2, List.replicate_succ', List.append_assoc]
 rw [List.drop_eq_getElem_cons (by omega : i < l.length)]
 rfl
set_option maxHeartbeats 4000000 in
theorem refCut_any (n : Int) (l : List UInt8) (w : World) (hl : l.length = 32) :
  Calls Try.prog 79 #[.int .i64 n, dv l] w fun e w' => e = .returned (.tuple #[dv (cutL n l), .int .i64 (cutE n)]) ∧ Below w.heap.size w w' := by
 cases hw : wideB n
 ·have e1 : cutL n l = zeros32 := by unfold cutL; rw [hw]; rfl
  have e2 : cutE n = 2 := by unfold cutE; rw [hw]; rfl
  rw [e1, e2]
  have HW := Lib.hid hw
  clear hw e1 e2
  go_enter Try.func79, Try.ntmps79
  go_upto_region 1 with (first
   | (refine wpList_boxD rfl _ rfl l rfl w.heap.size rfl ?_; intro w1 hd1 hb1 hz1)
   | (refine wpList_allocD rfl rfl (w.heap.size + 1) hz1 ?_; intro w2 hd2 hb2 hz2))
  have HD := Lib.hid hd2
  have HB := Lib.hid (hb1.trans (hb2.mono (by omega)))
  clear hd1 hb1 hz1 hd2 hb2 hz2
  go_upto_region 2 with (go_at_call 75; refine (may_any _ _).mono ?_; rintro e w3 ⟨rfl, rfl⟩; rw [HW.out])
  go_wp2_with (first
   | (refine wpList_buildD rfl rfl ?_)
   | (refine wpList_storeD rfl _ _ rfl (w.heap.size + 1) rfl zeros32 zeros32 rfl rfl rfl HD.out ?_; intro w6 hd6 hb6 hk6 hz6))
  refine bodyPost_ret (v := .tuple #[dv zeros32, .int .i64 2]) ?_ rfl ⟨rfl, HB.out.trans (hb6.mono (by omega))⟩
  exact results_DE Try.results79 rfl rfl rfl hd6
 ·have hb := wideB_yes hw
  have e1 : cutL n l = lay32 l n.toNat := by unfold cutL; rw [hw]; rfl
  have e2 : cutE n = 0 := by unfold cutE; rw [hw]; rfl
  rw [e1, e2]
  have HW := Lib.hid hw
  clear hw e1 e2
  obtain ⟨m, rfl⟩ : ∃ m : Nat, n = m := ⟨n.toNat, by omega⟩
  have hm : m ≤ 32 := by omega
  have hm1 : 1 ≤ m := by omega
  rw [Int.toNat_natCast]
  clear hb
  go_enter Try.func79, Try.ntmps79
  go_upto_region 1 with (first
   | (refine wpList_boxD rfl _ rfl l rfl w.heap.size rfl ?_; intro w1 hd1 hb1 hz1)
   | (refine wpList_allocD rfl rfl (w.heap.size + 1) hz1 ?_; intro w2 hd2 hb2 hz2))
  have HD1 : Hid (DB w2 w.heap.size (mid32 l m m)) := by rw [mid32_start]; exact hd1.below hb2 (by omega)
  have HD2 := Lib.hid hd2
  have HB := Lib.hid (hb1.trans (hb2.mono (by omega)))
  clear hd1 hb1 hz1 hd2 hb2 hz2
  go_wp2_with (go_at_call 75; refine (may_any _ _).mono ?_; rintro e w3 ⟨rfl, rfl⟩; rw [HW.out])
  go_loopw [6] (fun i wr => ∃ (k : Nat), m ≤ k ∧ k ≤ 32 ∧ Hid (DB wr w.heap.size (mid32 l m k)) ∧ Hid (DB wr (w.heap.size + 1) zeros32) ∧ Hid (Below w.heap.size w wr) ∧ i = .int .i64 (k : Int)) (fun i _ => 32 - (intOf i).toNat)
  case atStart => exact ⟨m, Nat.le_refl _, hm, HD1, HD2, HB, rfl⟩
  case round =>
   clear HD1 HD2 HB
   obtain ⟨k, hk1, hk2, HD1, HD2, HB, rfl⟩ := hrel
   by_cases hlt : k < 32
   ·obtain ⟨old, c1⟩ : ∃ old : Value, wr.cell? ⟨w.heap.size, k, none⟩ = some old := ⟨_, HD1.out.cell k (by rw [mid32_length l m k hl hk1 hk2]; exact hlt)⟩
    have f1 := HD1.out.free k
    go_wp2_with fail
    refine ⟨⟨k + 1, by omega, by omega, ?_, heap_setOther HD2.out (by show w.heap.size + 1 ≠ w.heap.size; omega) _, HB.out.setCell (by exact Nat.le_refl _) _, by go_num⟩, by simp [intOf]; omega⟩
    have h1 := HD1.out.set k 0
    rw [mid32_succ l m k hl hk1 hlt] at h1
    exact h1
   ·obtain rfl : k = 32 := by omega
    have HD3 : Hid (DB wr w.heap.size (lay32 l m)) := by have := HD1.out; rw [mid32_end l m hl] at this; exact this
    go_wp2_with (first
     | (refine wpList_loadD rfl _ rfl w.heap.size rfl (lay32 l m) (lay32_length l m hl hm) HD3.out ?_)
     | (refine wpList_storeD rfl _ _ rfl (w.heap.size + 1) rfl zeros32 (lay32 l m) rfl (lay32_length l m hl hm) rfl HD2.out ?_; intro w6 hd6 hb6 hk6 hz6))
    refine bodyPost_ret (v := .tuple #[dv (lay32 l m), .int .i64 0]) ?_ rfl ⟨rfl, HB.out.trans (hb6.mono (by omega))⟩
    exact results_DE Try.results79 rfl rfl (lay32_length l m hl hm) hd6
set_option maxHeartbeats 4000000 in
theorem refOf_any (n : Int) (s : ByteArray) (w : World) (hs : s.size ≤ 140737488355200) :
  Calls Try.prog 65 #[.int .i64 n, .string s] w fun e w' => e = .returned (.tuple #[dv (cutL n (sha256 s.data.toList)), .int .i64 (cutE n)]) ∧ Below w.heap.size w w' := by
 have Hl := Lib.hid (cutL_length n _ (sha256_length s.data.toList))
 go_enter Try.func65, Try.ntmps65
 go_upto_region 1 with (refine wpList_allocD rfl rfl w.heap.size rfl ?_; intro w1 hd1 hb1 hz1)
 have HD1 := Lib.hid hd1
 have HB1 := Lib.hid hb1
 clear hd1 hb1
 go_wp2_with (first
  | (go_at_call 80; refine (refSum_any _ _ hs).mono ?_; rintro e w2 ⟨rfl, hb2⟩)
  | (go_at_call 79; refine (refCut_any _ _ _ (sha256_length _)).mono ?_; rintro e w3 ⟨rfl, hb3⟩; have HD3 : Hid (DB w3 w.heap.size zeros32) := DB.below (DB.below HD1.out hb2 (by omega)) hb3 (by have := hb2.size; omega))
  | (refine wpList_storeD rfl _ _ rfl w.heap.size rfl zeros32 (cutL n (sha256 s.data.toList)) rfl Hl.out rfl HD3.out ?_; intro w6 hd6 hb6 hk6 hz6))
 refine bodyPost_ret (v := .tuple #[dv (cutL n (sha256 s.data.toList)), .int .i64 (cutE n)]) ?_ rfl ⟨rfl, ((HB1.out.trans (hb2.mono (by omega))).trans (hb3.mono (by have := hb2.size; omega))).trans hb6⟩
 exact results_DE Try.results65 rfl rfl Hl.out hd6
end Go.Proofs.Ytihbhpggpnmifaa
namespace Go.Proofs.Ytihbhpggpnmifaa
open Go.RowKit Go.Lib Hw
theorem wpList_buildDg {ops : Array Oper} {rest : List Oper} {op : Oper} {a : Act} {w : World} {Q : Exit → Act → World → Prop} (hg : Region.wanted op (yielded ops a.tmps) = true) (ho : op.op = .build 23 #[])
  (h : wpList Try.prog ops Q rest (a.put op.dst (dv zeros32)) w) : wpList Try.prog ops Q (op :: rest) a w :=
 wpList_step fun K hK => by
  rw [if_pos hg]
  unfold Oper.wp
  rw [build_D _ _ ho]
  exact hK _ _ h
def fitB (n : Int) (l : List UInt8) : Bool := bif wideB n then cutL n l == l else false
set_option maxHeartbeats 4000000 in
theorem Fits_any (n : Int) (l : List UInt8) (w : World) (hl : l.length = 32) :
  Calls Try.prog 72 #[.int .i64 n, dv l] w fun e w' => e = .returned (.bool (fitB n l)) ∧ Below w.heap.size w w' := by
 have Hl := Lib.hid (cutL_length n l hl)
 cases hw : wideB n
 ·have e1 : fitB n l = false := by unfold fitB; rw [hw]; rfl
  have HE : Hid (cutE n = 2) := by show cutE n = _; unfold cutE; rw [hw]; rfl
  rw [e1]
  clear e1 hw
  go_enter Try.func72, Try.ntmps72
  go_upto_region 1 with (refine wpList_boxD rfl _ rfl l rfl w.heap.size rfl ?_; intro w1 hd1 hb1 hz1)
  try simp only [Act.put,nA,nB,nC]
  have HD1 := Lib.hid hd1
  have HB1 := Lib.hid hb1
  clear hd1 hb1
  set_option maxRecDepth 20000 in
  go_wp2_with (first
   | (refine wpList_loadD rfl _ rfl w.heap.size rfl l hl HD1.out ?_; try simp only [Act.put,nA,nB,nC])
   | (go_at_call 82; refine (Cut_any _ _ _ hl).mono ?_; rintro e w2 ⟨rfl, hb2⟩; rw [HE.out])
   | (refine wpList_allocD rfl rfl w2.heap.size rfl ?_; intro w3 hd3 hb3 hz3)
   | (refine wpList_storeD rfl _ _ rfl w2.heap.size rfl zeros32 (cutL n l) rfl Hl.out rfl hd3 ?_; intro w4 hd4 hb4 hk4 hz4))
  go_ret
  exact ⟨rfl, ((HB1.out.trans (hb2.mono (by omega))).trans (hb3.mono (by have := hb2.size; omega))).trans (hb4.mono (by have := hb2.size; omega))⟩
 ·have HE : Hid (cutE n = 0) := by show cutE n = _; unfold cutE; rw [hw]; rfl
  have e1 : fitB n l = (cutL n l == l) := by unfold fitB; rw [hw]; rfl
  rw [e1]
  obtain ⟨T, hT⟩ : ∃ T, cutL n l = T := ⟨_, rfl⟩
  rw [hT] at Hl ⊢
  obtain ⟨B, hB⟩ : ∃ B, (T == l) = B := ⟨_, rfl⟩
  have heg := eqGuardD T l
  have heq := eqD T l Hl.out hl
  rw [hB] at heq ⊢
  have HT := Lib.hid hT
  clear e1 hw hT hB
  go_enter Try.func72, Try.ntmps72
  go_upto_region 1 with (refine wpList_boxD rfl _ rfl l rfl w.heap.size rfl ?_; intro w1 hd1 hb1 hz1)
  try simp only [Act.put,nA,nB,nC]
  have HD1 := Lib.hid hd1
  have HB1 := Lib.hid hb1
  clear hd1 hb1
  set_option maxRecDepth 20000 in
  go_upto_region 2 with (first
   | (refine wpList_loadD rfl _ rfl w.heap.size rfl l hl HD1.out ?_; try simp only [Act.put,nA,nB,nC])
   | (go_at_call 82; refine (Cut_any _ _ _ hl).mono ?_; rintro e w2 ⟨rfl, hb2⟩; rw [HE.out, HT.out])
   | (refine wpList_allocD rfl rfl w2.heap.size rfl ?_; intro w3 hd3 hb3 hz3)
   | (refine wpList_storeD rfl _ _ rfl w2.heap.size rfl zeros32 T rfl Hl.out rfl hd3 ?_; intro w4 hd4 hb4 hk4 hz4))
  have hz2 := hb2.size
  have HD4 := Lib.hid hd4
  have HD5 := Lib.hid (((HD1.out.below hb2 (by omega)).below hb3 (by omega)).below hb4 (by omega))
  have HB4 := Lib.hid (((HB1.out.trans (hb2.mono (by omega))).trans (hb3.mono (by omega))).trans (hb4.mono (by omega)))
  clear hd3 hb3 hd4 hb4 hk4 hb2
  set_option maxRecDepth 100000 in
  go_wp2_with (first
   | (refine wpList_loadDg rfl _ rfl w2.heap.size rfl T Hl.out HD4.out ?_; try simp only [Act.put,nA,nB,nC])
   | (refine wpList_loadDg rfl _ rfl w.heap.size rfl l hl HD5.out ?_; try simp only [Act.put,nA,nB,nC]))
  go_ret
  exact ⟨rfl, HB4.out⟩
end Go.Proofs.Ytihbhpggpnmifaa
namespace Go.Proofs.Ytihbhpggpnmifaa
open Go.RowKit Go.Lib Hw
def OwnT (w : World) (B : Nat) (v : Value) (xs : List ByteArray) : Prop := w.ownsRow B 9 1 v xs.length (xs.map Value.string)
theorem info_str : (Try.prog.info? 9).map (fun i => (i.zero, i.size, i.bytes)) = some (some (.string ⟨#[]⟩), 1, 16) := by kernel_rfl
theorem sv_one (xs : List ByteArray) : ∀ u ∈ xs.map Value.string, u.oneCell' = true := by
 intro u hu
 obtain ⟨_, _, rfl⟩ := List.mem_map.1 hu
 rfl
theorem OwnT.nil (w : World) (B : Nat) : OwnT w B (.slice none 0 0) [] := World.ownsRow_nil w B _ 1
theorem OwnT.lt {w : World} {B : Nat} {v : Value} {xs : List ByteArray} (h : OwnT w B v xs) : ∀ g, v.ownBlock = some g → B ≤ g ∧ g < w.heap.size := World.ownsRow.lt h
theorem OwnT.below {w w' : World} {B C : Nat} {v : Value} {xs : List ByteArray} (h : OwnT w B v xs) (hb : Below C w w') (hC : ∀ g, v.ownBlock = some g → g < C) : OwnT w' B v xs := by
 refine ⟨h.1, ?_⟩
 rcases h.2 with hn | ⟨g, cap, cur, rfl, hB, hg, r⟩
 ·exact .inl hn
 ·exact .inr ⟨g, cap, cur, rfl, hB, heap_below hg hb (hC g rfl), r⟩
theorem OwnT.form {w : World} {B : Nat} {v : Value} {xs : List ByteArray} (h : OwnT w B v xs) (hn : 0 < xs.length) : ∃ g cap, v = .slice (some ⟨g, 0, none⟩) xs.length cap ∧ B ≤ g ∧ g < w.heap.size ∧ xs.length ≤ cap := by
 rcases h.2 with ⟨_, h0⟩ | ⟨g, cap, cur, hv, hb, hg, hc, _⟩
 ·omega
 ·exact ⟨g, cap, hv, hb, heap_lt hg, hc⟩
theorem OwnT.cell {w : World} {B g n cap : Nat} {xs : List ByteArray} (h : OwnT w B (.slice (some ⟨g, 0, none⟩) n cap) xs) (j : Nat) (hj : j < xs.length) : w.cell? ⟨g, j, none⟩ = some (.string xs[j]) := by
 have h1 := World.ownsRow.cells (w := w) h (g := g) rfl j (.string xs[j]) (by simp [hj])
 rw [add_flat1, Nat.zero_add] at h1
 exact h1
theorem OwnT.row {w : World} {B g n cap : Nat} {xs : List ByteArray} (h : OwnT w B (.slice (some ⟨g, 0, none⟩) n cap) xs) (k : Nat) (hk : k ≤ xs.length) : StrRow w (.slice (some ⟨g, 0, none⟩) k cap) (xs.take k) := by
 refine ⟨some ⟨g, 0, none⟩, cap, by rw [List.length_take, Nat.min_eq_left hk], (fun h => by cases h), fun _ => ⟨g, 0, rfl, fun i hi => ?_⟩⟩
 rw [List.length_take] at hi
 rw [Nat.zero_add, h.cell i (by omega)]
 simp
theorem wpList_appT {ops : Array Oper} {rest : List Oper} {o : Oper} {a : Act} {Q : Exit → Act → World → Prop} (W : World) (t : TypeId) (x : ByteArray) (hgd : o.guard = none) (s y : Operand)
  (ho : o.op = .call { callee := .builtin .append, args := #[s, y], argTypes := #[37, 37] })
  (B : Nat) (v : Value) (xs : List ByteArray) (hs : a.eval s = v) (hown : OwnT W B v xs) (c : Nat) (hy : a.eval y = .slice (some ⟨W.heap.size, 0, none⟩) 1 c)
  (hlen : (xs.length + 1) * 16 ≤ 140737488355328) (hB : B ≤ W.heap.size)
  (h : ∀ v' w', OwnT w' B v' (xs ++ [x]) → Below B W w' → wpList Try.prog ops Q rest (a.put o.dst v') w') :
  wpList Try.prog ops Q (o :: rest) a (W.alloc (.cells #[.string x] t)) := by
 obtain ⟨i, hi, hz0, hz1, hz2⟩ := info_parts info_str
 refine wpList_append_own _ hgd s y 37 ho B 9 i (.string ⟨#[]⟩) 1 16 Try.underlying37 hi hz0 hz1 hz2 rfl (by decide) v xs.length (xs.map Value.string) hs (World.ownsRow.alloc hown _) ⟨W.heap.size, 0, none⟩ 1 c [.string x] hy rfl ?_ (sv_one [x]) (by rw [maxLen_eq]; omega) hlen (by simp only [World.size_alloc]; omega) ?_
 ·exact World.news_of_block (heap_alloc_new W _)
 ·intro v' w' h1 h2 _
  refine h v' w' ?_ (((Below.refl B W).alloc hB _).grown h2 (by simp only [World.size_alloc]; omega) (fun k hk => (World.ownsRow.lt hown k hk).1))
  unfold OwnT
  rw [List.length_append, List.map_append]
  exact h1
theorem wpList_copyT {ops : Array Oper} {rest : List Oper} {o : Oper} {a : Act} {Q : Exit → Act → World → Prop} (w : World) (hgd : o.guard = none) (s x : Operand)
  (ho : o.op = .call { callee := .builtin .append, args := #[s, x], argTypes := #[37, 37] })
  (hs : a.eval s = .slice none 0 0) (v : Value) (xs : List ByteArray) (hx : a.eval x = v) (hv : StrRow w v xs) (hlen : xs.length * 16 ≤ 140737488355328)
  (h : ∀ v' w', OwnT w' w.heap.size v' xs → Below w.heap.size w w' → wpList Try.prog ops Q rest (a.put o.dst v') w') : wpList Try.prog ops Q (o :: rest) a w := by
 obtain ⟨i, hi, hz0, hz1, hz2⟩ := info_parts info_str
 obtain ⟨ad, c, rfl, hnn, hc⟩ := hv
 cases ad with
 | none =>
  have h0 : xs.length = 0 := by
   rcases Nat.eq_zero_or_pos xs.length with h0 | h0
   ·exact h0
   ·obtain ⟨b, o, e, _⟩ := hc h0
    cases e
  obtain rfl : xs = [] := List.eq_nil_of_length_eq_zero h0
  obtain rfl := hnn rfl
  exact wpList_append_own_none hgd s x 37 ho w.heap.size 9 i 1 Try.underlying37 hi (.slice none 0 0) 0 [] hs (World.ownsRow_nil w w.heap.size _ 1) hx (h _ w (OwnT.nil _ _) (Below.refl _ _))
 | some ad =>
  refine wpList_append_own w hgd s x 37 ho w.heap.size 9 i (.string ⟨#[]⟩) 1 16 Try.underlying37 hi hz0 hz1 hz2 rfl (by decide) (.slice none 0 0) 0 [] hs (World.ownsRow_nil w w.heap.size _ 1) ad xs.length c (xs.map Value.string) hx (by simp) ?_ (sv_one xs) (by rw [maxLen_eq]; omega) (by omega) (Nat.le_refl _) ?_
  ·intro j u hu
   rw [List.getElem?_map] at hu
   obtain ⟨y, hy, rfl⟩ := Option.map_eq_some_iff.1 hu
   obtain ⟨hj, rfl⟩ := List.getElem?_eq_some_iff.1 hy
   obtain ⟨b, o, e, hb⟩ := hc (by omega)
   cases e
   rw [add_flat1]
   exact hb j hj
  ·intro v' w' h1 h2 h3
   rw [Nat.zero_add, List.nil_append] at h1
   exact h v' w' h1 ((Below.refl _ _).grown h2 (Nat.le_refl _) (fun k hk => by simp [Value.ownBlock] at hk))
def markS : ByteArray := ⟨#[109, 97, 114, 107]⟩
def marks : List ByteArray := List.replicate 5 markS
end Go.Proofs.Ytihbhpggpnmifaa
namespace Go.Proofs.Ytihbhpggpnmifaa
open Go.ChangeShapes Go.WideShapes Go.ChangeAt Go.RowKit Go.Joins Go.Deep Hw
open Go.ChangeMaps (open_string shut_string)
def strD (H : Type) (s : ByteArray) : DataW H := .lit (.string s.data.toList)
theorem add_plain (a : Addr) (h : a.spot = none) (k : Nat) : a.add k = ⟨a.block, a.off + k, none⟩ := by
 obtain ⟨b, o, s⟩ := a
 obtain rfl : s = none := h
 unfold Addr.add
 by_cases hk : k = 0
 ·rw [if_pos hk, hk]; rfl
 ·rw [if_neg hk]
section
variable {H : Type} {enc : TypeId × Value → H} {W : World} {base : Nat} {sp : Nat → Bool} {b1 : Nat} {held : Bool}
theorem cells_string : Try.prog.cellsOf 9 = 1 := by kernel_rfl
theorem bytes_string : Try.prog.bytesOf 9 = 16 := by kernel_rfl
theorem trod_strs {n : Nat} {v : Value} {y : DataW H × List MemPlace} (h : DataW.trod enc Try.prog W base sp held n 37 [v] = some y) :
  ∃ l : List ByteArray, StrRow W v l ∧ l.length ≤ 9223372036854775807 ∧ ((l = [] ∧ y.1 = .nil) ∨ ∃ spare, y.1 = .slice (l.map (strD H)) spare) := by
 rcases open_slice1 Try.underlying37 cells_string h with ⟨hc, hy⟩ | ⟨a, len, cap, m, k, V, D, Pl, hc, _, hlc, hcm, hm, hy, hx⟩
 ·simp only [List.cons.injEq, and_true] at hc
  subst hc
  exact ⟨[], ⟨none, 0, rfl, fun _ => rfl, fun h => by simp at h⟩, by simp, .inl ⟨rfl, by rw [hy]⟩⟩
 ·simp only [List.cons.injEq, and_true] at hc
  subst hc
  have hlm : len ≤ m := by rw [hm]; split <;> omega
  have each : ∀ i, i < len → ∃ s : ByteArray, W.cell? (a.add i) = some (.string s) ∧ D i = strD H s := by
   intro i hi
   obtain ⟨h1, h2⟩ := hx i (by omega)
   obtain ⟨s, e, e2, _⟩ := DataW.trod_string Try.underlying9 h2
   simp only [List.cons.injEq, and_true] at e
   rw [e] at h1
   refine ⟨s, h1, ?_⟩
   have := congrArg Prod.fst e2
   exact this
  haveI : Inhabited ByteArray := ⟨⟨#[]⟩⟩
  obtain ⟨f, hf⟩ := choose_lt each
  have hml : maxLen = 9223372036854775807 := rfl
  refine ⟨(List.range len).map f, ?_, by simp; omega, .inr ⟨_, by rw [hy]; simp only [List.map_map]; congr 1; exact List.map_congr_left (fun i hi => (hf i (List.mem_range.1 hi)).2)⟩⟩
  refine ⟨some a, cap, by simp, (fun h => by cases h), fun hl => ?_⟩
  simp at hl
  have h0 := World.cell?_spot (hf 0 hl).1
  have ha : a.spot = none := by
   cases a with
   | mk b o s => simp [Addr.add] at h0; simp [h0]
  refine ⟨a.block, a.off, by cases a; simp_all, fun i hi => ?_⟩
  simp at hi
  have h1 := (hf i hi).1
  rw [add_plain a ha] at h1
  simpa using h1
end
end Go.Proofs.Ytihbhpggpnmifaa
namespace Go.Proofs.Ytihbhpggpnmifaa
open Go.RowKit Go.Lib Hw
theorem four_bytes' (n : Nat) : ∃ b0 b1 b2 b3 : UInt8, be 4 n = [b0, b1, b2, b3] ∧ (n : Int) / 16777216 % 256 = (b0.toNat : Int) ∧ (n : Int) / 65536 % 256 = (b1.toNat : Int) ∧ (n : Int) / 256 % 256 = (b2.toNat : Int) ∧ (n : Int) % 256 = (b3.toNat : Int) := by
 refine ⟨_, _, _, _, rfl, ?_, ?_, ?_, ?_⟩ <;> simp only [UInt8.toNat_ofNat'] <;> omega
set_option maxHeartbeats 2000000 in
theorem refText_bad (tag : ByteArray) (v : Value) (w : World) (ht : badTag tag = true) (hs : tag.size ≤ 9223372036854775807) :
  Calls Try.prog 76 #[.string tag, v] w fun e w' => e = .returned (.tuple #[.string ⟨#[]⟩, .int .i64 20]) ∧ w = w' := by
 by_cases h0 : tag.size = 0
 ·have h1 : decide ((tag.size : Int) < 1) = true := by simp; omega
  clear h0 ht
  go_enter Try.func76, Try.ntmps76
  go_wp2_with fail
  exact bodyPost_ret (v := .tuple #[.string ⟨#[]⟩, .int .i64 20]) (by simp [results, Try.results76, go_sem]) rfl ⟨rfl, rfl⟩
 ·have h1 : 64 < tag.size := by simp [badTag, h0] at ht; exact ht
  have h2 : decide ((tag.size : Int) < 1) = false := by simp; omega
  have h3 : decide ((64 : Int) < (tag.size : Int)) = true := by simp; omega
  clear h0 ht
  go_enter Try.func76, Try.ntmps76
  go_wp2_with fail
  exact bodyPost_ret (v := .tuple #[.string ⟨#[]⟩, .int .i64 20]) (by simp [results, Try.results76, go_sem]) rfl ⟨rfl, rfl⟩
set_option maxHeartbeats 4000000 in
theorem refText_any (tag : ByteArray) (v : Value) (ss : List ByteArray) (w : World) (ht : badTag tag = false) (hv : Hid (StrRow w v ss)) (hlen : tag.size + (ss.flatMap partL).length < 140737488355328) (hn : ss.length ≤ 9223372036854775807) :
  Calls Try.prog 76 #[.string tag, v] w fun e w' => e = .returned (.tuple #[.string ⟨(textL tag ss).toArray⟩, .int .i64 0]) ∧ Below w.heap.size w w' := by
 have h0 : ¬ tag.size = 0 := by intro h; simp [badTag, h] at ht
 have h1 : ¬ 64 < tag.size := by intro h; simp [badTag, h] at ht
 have h2 : decide ((tag.size : Int) < 1) = false := by simp; omega
 have h4 : decide ((64 : Int) < (tag.size : Int)) = false := by simp; omega
 have h3 : tag.size < 256 := by omega
 obtain ⟨ad, c, rfl, hcell⟩ := strRow_form hv.out
 have Hc := Lib.hid hcell
 obtain ⟨b, hb⟩ : ∃ b : UInt8, (tag.size : Int) = (b.toNat : Int) := ⟨UInt8.ofNat tag.size, by simp only [UInt8.toNat_ofNat']; omega⟩
 have HB := Lib.hid hb
 have Hb : Hid (UInt8.ofNat tag.size = b) := by
  apply UInt8.toNat_inj.1
  simp only [UInt8.toNat_ofNat']
  omega
 clear hcell h0 ht hv hb
 go_enter Try.func76, Try.ntmps76
 go_upto_region 5 with (at_builtin; refine wpList_appSt _ rfl _ _ rfl w.heap.size (.slice (some ⟨w.heap.size, 0, none⟩) 1 1) [b] rfl (by rw [HB.out]; exact OwnB.lit w [b] 1 rfl (by omega)) tag rfl (by simp only [List.length_singleton]; omega) (by simp) ?_; intro v1 w1 hv1 hb1)
 have HV1 := Lib.hid hv1
 have HB1 := Lib.hid (((Below.refl w.heap.size w).alloc (Nat.le_refl _) _).trans hb1)
 clear hv1 hb1
 go_wp2_with fail
 go_loopw [6, 7, 8] (fun v i nn wr => ∃ (k : Nat), k ≤ ss.length ∧ Hid (OwnB wr w.heap.size v ([b] ++ tag.data.toList ++ (ss.take k).flatMap partL)) ∧ Hid (Below w.heap.size w wr) ∧ i = .int .i64 (k : Int)) (fun _ i _ _ => ss.length - (intOf i).toNat)
 case atStart => exact ⟨0, by omega, by simpa using HV1, HB1, rfl⟩
 case round =>
  clear HV1 HB1
  obtain ⟨k, hk, HV, HBe, rfl⟩ := hrel
  by_cases hlt : k < ss.length
  ·obtain ⟨bb, o, rfl, hcl⟩ := Hc.out (by omega)
   have hbw := World.block_lt_of_cell? _ _ (hcl k hlt)
   have hcell := cellB HBe.out hbw (hcl k hlt)
   have hpl := parts_le ss (k + 1)
   have hps := parts_succ ss k hlt
   obtain ⟨s, hs⟩ : ∃ s, ss[k] = s := ⟨_, rfl⟩
   rw [hs] at hps hcell
   rw [hps, List.length_append, partL_length] at hpl
   have Hps := Lib.hid hps
   clear hcl hs hps
   obtain ⟨b0, b1, b2, b3, hbe, e0, e1, e2, e3⟩ := four_bytes' s.size
   have Hbe := Lib.hid hbe
   clear hbe
   have hz := HBe.out.size
   obtain ⟨bs, hbs⟩ : ∃ bs, [b] ++ tag.data.toList ++ (ss.take k).flatMap partL = bs := ⟨_, rfl⟩
   have hbl : bs.length = 1 + tag.size + ((ss.take k).flatMap partL).length := by rw [← hbs, List.length_append, List.length_append, data_len]; rfl
   rw [hbs] at HV
   have Hbs := Lib.hid hbs
   have Hbl := Lib.hid hbl
   clear hbs hbl
   go_upto_region 9 with fail
   set_option maxRecDepth 100000 in
   go_upto_region 10 with (at_builtin; refine wpList_appN wr 5 [b0, b1, b2, b3] (by simp) rfl _ _ rfl w.heap.size u6 bs rfl HV.out _ rfl (by have := Hbl.out; simp only [List.length_cons, List.length_nil]; omega) hz ?_; intro v2 w2 hv2 hb2)
   have hl2 := Hbl.out
   have hbz := hb2.size
   have hc2 := cellB hb2 hbw hcell
   go_wp2_with (at_builtin; refine wpList_appSt _ rfl _ _ rfl w.heap.size v2 (bs ++ [b0, b1, b2, b3]) rfl hv2 s rfl (by rw [List.length_append]; simp only [List.length_cons, List.length_nil]; omega) (by omega) ?_; intro v3 w3 hv3 hb3)
   have hfin : OwnB w3 w.heap.size v3 ([b] ++ tag.data.toList ++ (ss.take (k + 1)).flatMap partL) := by
    rw [Hps.out, ← List.append_assoc, Hbs.out, partL, Hbe.out, ← List.append_assoc]; exact hv3
   exact ⟨⟨k + 1, by omega, hfin, (HBe.out.trans hb2).trans hb3, by go_num⟩, by simp [intOf]; omega⟩
  ·obtain rfl : k = ss.length := by omega
   have hcv := conv_own HV.out
   have HL : Hid ([b] ++ tag.data.toList ++ (ss.take ss.length).flatMap partL = textL tag ss) := by
    show _ = _
    rw [List.take_length, textL, Hb.out, List.append_assoc]; rfl
   rw [HL.out] at hcv
   go_wp2_with fail
   exact bodyPost_ret (v := .tuple #[.string ⟨(textL tag ss).toArray⟩, .int .i64 0]) (by simp [results, Try.results76, go_sem]) rfl ⟨rfl, HBe.out⟩
set_option maxHeartbeats 4000000 in
theorem refDigest_wide (n : Int) (tag : ByteArray) (v : Value) (ss : List ByteArray) (w : World) (hv : Hid (StrRow w v ss)) (hlen : tag.size + (ss.flatMap partL).length < 140737488355000) (hn : ss.length ≤ 9223372036854775807) :
  Calls Try.prog 44 #[.int .i64 n, .string tag, v] w fun e w' => e = .returned (.tuple #[dv (digL n tag ss), .int .i64 (digE n tag)]) ∧ Below w.heap.size w w' := by
 have hlen' : tag.size + (ss.flatMap partL).length < 140737488355328 := by omega
 cases hw : wideB n
 ·have e1 : digL n tag ss = zeros32 := by unfold digL; rw [hw]; rfl
  have e2 : digE n tag = 2 := by unfold digE; rw [hw]; rfl
  rw [e1, e2]
  have HW := Lib.hid hw
  clear hw e1 e2
  go_enter Try.func44, Try.ntmps44
  go_upto_region 1 with (refine wpList_allocD rfl rfl w.heap.size rfl ?_; intro w1 hd1 hb1 hz1)
  have HD1 := Lib.hid hd1
  have HB1 := Lib.hid hb1
  clear hd1 hb1
  go_upto_region 2 with (go_at_call 75; refine (may_any _ _).mono ?_; rintro e w3 ⟨rfl, rfl⟩; rw [HW.out])
  go_wp2_with (first
   | (refine wpList_buildD rfl rfl ?_)
   | (refine wpList_storeD rfl _ _ rfl w.heap.size rfl zeros32 zeros32 rfl rfl rfl HD1.out ?_; intro w6 hd6 hb6 hk6 hz6))
  refine bodyPost_ret (v := .tuple #[dv zeros32, .int .i64 2]) ?_ rfl ⟨rfl, HB1.out.trans hb6⟩
  exact results_DE Try.results44 rfl rfl rfl hd6
 ·cases hb : badTag tag
  ·have e1 : digL n tag ss = cutL n (sha256 (textL tag ss)) := by unfold digL; rw [hw, hb]; rfl
   have e2 : digE n tag = cutE n := by unfold digE cutE; rw [hw, hb]; rfl
   rw [e1, e2]
   have HW := Lib.hid hw
   have HB := Lib.hid hb
   have Hl := Lib.hid (cutL_length n _ (sha256_length (textL tag ss)))
   have hts : (ByteArray.mk (textL tag ss).toArray).size ≤ 140737488355200 := by
    have h1 : (ByteArray.mk (textL tag ss).toArray).size = (textL tag ss).length := by simp [ByteArray.size]
    rw [h1, textL, List.length_cons, List.length_append, data_len]
    omega
   clear hw hb e1 e2
   go_enter Try.func44, Try.ntmps44
   go_upto_region 1 with (refine wpList_allocD rfl rfl w.heap.size rfl ?_; intro w1 hd1 hb1 hz1)
   have HD1 := Lib.hid hd1
   have HB1 := Lib.hid hb1
   have HV1 : Hid (StrRow w1 v ss) := hv.out.below' hb1
   clear hd1 hb1
   go_wp2_with (first
    | (go_at_call 75; refine (may_any _ _).mono ?_; rintro e w3 ⟨rfl, rfl⟩; rw [HW.out])
    | (go_at_call 76; refine (refText_any _ _ _ _ HB.out HV1 hlen' hn).mono ?_; rintro e w4 ⟨rfl, hb4⟩)
    | (go_at_call 65; refine (refOf_any _ _ _ hts).mono ?_; rintro e w5 ⟨rfl, hb5⟩; have HD5 : Hid (DB w5 w.heap.size zeros32) := DB.below (DB.below HD1.out hb4 (by omega)) hb5 (by have := hb4.size; omega))
    | (refine wpList_storeD rfl _ _ rfl w.heap.size rfl zeros32 (cutL n (sha256 (textL tag ss))) rfl Hl.out rfl HD5.out ?_; intro w6 hd6 hb6 hk6 hz6))
   refine bodyPost_ret (v := .tuple #[dv (cutL n (sha256 (textL tag ss))), .int .i64 (cutE n)]) ?_ rfl ⟨rfl, ((HB1.out.trans (hb4.mono (by omega))).trans (hb5.mono (by have := hb4.size; omega))).trans hb6⟩
   exact results_DE Try.results44 rfl rfl Hl.out hd6
  ·have e1 : digL n tag ss = zeros32 := by unfold digL; rw [hw, hb]; rfl
   have e2 : digE n tag = 20 := by unfold digE; rw [hw, hb]; rfl
   rw [e1, e2]
   have HW := Lib.hid hw
   have HB := Lib.hid hb
   have hts : tag.size ≤ 9223372036854775807 := by omega
   clear hw hb e1 e2
   go_enter Try.func44, Try.ntmps44
   go_upto_region 1 with (refine wpList_allocD rfl rfl w.heap.size rfl ?_; intro w1 hd1 hb1 hz1)
   have HD1 := Lib.hid hd1
   have HB1 := Lib.hid hb1
   clear hd1 hb1
   go_wp2_with (first
    | (go_at_call 75; refine (may_any _ _).mono ?_; rintro e w3 ⟨rfl, rfl⟩; rw [HW.out])
    | (go_at_call 76; refine (refText_bad _ _ _ HB.out hts).mono ?_; rintro e w4 ⟨rfl, rfl⟩)
    | (refine wpList_buildD rfl rfl ?_)
    | (refine wpList_storeD rfl _ _ rfl w.heap.size rfl zeros32 zeros32 rfl rfl rfl HD1.out ?_; intro w6 hd6 hb6 hk6 hz6))
   refine bodyPost_ret (v := .tuple #[dv zeros32, .int .i64 20]) ?_ rfl ⟨rfl, HB1.out.trans hb6⟩
   exact results_DE Try.results44 rfl rfl rfl hd6
end Go.Proofs.Ytihbhpggpnmifaa
