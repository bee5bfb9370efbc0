/-
 The walks of the document's Half, first, KnotText, Knot.
-/
import Derived.Test.YtihbhpggpnmifaaGR
import Derived.Maps.AppendAt
import Derived.Laws.AppendOwnNone
set_option linter.unusedSimpArgs false
set_option linter.unusedVariables false
namespace Go.Proofs.Ytihbhpggpnmifaa
open Go.RowKit Go.Lib Hw
theorem refHalf_any (n : Nat) (w : World) (h2 : 2 ≤ n) (hn : n ≤ 1048576) : Calls Try.prog 59 #[.int .i64 (n : Int)] w fun e w' => e = .returned (.int .i64 (halfN n : Int)) ∧ w = w' := by
 obtain ⟨R, hR⟩ : ∃ R, halfN n = R := ⟨_, rfl⟩
 have HR : Hid (halfFrom n (n - 1) 1 = R) := by show _ = _; rw [← hR]; exact halfFrom_fuel n _ _ 1 (by omega) (by omega) (by omega)
 rw [hR]
 clear hR
 go_enter Try.func59, Try.ntmps59
 go_wp2_with fail
 go_loop [3] (fun i => ∃ (k : Nat), 1 ≤ k ∧ k < n ∧ Hid (halfFrom n (n - k) k = R) ∧ i = .int .i64 (k : Int)) (fun i => n - (intOf i).toNat)
 case atStart => exact ⟨1, by omega, by omega, HR, rfl⟩
 case round =>
  clear HR
  obtain ⟨k, hk1, hk2, HR, rfl⟩ := hrel
  have w1 : IntKind.i64.wrap (2 * (k : Int)) = ((2 * k : Nat) : Int) := by rw [IntWalk.i64_in _ (by omega)]; omega
  by_cases hlt : 2 * k < n
  ·have d1 : decide (2 * (k : Int) < (n : Int)) = true := decide_eq_true (by omega)
   have d2 : decide (2 * k < n) = true := decide_eq_true hlt
   have HR2 : Hid (halfFrom n (n - 2 * k) (2 * k) = R) := by
    show _ = _
    rw [← HR.out]
    obtain ⟨f, hf⟩ : ∃ f, n - k = f + 1 := ⟨n - k - 1, by omega⟩
    rw [hf, halfFrom, if_pos hlt]
    exact halfFrom_fuel n _ _ _ (by omega) (by omega) (by omega)
   go_wp2_with fail
   exact ⟨⟨2 * k, by omega, hlt, HR2, by first | rfl | go_num⟩, by simp [intOf]; omega⟩
  ·have d1 : decide (2 * (k : Int) < (n : Int)) = false := decide_eq_false (by omega)
   have d2 : decide (2 * k < n) = false := decide_eq_false hlt
   have hkR : Hid (k = R) := by show _ = _; rw [← HR.out, halfFrom_done hlt]
   go_wp2_with fail
   go_ret
   exact ⟨by first | rfl | (rw [hkR.out]; rfl), rfl⟩
theorem bsOf_snoc (l : List UInt8) (k : Nat) (b : UInt8) (h : l[k]? = some b) : bsOf (l.take k) ++ ⟨#[b]⟩ = bsOf (l.take (k + 1)) := by
 apply ByteArray.ext
 apply Array.toList_inj.1
 rw [ByteArray.data_append, Array.toList_append, List.take_add_one, h]
 rfl
set_option maxHeartbeats 2000000 in
theorem first_any (m : Nat) (d : Dg) (w : World) (hm : m ≤ 32) (hd : Hid (d.length = 32)) :
  Calls Try.prog 78 #[.int .i64 (m : Int), dv d] w fun e w' => e = .returned (.string (bsOf (d.take m))) ∧ Below w.heap.size w w' := by
 go_enter Try.func78, Try.ntmps78
 go_upto_region 1 with (refine wpList_boxD rfl _ rfl d rfl w.heap.size rfl ?_; intro w1 hd1 hb1 hz1)
 try simp only [Act.put,nA,nB,nC]
 have D1 := Lib.hid hd1
 have B1 := Lib.hid hb1
 clear hd1 hb1
 go_wp2_with fail
 go_loopw [5, 6] (fun s i wr => ∃ (k : Nat), k ≤ m ∧ Hid (DB wr w.heap.size d) ∧ Hid (Below w.heap.size w wr) ∧ s = .string (bsOf (d.take k)) ∧ i = .int .i64 (k : Int)) (fun _ i _ => m - (intOf i).toNat)
 case atStart => exact ⟨0, by omega, D1, B1, rfl, rfl⟩
 case round =>
  obtain ⟨k, hk, HD, HB, rfl, rfl⟩ := hrel
  by_cases hlt : k < m
  ·have dk : decide (k < m) = true := decide_eq_true hlt
   have dk2 : decide ((k : Int) < (m : Int)) = true := decide_eq_true (by omega)
   have ik : (k : Int) < 32 := by omega
   have hkl : k < d.length := by rw [hd.out]; omega
   have hc := HD.out.cell k hkl
   obtain ⟨b, hb⟩ : ∃ b, d[k] = b := ⟨_, rfl⟩
   have hsn := bsOf_snoc d k b (by rw [List.getElem?_eq_getElem hkl, hb])
   have hsz : (bsOf (d.take k)).size = k := by rw [bsOf_size, List.length_take]; omega
   rw [hb] at hc
   obtain ⟨s, hs⟩ : ∃ s, bsOf (d.take k) = s := ⟨_, rfl⟩
   obtain ⟨s2, hs2⟩ : ∃ s, bsOf (d.take (k + 1)) = s := ⟨_, rfl⟩
   rw [hs, hs2] at hsn
   rw [hs] at hsz
   rw [hs]
   have HS := Lib.hid hs2
   have hadd : (9223372036854775807 < s.size + 1) = False := eq_false (by omega)
   clear hs hs2 hb hsz
   have hcv : (convert 121 9 (.slice (some ⟨wr.heap.size, 0, none⟩) 1 1)).run Try.prog (wr.alloc (.cells #[.int .u8 (b.toNat : Int)] 5)) = .ok (.string ⟨#[b]⟩) (wr.alloc (.cells #[.int .u8 (b.toNat : Int)] 5)) :=
    conv_own (OwnB.lit wr [b] 1 rfl (by decide))
   go_wp2_with fail
   rw [← HS.out]
   exact ⟨⟨k + 1, by omega, DB.alloc HD.out _, HB.out.alloc HB.out.size _, rfl, by go_num⟩, by simp [intOf]; omega⟩
  ·obtain rfl : k = m := by omega
   have dk : decide (k < k) = false := decide_eq_false hlt
   have dk2 : decide ((k : Int) < (k : Int)) = false := decide_eq_false (by omega)
   go_wp2_with fail
   go_ret
   exact ⟨rfl, HB.out⟩
def knotT (m : Nat) (x y : Dg) : ByteArray := ⟨(textL knotTag [bsOf (x.take m), bsOf (y.take m)]).toArray⟩
theorem knot_len (m : Nat) (x y : Dg) (hm : m ≤ 32) : knotTag.size + ([bsOf (x.take m), bsOf (y.take m)].flatMap partL).length ≤ 104 := by
 have h1 : (bsOf (x.take m)).size ≤ 32 := by rw [bsOf_size, List.length_take]; omega
 have h2 : (bsOf (y.take m)).size ≤ 32 := by rw [bsOf_size, List.length_take]; omega
 have h3 := parts2_len _ _ h1 h2
 have h4 : knotTag.size = 4 := rfl
 omega
theorem knotT_size (m : Nat) (x y : Dg) (hm : m ≤ 32) : (knotT m x y).size ≤ 105 := by
 have h := knot_len m x y hm
 have h1 : (knotT m x y).size = (textL knotTag [bsOf (x.take m), bsOf (y.take m)]).length := by simp [knotT, ByteArray.size]
 have h2 : knotTag.data.toList.length = knotTag.size := by rw [Array.length_toList]; rfl
 rw [h1, textL, List.length_cons, List.length_append, h2]
 omega
theorem knotD_of (m : Nat) (x y : Dg) (hm : wideB (m : Int) = true) : cutL m (sha256 (knotT m x y).data.toList) = knotD m x y := by
 unfold knotD digL
 rw [hm, show badTag knotTag = false by decide +kernel]
 rfl
set_option maxHeartbeats 4000000 in
theorem KnotText_any (m : Nat) (x y : Dg) (w : World) (hm : m ≤ 32) (hx : Hid (x.length = 32)) (hy : Hid (y.length = 32)) :
  Calls Try.prog 64 #[.int .i64 (m : Int), dv x, dv y] w fun e w' => e = .returned (.string (knotT m x y)) ∧ Below w.heap.size w w' := by
 have hlen := knot_len m x y hm
 obtain ⟨T, hT⟩ : ∃ T, knotT m x y = T := ⟨_, rfl⟩
 rw [hT]
 have HT : Hid ((⟨(textL knotTag [bsOf (x.take m), bsOf (y.take m)]).toArray⟩ : ByteArray) = T) := hT
 obtain ⟨s1, hs1⟩ : ∃ s, bsOf (x.take m) = s := ⟨_, rfl⟩
 obtain ⟨s2, hs2⟩ : ∃ s, bsOf (y.take m) = s := ⟨_, rfl⟩
 rw [hs1, hs2] at HT hlen
 have HS1 := Lib.hid hs1
 have HS2 := Lib.hid hs2
 have HLen := Lib.hid hlen
 clear hT hs1 hs2 hlen
 obtain ⟨N, hN⟩ : ∃ N, w.heap.size = N := ⟨_, rfl⟩
 rw [hN]
 go_enter Try.func64, Try.ntmps64
 go_upto_region 0 with fail
 refine wp_region_list ?_
 refine wpList_boxD rfl _ rfl x rfl N hN ?_
 intro w0 e0 b0 z0
 try simp only [Act.put,nA,nB,nC]
 refine wpList_boxD rfl _ rfl y rfl (N + 1) z0 ?_
 intro w1 e1 b1 z1
 try simp only [Act.put,nA,nB,nC]
 (refine wpList_plain rfl (fun K hK => ?_)); go_simp; refine hK _ _ ?_; clear hK K; try simp only [Act.put,nA,nB,nC]
 have X1 := Lib.hid (heap_below e0 b1 (by omega))
 have Y1 := Lib.hid e1
 have B1 := Lib.hid (b0.trans (b1.mono (by omega)))
 clear e0 b0 z0 e1 b1
 go_upto_region 1 with fail
 refine wp_region_held_drew (S := fun W => DB W N x ∧ DB W (N + 1) y) (by kernel_rfl) ⟨X1.out, Y1.out⟩ (fun hHeld => ?_)
 refine' tQ 0 ⟨some 10, .move (.tmp 0), 3, "ref.go:41", #[], none⟩ rfl (by kernel_rfl) (Or.inl ⟨by rfl, _⟩) _; rotate_left; · (intro s h; (try dsimp only at h); go_simp; try with_reducible rfl)
 try simp only [Act.put,nA,nB,nC]
 refine' tQ 1 ⟨some 11, .load 23 (.tmp 4), 23, "ref.go:41", #[], none⟩ rfl (by kernel_rfl) (yieldsIf_loadD (by rfl) _ rfl (N) rfl (x) (hx.out) (fun W hW => hW.1)) _
 try simp only [Act.put,nA,nB,nC]
 refine' tQ 3 ⟨some 13, .move (.tmp 0), 3, "ref.go:41", #[], none⟩ rfl (by kernel_rfl) (Or.inl ⟨by rfl, _⟩) _; rotate_left; · (intro s h; (try dsimp only at h); go_simp; try with_reducible rfl)
 try simp only [Act.put,nA,nB,nC]
 refine' tQ 4 ⟨some 14, .load 23 (.tmp 5), 23, "ref.go:41", #[], none⟩ rfl (by kernel_rfl) (yieldsIf_loadD (by rfl) _ rfl ((N + 1)) rfl (y) (hy.out) (fun W hW => hW.2)) _
 try simp only [Act.put,nA,nB,nC]
 refine wpAnyH_ready (rs := [2]) (by kernel_rfl) (by simp) ?_
 refine AllReadyH.cons (o := ⟨some 12, .call ⟨.value (.func 78), #[.tmp 10, .tmp 11], #[3, 23]⟩, 9, "ref.go:41", #[⟨0, .data⟩, ⟨1, .data⟩], none⟩) rfl (fun K hK => ?_) AllReadyH.nil
 (go_simp; (go_at_call 78; refine (first_any m x _ hm hx).mono ?_; rintro e w2 ⟨rfl, b2'⟩; rw [HS1.out]; have b2 : Below w1.heap.size w1 w2 := Below.trans (Below.refl _ _).drew b2'))
 refine hK.out _ _ ?_ (fun hHeld => ?_)
 ·exact ⟨heap_below X1.out b2 (by omega), heap_below Y1.out b2 (by omega)⟩
 clear hK K
 try simp only [Act.put,nA,nB,nC]
 have X2 := Lib.hid (heap_below X1.out b2 (by omega))
 have Y2 := Lib.hid (heap_below Y1.out b2 (by omega))
 have B2 := Lib.hid (B1.out.trans (b2.mono (by omega)))
 have z2 := b2.size
 clear b2 b2' X1 Y1 B1
 refine wpAnyH_ready (rs := [5]) (by kernel_rfl) (by simp) ?_
 refine AllReadyH.cons (o := ⟨some 15, .call ⟨.value (.func 78), #[.tmp 13, .tmp 14], #[3, 23]⟩, 9, "ref.go:41", #[⟨3, .data⟩, ⟨4, .data⟩, ⟨2, .chain⟩], none⟩) rfl (fun K hK => ?_) AllReadyH.nil
 (go_simp; (go_at_call 78; refine (first_any m y _ hm hy).mono ?_; rintro e w3 ⟨rfl, b3⟩; rw [HS2.out]))
 refine hK.out _ _ ?_ (fun hHeld => ?_)
 ·exact ⟨heap_below X2.out b3 (by omega), heap_below Y2.out b3 (by omega)⟩
 clear hK K
 try simp only [Act.put,nA,nB,nC]
 have X3 := Lib.hid (heap_below X2.out b3 (by omega))
 have Y3 := Lib.hid (heap_below Y2.out b3 (by omega))
 have B3 := Lib.hid (B2.out.trans (b3.mono (by omega)))
 have z3 := b3.size
 clear b3 X2 Y2 B2
 refine wpAnyH_ready (rs := [6]) (by kernel_rfl) (by simp) ?_
 refine AllReadyH.cons (o := ⟨some 16, .buildSlice 37 2 #[(0, .tmp 12), (1, .tmp 15)], 37, "ref.go:41", #[⟨2, .data⟩, ⟨5, .data⟩], none⟩) rfl (fun K hK => ?_) AllReadyH.nil
 go_simp
 refine hK.out _ _ ?_ (fun hHeld => ?_)
 ·exact ⟨heap_below X3.out ((Below.refl w3.heap.size w3).alloc (Nat.le_refl _) _) (by omega), heap_below Y3.out ((Below.refl w3.heap.size w3).alloc (Nat.le_refl _) _) (by omega)⟩
 clear hK K
 try simp only [Act.put,nA,nB,nC]
 obtain ⟨w4, hw4⟩ : ∃ W, w3.alloc (.cells #[.string s1, .string s2] 9) = W := ⟨_, rfl⟩
 have b4 : Below w3.heap.size w3 w4 := by rw [← hw4]; exact (Below.refl _ _).alloc (Nat.le_refl _) _
 have R4 : Hid (StrRow w4 (.slice (some ⟨w3.heap.size, 0, none⟩) 2 2) [s1, s2]) := by rw [← hw4]; exact StrRow.two w3 s1 s2 _ _ rfl
 rw [hw4] at hHeld ⊢
 have X4 := Lib.hid (heap_below X3.out b4 (by omega))
 have Y4 := Lib.hid (heap_below Y3.out b4 (by omega))
 have B4 := Lib.hid (B3.out.trans (b4.mono (by omega)))
 have z4 := b4.size
 clear hw4 b4 X3 Y3 B3
 refine wpAnyH_ready (rs := [7]) (by kernel_rfl) (by simp) ?_
 refine AllReadyH.cons (o := { dst := Option.some 17, op := Op.call { callee := Callee.value (Operand.func 76), args := #[Operand.const (Value.string { data := #[107, 110, 111, 116] }), Operand.tmp 16], argTypes := #[9, 37] }, type := 111, pos := "ref.go:41", after := #[{ on := 6, ground := Ground.data }, { on := 5, ground := Ground.chain }], guard := Option.none }) rfl (fun K hK => ?_) AllReadyH.nil
 (go_simp; (go_at_call 76; refine (refText_any knotTag _ [s1, s2] _ (by decide +kernel) R4 (by have := HLen.out; omega) (by simp)).mono ?_; rintro e w5 ⟨rfl, b5⟩; rw [HT.out]))
 refine hK.out _ _ ?_ (fun hHeld => ?_)
 ·exact ⟨heap_below X4.out b5 (by omega), heap_below Y4.out b5 (by omega)⟩
 clear hK K
 try simp only [Act.put,nA,nB,nC]
 refine' tQ 8 ⟨some 9, .move (.tmp 17), 111, "ref.go:41", #[⟨7, .data⟩], none⟩ rfl (by kernel_rfl) (Or.inl ⟨by rfl, _⟩) _; rotate_left; · (intro s h; (try dsimp only at h); go_simp; try with_reducible rfl)
 try simp only [Act.put,nA,nB,nC]
 refine' tQ 9 ⟨some 18, .extract (.tmp 9) 0, 9, "ref.go:41", #[⟨8, .data⟩], none⟩ rfl (by kernel_rfl) (Or.inl ⟨by rfl, _⟩) _; rotate_left; · (intro s h; (try dsimp only at h); go_simp; try with_reducible rfl)
 try simp only [Act.put,nA,nB,nC]
 refine' tQ 10 ⟨some 19, .extract (.tmp 9) 1, 24, "ref.go:41", #[⟨8, .data⟩, ⟨11, .gcOnly .lateStores⟩], none⟩ rfl (by kernel_rfl) (Or.inl ⟨by rfl, _⟩) _; rotate_left; · (intro s h; (try dsimp only at h); go_simp; try with_reducible rfl)
 try simp only [Act.put,nA,nB,nC]
 refine' tQ 11 ⟨some 7, .assign (.tmp 18), 9, "ref.go:41", #[⟨9, .data⟩, ⟨7, .chain⟩, ⟨0, .phase⟩, ⟨1, .phase⟩, ⟨2, .phase⟩, ⟨3, .phase⟩, ⟨4, .phase⟩, ⟨5, .phase⟩, ⟨6, .phase⟩, ⟨7, .phase⟩, ⟨8, .phase⟩, ⟨9, .phase⟩, ⟨10, .textOnly .lateStores⟩], none⟩ rfl (by kernel_rfl) (Or.inl ⟨by rfl, _⟩) _; rotate_left; · (intro s h; (try dsimp only at h); go_simp; try with_reducible rfl)
 try simp only [Act.put,nA,nB,nC]
 refine' tQ 12 ⟨some 8, .assign (.tmp 19), 24, "ref.go:41", #[⟨10, .data⟩, ⟨11, .chain⟩, ⟨0, .phase⟩, ⟨1, .phase⟩, ⟨2, .phase⟩, ⟨3, .phase⟩, ⟨4, .phase⟩, ⟨5, .phase⟩, ⟨6, .phase⟩, ⟨7, .phase⟩, ⟨8, .phase⟩, ⟨9, .phase⟩, ⟨10, .phase⟩, ⟨11, .phase⟩], none⟩ rfl (by kernel_rfl) (Or.inl ⟨by rfl, _⟩) _; rotate_left; · (intro s h; (try dsimp only at h); go_simp; try with_reducible rfl)
 try simp only [Act.put,nA,nB,nC]
 refine wpAnyH_done (by kernel_rfl) ?_ _
 have HB := Lib.hid (B4.out.trans (b5.mono (by omega)))
 clear b5 X4 Y4 B4 R4 hHeld
 go_wp2_with fail
 go_ret
 exact ⟨rfl, HB.out⟩
set_option maxHeartbeats 2000000 in
theorem refKnot_any (m : Nat) (x y : Dg) (w : World) (h1 : 1 ≤ m) (hm : m ≤ 32) (hx : Hid (x.length = 32)) (hy : Hid (y.length = 32)) :
  Calls Try.prog 60 #[.int .i64 (m : Int), dv x, dv y] w fun e w' => e = .returned (dv (knotD m x y)) ∧ Below w.heap.size w w' := by
 have hw : wideB (m : Int) = true := by simp [wideB]; omega
 have hkd := knotD_of m x y hw
 have hsz := knotT_size m x y hm
 have Hl := Lib.hid (knotD_length m x y)
 obtain ⟨T, hT⟩ : ∃ T, knotT m x y = T := ⟨_, rfl⟩
 obtain ⟨K, hK⟩ : ∃ K, knotD m x y = K := ⟨_, rfl⟩
 rw [hT, hK] at hkd
 rw [hT] at hsz
 rw [hK] at Hl ⊢
 have HT := Lib.hid hT
 have HK := Lib.hid hkd
 clear hT hK hkd hw
 obtain ⟨N, hN⟩ : ∃ N, w.heap.size = N := ⟨_, rfl⟩
 rw [hN]
 go_enter Try.func60, Try.ntmps60
 go_upto_region 0 with fail
 refine wp_region_list ?_
 refine wpList_boxD rfl _ rfl x rfl N hN ?_
 intro w0 e0 b0 z0
 try simp only [Act.put,nA,nB,nC]
 refine wpList_boxD rfl _ rfl y rfl (N + 1) z0 ?_
 intro w1 e1 b1 z1
 try simp only [Act.put,nA,nB,nC]
 refine wpList_allocD rfl rfl (N + 2) z1 ?_
 intro w2 e2 b2 z2
 try simp only [Act.put,nA,nB,nC]
 have X2 := Lib.hid (heap_below (heap_below e0 b1 (by omega)) b2 (by omega))
 have Y2 := Lib.hid (heap_below e1 b2 (by omega))
 have Z2 := Lib.hid e2
 have B2 := Lib.hid ((b0.trans (b1.mono (by omega))).trans (b2.mono (by omega)))
 clear e0 b0 z0 e1 b1 z1 e2 b2
 go_upto_region 1 with fail
 refine wp_region_list ?_
 iterate 2
  (refine wpList_plain rfl (fun K hK => ?_)); go_simp; refine hK _ _ ?_; clear hK K; try simp only [Act.put,nA,nB,nC]
 refine wpList_loadD rfl _ rfl N rfl x hx.out X2.out ?_
 try simp only [Act.put,nA,nB,nC]
 refine wpList_loadD rfl _ rfl (N + 1) rfl y hy.out Y2.out ?_
 try simp only [Act.put,nA,nB,nC]
 refine wpList_plain rfl (fun K hK => ?_)
 go_simp
 refine (KnotText_any m x y w2 hm hx hy).mono ?_; rintro e w3 ⟨rfl, b3⟩; rw [HT.out]
 refine hK _ _ ?_
 clear hK K
 try simp only [Act.put,nA,nB,nC]
 have z3 := b3.size
 have Z3 := Lib.hid (heap_below Z2.out b3 (by omega))
 have B3 := Lib.hid (B2.out.trans (b3.mono (by omega)))
 clear b3 X2 Y2 Z2 B2
 refine wpList_plain rfl (fun K hK => ?_)
 go_simp
 refine (refOf_any (m : Int) T w3 (by omega)).mono ?_; rintro e w4 ⟨rfl, b4⟩; rw [HK.out]
 refine hK _ _ ?_
 clear hK K
 try simp only [Act.put,nA,nB,nC]
 have z4 := b4.size
 have Z4 := Lib.hid (heap_below Z3.out b4 (by omega))
 have B4 := Lib.hid (B3.out.trans (b4.mono (by omega)))
 clear b4 Z3 B3
 iterate 3
  (refine wpList_plain rfl (fun K hK => ?_)); go_simp; refine hK _ _ ?_; clear hK K; try simp only [Act.put,nA,nB,nC]
 refine wpList_allocD rfl rfl w4.heap.size rfl ?_
 intro w5 e5 b5 z5
 try simp only [Act.put,nA,nB,nC]
 refine wpList_storeD rfl _ _ rfl w4.heap.size rfl zeros32 K rfl Hl.out rfl e5 ?_
 intro w6 e6 b6 k6 z6
 try simp only [Act.put,nA,nB,nC]
 have b46 : Below w4.heap.size w4 w6 := b5.trans b6
 have Z6 := Lib.hid (heap_below Z4.out b46 (by omega))
 have K6 := Lib.hid e6
 have B6 := Lib.hid (B4.out.trans (b46.mono (by omega)))
 clear e5 b5 z5 e6 b6 k6 b46 Z4 B4
 (refine wpList_plain rfl (fun K hK => ?_)); go_simp; refine hK _ _ ?_; clear hK K; try simp only [Act.put,nA,nB,nC]
 go_upto_region 2 with fail
 refine wp_region_list ?_
 set_option maxRecDepth 20000 in
 refine wpList_loadD rfl _ rfl w4.heap.size rfl K Hl.out K6.out ?_
 try simp only [Act.put,nA,nB,nC]
 refine wpList_storeD rfl _ _ rfl (N + 2) rfl zeros32 K rfl Hl.out rfl Z6.out ?_
 intro w7 e7 b7 k7 z7
 have E7 := Lib.hid e7
 have HB := Lib.hid (B6.out.trans (b7.mono (by omega)))
 clear e7 b7 k7 Z6 K6 B6
 go_wp2_with fail
 refine bodyPost_ret (v := dv K) ?_ rfl ⟨rfl, HB.out⟩
 exact results_cell1 Try.results60 rfl (DB.load E7.out Hl.out)
end Go.Proofs.Ytihbhpggpnmifaa
namespace Go.Proofs.Ytihbhpggpnmifaa
open Go.RowKit Go.Lib Hw
theorem fit_iff (m : Nat) (x : Dg) (hw : wideB (m : Int) = true) (hx : x.length = 32) : fitB (m : Int) x = true ↔ ∀ j, m ≤ j → j < 32 → x[j]? = some 0 := by
 have hm := wideB_yes hw
 unfold fitB cutL
 rw [hw]
 simp only [cond_true, Int.toNat_natCast, beq_iff_eq]
 unfold lay32
 constructor
 ·intro h j h1 h2
  rw [← h, List.getElem?_append_right (by rw [List.length_take]; omega), List.getElem?_replicate, if_pos (by rw [List.length_take]; omega)]
 ·intro h
  apply List.ext_getElem?
  intro j
  by_cases h1 : j < m
  ·rw [List.getElem?_append_left (by rw [List.length_take]; omega), List.getElem?_take_of_lt h1]
  ·by_cases h2 : j < 32
   ·rw [List.getElem?_append_right (by rw [List.length_take]; omega), List.getElem?_replicate, if_pos (by rw [List.length_take]; omega), h j (by omega) h2]
   ·rw [List.getElem?_eq_none (by rw [List.length_append, List.length_take, List.length_replicate]; omega), List.getElem?_eq_none (by omega)]
theorem u8_zero (x : UInt8) : ((x.toNat : Int) = 0) ↔ x = 0 := by
 constructor
 ·intro h
  apply UInt8.toNat_inj.1
  show x.toNat = 0
  omega
 ·rintro rfl; rfl
set_option maxHeartbeats 4000000 in
theorem rFits_any (n : Int) (v : Value) (xs : List Dg) (w : World) (lim : Nat) (hd : Hid (DRow w lim v xs)) :
  Calls Try.prog 47 #[.int .i64 n, v] w fun e w' => e = .returned (.bool (wideB n && fitsL n xs)) ∧ w = w' := by
 obtain ⟨h0, ad, c, rfl, h1, h2, h3⟩ := hd.out
 have H0 := Lib.hid h0
 have H3 := Lib.hid h3
 clear h0 h3
 cases hw : wideB n
 ·have HW := Lib.hid hw
  clear hw
  go_enter Try.func47, Try.ntmps47
  go_wp2_with (go_at_call 22; refine (refRight_any _ _).mono ?_; rintro e w3 ⟨rfl, rfl⟩; rw [HW.out])
  go_ret
  exact ⟨rfl, rfl⟩
 ·obtain ⟨m, rfl⟩ : ∃ m : Nat, n = (m : Int) := ⟨n.toNat, by have := wideB_yes hw; omega⟩
  have hm := wideB_yes hw
  have hm1 : 1 ≤ m := by omega
  have hm2 : m ≤ 32 := by omega
  have HW := Lib.hid hw
  obtain ⟨R, hR⟩ : ∃ R, (true && fitsL (m : Int) xs) = R := ⟨_, rfl⟩
  rw [hR]
  have HR : Hid (fitsL (m : Int) xs = R) := by show _ = _; rw [← hR]; rfl
  clear hw hm hR
  go_enter Try.func47, Try.ntmps47
  go_wp2_with (go_at_call 22; refine (refRight_any _ _).mono ?_; rintro e w3 ⟨rfl, rfl⟩; rw [HW.out])
  go_loop [5] (fun i => ∃ (k : Nat), k ≤ xs.length ∧ Hid (fitsL (m : Int) (xs.take k) = true) ∧ i = .int .i64 (k : Int)) (fun i => xs.length - (intOf i).toNat)
  case atStart => exact ⟨0, Nat.zero_le _, rfl, rfl⟩
  case round =>
   obtain ⟨k, hk, HF, rfl⟩ := hrel
   by_cases hlt : k < xs.length
   ·have dk : decide (k < xs.length) = true := decide_eq_true hlt
    have dk2 : decide ((k : Int) < (xs.length : Int)) = true := decide_eq_true (by omega)
    have ik : (k : Int) < (xs.length : Int) := by omega
    obtain ⟨b, o, rfl, hb, hbw, hr⟩ := H3.out (by omega)
    have hx := H0.out xs[k] (List.getElem_mem hlt)
    have hrk := hr k hlt
    have hsn : fitsL (m : Int) (xs.take (k + 1)) = (fitsL (m : Int) (xs.take k) && fitB (m : Int) xs[k]) := by
     unfold fitsL
     rw [List.take_add_one, List.getElem?_eq_getElem hlt, List.all_append]
     simp
    have hall : fitB (m : Int) xs[k] = false → R = false := fun hf => by
     rw [← HR.out]
     unfold fitsL
     rw [List.all_eq_false]
     exact ⟨xs[k], List.getElem_mem hlt, by rw [hf]; decide⟩
    obtain ⟨X, hX⟩ : ∃ X, xs[k] = X := ⟨_, rfl⟩
    rw [hX] at hx hrk hsn hall
    rw [HF.out] at hsn
    have hfi := fit_iff m X HW.out hx
    have HX := Lib.hid hx
    have HRk := Lib.hid hrk
    have HSn := Lib.hid hsn
    have HAll := Lib.hid hall
    have HFi := Lib.hid hfi
    clear hr hx hrk hsn hall hX hfi
    go_wp2_with fail
    go_loop [6] (fun j => ∃ (q : Nat), m ≤ q ∧ q ≤ 32 ∧ Hid (∀ i, m ≤ i → i < q → X[i]? = some 0) ∧ j = .int .i64 (q : Int)) (fun j => 32 - (intOf j).toNat)
    case atStart => exact ⟨m, Nat.le_refl _, hm2, fun i h1 h2 => by omega, rfl⟩
    case round =>
     obtain ⟨q, hq1, hq2, HQ, rfl⟩ := hrel
     by_cases hql : q < 32
     ·have dq : decide (q < 32) = true := decide_eq_true hql
      have dq2 : decide ((q : Int) < 32) = true := decide_eq_true (by omega)
      have iq : (q : Int) < 32 := by omega
      have hqx : q < X.length := by rw [HX.out]; exact hql
      have hcell := HRk.out q (bv X[q]) (by rw [List.getElem?_map, List.getElem?_eq_getElem hqx]; rfl)
      unfold bv at hcell
      by_cases hz : X[q] = 0
      ·have hQ2 : Hid (∀ i, m ≤ i → i < q + 1 → X[i]? = some 0) := fun i h1 h2 => by
        by_cases hiq : i = q
        ·subst hiq; rw [List.getElem?_eq_getElem hqx, hz]
        ·exact HQ.out i h1 (by omega)
       rw [hz] at hcell
       have hcell' : w.cell? ⟨b, o + k * 32 + q, none⟩ = some (.int .u8 0) := hcell
       clear hcell
       go_wp2_with fail
       exact ⟨⟨q + 1, by omega, by omega, hQ2, by go_num⟩, by simp [intOf]; omega⟩
      ·have hne : ¬ ((X[q].toNat : Int) = 0) := fun h => hz ((u8_zero _).1 h)
       have hbf : fitB (m : Int) X = false := by
        cases hf : fitB (m : Int) X
        ·rfl
        ·have h5 := HFi.out.1 hf q hq1 hql
         rw [List.getElem?_eq_getElem hqx] at h5
         exact absurd (Option.some.inj h5) hz
       have hR0 := Lib.hid (HAll.out hbf)
       obtain ⟨z, hzz⟩ : ∃ z : Int, (X[q].toNat : Int) = z := ⟨_, rfl⟩
       rw [hzz] at hcell hne
       have hzb : (z != 0) = true := by simp [hne]
       have hzb2 : (z == 0) = false := by simp [hne]
       clear hz hbf hzz
       go_wp2_with fail
       go_ret
       exact ⟨by rw [hR0.out]; rfl, rfl⟩
     ·obtain rfl : q = 32 := by omega
      have hfx : fitB (m : Int) X = true := HFi.out.2 (fun j h1 h2 => HQ.out j h1 h2)
      have HF2 : Hid (fitsL (m : Int) (xs.take (k + 1)) = true) := by
       show _ = _
       rw [HSn.out, hfx]; rfl
      clear hfx
      go_wp2_with fail
      exact ⟨⟨k + 1, by omega, HF2, by go_num⟩, by simp [intOf]; omega⟩
   ·have hk2 : k = xs.length := by omega
    have dk : decide (k < xs.length) = false := decide_eq_false hlt
    have dk2 : decide ((k : Int) < (xs.length : Int)) = false := decide_eq_false (by omega)
    have HR2 : Hid (R = true) := by
     show R = true
     rw [← HR.out, ← HF.out, hk2, List.take_length]
    go_wp2_with fail
    go_ret
    exact ⟨by rw [HR2.out]; rfl, rfl⟩
end Go.Proofs.Ytihbhpggpnmifaa
namespace Go.Proofs.Ytihbhpggpnmifaa
open Go.RowKit Go.Lib Hw
theorem rowV_app (a b : List Dg) : rowV (a ++ b) = rowV a ++ rowV b := List.flatMap_append ..
theorem rowV_split (xs : List Dg) (i : Nat) (h : i < xs.length) : rowV xs = rowV (xs.take i) ++ (xs[i].map bv ++ rowV (xs.drop (i + 1))) := by
 conv => lhs; rw [← List.take_append_drop i xs, List.drop_eq_getElem_cons h]
 rw [rowV_app]
 rfl
theorem All32.take {xs : List Dg} (h : All32 xs) (i : Nat) : All32 (xs.take i) := fun d hd => h d (List.mem_of_mem_take hd)
theorem All32.drop {xs : List Dg} (h : All32 xs) (i : Nat) : All32 (xs.drop i) := fun d hd => h d (List.mem_of_mem_drop hd)
theorem All32.set {xs : List Dg} (h : All32 xs) (i : Nat) {d : Dg} (hd : d.length = 32) : All32 (xs.set i d) := fun x hx => by
 rcases List.mem_or_eq_of_mem_set hx with h1 | h1
 ·exact h x h1
 ·rw [h1]; exact hd
theorem rowV_set (xs : List Dg) (i : Nat) (h : i < xs.length) (d : Dg) : rowV (xs.set i d) = rowV (xs.take i) ++ (d.map bv ++ rowV (xs.drop (i + 1))) := by
 rw [List.set_eq_take_append_cons_drop, if_pos h, rowV_app]
 rfl
theorem OwnR.put {w : World} {B g n cap : Nat} {xs : List Dg} (h : OwnR w B (.slice (some ⟨g, 0, none⟩) n cap) xs) (hA : All32 xs) (i : Nat) (hi : i < xs.length) (d : Dg) (hd : d.length = 32) :
  OwnR (w.setCells g (i * 32) (d.map bv)) B (.slice (some ⟨g, 0, none⟩) n cap) (xs.set i d) ∧ Kept g w (w.setCells g (i * 32) (d.map bv)) ∧ w.there g (i * 32) 32 := by
 have hdl : (d.map bv).length = 32 := by rw [List.length_map, hd]
 have hlen : (xs.set i d).length = xs.length := List.length_set ..
 rcases h.2 with ⟨hn, _⟩ | ⟨g', cap', cur, hv, hB, hg, h1, h2, h3, h4⟩
 ·cases hn
 ·simp only [Value.slice.injEq, Option.some.injEq, Addr.mk.injEq, and_true] at hv
  obtain ⟨rfl, rfl, rfl⟩ := hv
  have hsz : cur.toList.length = cap * 32 := by rw [Array.length_toList]; exact h3
  have hil : i * 32 + 32 ≤ cur.toList.length := by rw [hsz]; omega
  have hg' : w.heap[g]? = some (.cells cur.toList.toArray 23 (0, 0)) := by rw [hg]
  obtain ⟨p1, p2⟩ := block_put hg' (i * 32) (d.map bv) (by rw [hdl]; exact hil)
  rw [hdl] at p1
  refine ⟨⟨?_, .inr ⟨g, cap, _, by rw [hlen], hB, p1, by rw [hlen]; exact h1, h2, ?_, ?_⟩⟩, p2, ?_⟩
  ·rw [rowV_len (hA.set i hd)]
  ·rw [List.size_toArray]
   simp only [List.length_append, List.length_take, List.length_drop, hdl]
   omega
  ·have e0 : cur.toList = rowV xs ++ cur.toList.drop (xs.length * 32) := by
    conv => lhs; rw [← List.take_append_drop (xs.length * 32) cur.toList, h4]
   have l1 : (rowV (xs.take i)).length = i * 32 := by rw [rowV_len (hA.take i), List.length_take]; omega
   have l2 : (xs[i].map bv).length = 32 := by rw [List.length_map, hA _ (List.getElem_mem hi)]
   have l3 : (rowV (xs.drop (i + 1))).length = (xs.length - (i + 1)) * 32 := by rw [rowV_len (hA.drop _), List.length_drop]
   rw [rowV_split xs i hi] at e0
   have t1 : cur.toList.take (i * 32) = rowV (xs.take i) := by
    rw [e0, List.append_assoc, List.take_append_of_le_length (by omega), List.take_of_length_le (by omega)]
   have t2 : cur.toList.drop (i * 32 + 32) = rowV (xs.drop (i + 1)) ++ cur.toList.drop (xs.length * 32) := by
    have e1 : cur.toList = (rowV (xs.take i) ++ xs[i].map bv) ++ (rowV (xs.drop (i + 1)) ++ cur.toList.drop (xs.length * 32)) := e0.trans (by simp only [List.append_assoc])
    have e2 := congrArg (List.drop (i * 32 + 32)) e1
    rw [List.drop_left' (by rw [List.length_append, l1, l2])] at e2
    exact e2
   rw [hlen, List.toList_toArray, t1, t2, rowV_set xs i hi d]
   rw [List.append_assoc, ← List.append_assoc (d.map bv), ← List.append_assoc]
   rw [List.take_append_of_le_length (by simp only [List.length_append, l1, hdl, l3]; omega), List.take_of_length_le (by simp only [List.length_append, l1, hdl, l3]; omega)]
  ·intro j hj
   have h5 := there_all hg (i * 32 + j) (by rw [h3]; omega)
   rw [Nat.zero_add] at h5
   exact h5
section
variable {ops : Array Oper} {rest : List Oper} {o : Oper} {a : Act} {w : World} {K : Act → World → Prop} {Q : Exit → Act → World → Prop}
theorem wpList_storeR (hgd : o.guard = none) (x y : Operand) (ho : o.op = .store 23 x y) {B g n cap : Nat} {xs : List Dg} (h : OwnR w B (.slice (some ⟨g, 0, none⟩) n cap) xs) (hA : All32 xs) (i : Nat) (hi : i < xs.length) (hx : a.eval x = .pointer (some ⟨g, i * 32, none⟩)) (d : Dg) (hd : d.length = 32) (hy : a.eval y = dv d)
  (hK : ∀ W, OwnR W B (.slice (some ⟨g, 0, none⟩) n cap) (xs.set i d) → Kept g w W → W.heap.size = w.heap.size → wpList Try.prog ops Q rest (a.put o.dst undef) W) : wpList Try.prog ops Q (o :: rest) a w := by
 have hdl : (d.map bv).length = 32 := by rw [List.length_map, hd]
 obtain ⟨p1, p2, p3⟩ := h.put hA i hi d hd
 refine wpList_store_mid hgd 23 _ _ ho g (i * 32) (d.map bv).toArray hx hy ?_ (info_D.trans (congrArg some hdl.symm)) (by simp [bv]; intros; rfl) ?_
 ·rw [List.size_toArray, hdl]; exact p3
 ·exact hK _ p1 p2 (setCells_hs ..)
theorem wpList_appDR (hgd : o.guard = none) (s x : Operand) (ho : o.op = .call { callee := .builtin .append, args := #[s, x], argTypes := #[32, 32] })
  (B : Nat) (v u : Value) (ys xs : List Dg) (lim : Nat) (hs : a.eval s = v) (hown : OwnR w B v ys) (hx : a.eval x = u) (hnil : NilOk u) (hd : DRow w lim u xs) (hlen : (ys.length + xs.length) * 32 ≤ 140737488355328) (hB : B ≤ w.heap.size)
  (h : ∀ v' w', OwnR w' B v' (ys ++ xs) → w.grownBy w' v.ownBlock → (v'.ownBlock = v.ownBlock ∨ v'.ownBlock = some w.heap.size) → wpList Try.prog ops Q rest (a.put o.dst v') w') : wpList Try.prog ops Q (o :: rest) a w := by
 obtain ⟨i, hi, hz0, hz1, hz2⟩ := info_parts infoR
 obtain ⟨hA, ad, c, rfl, hc1, hc2, hc3⟩ := hd
 cases ad with
 | none =>
  have h0 : xs.length = 0 := by
   rcases Nat.eq_zero_or_pos xs.length with h0 | h0
   ·exact h0
   ·obtain ⟨b, o, e, _⟩ := hc3 h0
    cases e
  obtain rfl : xs = [] := List.eq_nil_of_length_eq_zero h0
  rw [List.append_nil] at h
  obtain rfl : c = 0 := by
   have := hnil rfl
   simpa using this
  exact wpList_append_own_none hgd s x 32 ho B 23 i 32 Try.underlying32 hi v ys.length (rowV ys) hs hown hx (h v w hown ⟨rfl, rfl, rfl, Nat.le_refl _, fun _ _ _ => rfl⟩ (.inl rfl))
 | some ad =>
  refine wpList_append_own_at w hgd s x 32 ho B 23 i (dv zeros32) 32 32 Try.underlying32 hi hz0 hz1 hz2 rfl (by decide) v ys.length (rowV ys) hs hown ad xs.length c (rowV xs) hx (rowV_len hA) ?_ (rowV_one xs) (by rw [maxLen_eq]; omega) hlen hB ?_
  ·intro j u hu
   have hjl : j < xs.length * 32 := by
    rcases Nat.lt_or_ge j (rowV xs).length with h1 | h1
    ·rw [rowV_len hA] at h1; exact h1
    ·rw [List.getElem?_eq_none h1] at hu; cases hu
   obtain ⟨b, o, e, _, _, hr⟩ := hc3 (by omega)
   cases e
   have hq := hr (j / 32) (by omega) (j % 32) u (by
    rw [← rowV_at hA (j / 32) (by omega) (j % 32) (Nat.mod_lt _ (by decide)), Nat.div_add_mod' j 32]
    exact hu)
   have e2 : o + j / 32 * 32 + j % 32 = o + j := by omega
   rw [e2] at hq
   have e3 : (⟨b, o, none⟩ : Addr).add j = ⟨b, o + j, none⟩ := Addr.add_mid b o j
   exact (congrArg w.cell? e3).trans hq
  ·intro v' w' h1 h2 h3 h4
   refine h v' w' ?_ h2 h4
   unfold OwnR
   rw [List.length_append, rowV_app]
   exact h1
end
end Go.Proofs.Ytihbhpggpnmifaa
namespace Go.Proofs.Ytihbhpggpnmifaa
open Go.RowKit Go.Lib Hw
def mark7 : Dg := [7, 7, 7] ++ List.replicate 29 0
def mark9 : Dg := [9] ++ List.replicate 31 0
theorem built_7 : Try.prog.built 23 [(0, .int .u8 7), (1, .int .u8 7), (2, .int .u8 7)] = some (mark7.map bv).toArray := by kernel_rfl
theorem built_9 : Try.prog.built 23 [(0, .int .u8 9)] = some (mark9.map bv).toArray := by kernel_rfl
theorem mark7_len : mark7.length = 32 := rfl
theorem mark9_len : mark9.length = 32 := rfl
section
variable {ops : Array Oper} {rest : List Oper} {o : Oper} {a : Act} {w : World} {K : Act → World → Prop} {Q : Exit → Act → World → Prop}
theorem wp_appR2 (W : World) (d : Dg) (hd : d.length = 32) (s y : Operand) (ho : o.op = .call { callee := .builtin .append, args := #[s, y], argTypes := #[32, 32] })
  (B : Nat) (v : Value) (xs : List Dg) (hs : a.eval s = v) (hown : OwnR W B v xs) (hA : All32 xs) (g c : Nat) (hy : a.eval y = .slice (some ⟨g, 0, none⟩) 1 c) (hn : DB W g d)
  (hlen : (xs.length + 1) * 32 ≤ 140737488355328) (hB : B ≤ W.heap.size)
  (h : ∀ g2 cap2 w', OwnR w' B (.slice (some ⟨g2, 0, none⟩) (xs.length + 1) cap2) (xs ++ [d]) → W.grownBy w' v.ownBlock → (v.ownBlock = some g2 ∨ g2 = W.heap.size) → K (a.put o.dst (.slice (some ⟨g2, 0, none⟩) (xs.length + 1) cap2)) w') : o.wp Try.prog a W K Q := by
 obtain ⟨i, hi, hz0, hz1, hz2⟩ := info_parts infoR
 refine wp_append_lies W s y 32 ho B 23 i (dv zeros32) 32 32 Try.underlying32 hi hz0 hz1 hz2 rfl (by decide) v xs.length (rowV xs) hs hown ⟨g, 0, none⟩ 1 c (d.map bv) hy (by rw [List.length_map, hd]) ?_ (fun u hu => rowV_one [d] u (by simpa [rowV] using hu)) (by decide) (by rw [maxLen_eq]; omega) (by omega) hB W.heap.size rfl ?_
 ·intro j u hu
  have hadd : (⟨g, 0, none⟩ : Addr).add j = ⟨g, j, none⟩ := by unfold Addr.add; split <;> simp_all
  rw [hadd, heap_cell hn, List.getElem?_toArray]
  exact hu
 ·intro g' cap w' h1 h2 h3 _
  refine h g' cap w' ?_ h2 h3
  unfold OwnR
  have e : rowV (xs ++ [d]) = rowV xs ++ d.map bv := by simp [rowV]
  rw [List.length_append, e]
  exact h1
end
def LentD (w : World) (l : List Dg) (e : Ending) (w' : World) : Prop :=
 ∃ g cap, e = .returned (.slice (some ⟨g, 0, none⟩) l.length cap) ∧ OwnR w' w.heap.size (.slice (some ⟨g, 0, none⟩) (l.length + 1) cap) (l ++ [mark7]) ∧ Below w.heap.size w w'
set_option maxHeartbeats 1000000 in
theorem lentDigests_any (v : Value) (l : List Dg) (w : World) (lim : Nat) (hd : Hid (DRow w lim v l)) (hn : NilOk v) (hl : l.length * 32 ≤ 140737488351232) :
  Calls Try.prog 16 #[v] w (LentD w l) := by
 have hA : Hid (All32 l) := hd.out.1
 obtain ⟨_, ad, c, rfl, hc1, hc2, _⟩ := hd.out
 have Hn := Lib.hid hn
 clear hn
 go_enter Try.func16, Try.ntmps16
 go_upto_region 2 with fail
 refine wp_region_list ?_
 iterate 2
  (refine wpList_plain rfl (fun K hK => ?_)); go_simp; refine hK _ _ ?_; clear hK K; try simp only [Act.put,nA,nB,nC]
 refine wpList_appDR rfl _ _ rfl w.heap.size (.slice none 0 0) (.slice ad l.length c) [] l lim rfl (OwnR.nil _ _) rfl Hn.out hd.out (by simp; omega) (Nat.le_refl _) ?_
 intro v1 w1 ho1 hg1 _
 try simp only [Act.put,nA,nB,nC]
 rw [List.nil_append] at ho1
 have hb1 : Below w.heap.size w w1 := (Below.refl _ _).grown hg1 (Nat.le_refl _) (fun g hg => by simp [Value.ownBlock] at hg)
 have HO1 := Lib.hid ho1
 have HB1 := Lib.hid hb1
 clear ho1 hg1 hb1
 go_upto_region 3 with fail
 refine wp_region_list ?_
 (refine wpList_plain rfl (fun K hK => ?_)); go_simp; refine hK _ _ ?_; clear hK K; try simp only [Act.put,nA,nB,nC]
 refine wpList_built rfl 23 _ rfl _ (by simp; rfl) _ built_7 ?_
 try simp only [Act.put,nA,nB,nC]
 obtain ⟨N, hN⟩ : ∃ N, w1.heap.size = N := ⟨_, rfl⟩
 refine wpList_sliceD rfl 1 _ rfl [mark7] (fun d h => by rw [List.mem_singleton.1 h]; rfl) rfl (by decide) (by decide) (by simp; rfl) N hN ?_
 intro w2 he2 hb2 hz2
 try simp only [Act.put,nA,nB,nC]
 have HO2 : Hid (OwnR w2 w.heap.size v1 l) := HO1.out.below hb2 (fun g hg => by have := (HO1.out.lt g hg).2; omega)
 have HB2 : Hid (Below w.heap.size w w2) := HB1.out.trans (hb2.mono (by have := HB1.out.size; omega))
 refine wpList_plain rfl fun _ hK => ?_
 refine wp_appR2 w2 mark7 mark7_len _ _ rfl w.heap.size v1 l rfl HO2.out hA.out N 1 rfl ?_ (by omega) (by have := HB2.out.size; omega) ?_
 ·exact he2
 intro g2 cap2 w3 ho3 hg3 hs3
 refine hK _ _ ?_
 try simp only [Act.put,nA,nB,nC]
 have HO3 := Lib.hid ho3
 have HB3 : Hid (Below w.heap.size w w3) := HB2.out.grown hg3 (by have := HB2.out.size; omega) (fun g hg => (HO2.out.lt g hg).1)
 have hcap : l.length + 1 ≤ cap2 := by
  rcases ho3.2 with ⟨h1, _⟩ | ⟨g', cap', cur, h1, _, _, h2, _⟩
  ·cases h1
  ·simp only [Value.slice.injEq] at h1; rw [List.length_append, List.length_singleton] at h2; omega
 have hcap2 : l.length ≤ cap2 := by omega
 clear ho3 hg3 hs3
 go_wp2_with fail
 go_ret
 exact ⟨g2, cap2, rfl, HO3.out, HB3.out⟩
theorem OwnR.cap {w : World} {B g n cap : Nat} {xs : List Dg} (h : OwnR w B (.slice (some ⟨g, 0, none⟩) n cap) xs) : n = xs.length ∧ xs.length ≤ cap := by
 rcases h.2 with ⟨h1, _⟩ | ⟨g', cap', cur, h1, _, _, h2, _⟩
 ·cases h1
 ·simp only [Value.slice.injEq] at h1
  omega
def keptL (l : List Dg) (k : Nat) : List Dg := List.replicate k mark9 ++ (l.drop k ++ [mark7])
theorem keptL_len (l : List Dg) (k : Nat) (h : k ≤ l.length) : (keptL l k).length = l.length + 1 := by simp [keptL]; omega
theorem keptL_all {l : List Dg} (h : All32 l) (k : Nat) : All32 (keptL l k) := fun d hd => by
 rcases List.mem_append.1 hd with h1 | h1
 ·rw [(List.mem_replicate.1 h1).2]; rfl
 ·rcases List.mem_append.1 h1 with h2 | h2
  ·exact h d (List.mem_of_mem_drop h2)
  ·rw [List.mem_singleton.1 h2]; rfl
theorem keptL_at (l : List Dg) (k : Nat) (h : k < l.length) (hk : k < (keptL l k).length) : (keptL l k)[k] = l[k] := by
 have h1 : (keptL l k)[k]? = l[k]? := by
  unfold keptL
  rw [List.getElem?_append_right (by simp), List.getElem?_append_left (by simp; omega)]
  simp
 exact Option.some.inj (by rw [← List.getElem?_eq_getElem hk, ← List.getElem?_eq_getElem h, h1])
theorem keptL_end (l : List Dg) (hk : l.length < (keptL l 0).length) : (keptL l 0)[l.length] = mark7 := by
 simp [keptL]
theorem keptL_set (l : List Dg) (k : Nat) (h : k < l.length) : (keptL l k).set k mark9 = keptL l (k + 1) := by
 unfold keptL
 rw [List.set_append_right _ _ (by simp), List.length_replicate, Nat.sub_self, List.drop_eq_getElem_cons h, List.replicate_succ', List.append_assoc]
 rfl
theorem yieldsIf_loadRng {ops : Array Oper} {S : World → Prop} {op : Oper} {a : Act} (hw : Region.wanted op (yielded ops a.tmps) = true) (x : Operand) (ho : op.op = .load 23 x) (b off : Nat) (hx : a.eval x = .pointer (some ⟨b, off, none⟩)) (m : Dg) (hm : m.length = 32) (hd : ∀ W, S W → W.rangeAt b off (m.map bv)) :
  YieldsIf Try.prog ops S op (dv m) a :=
 have hml : (m.map bv).length = 32 := by rw [List.length_map, hm]
 yieldsIf_load_mid hw 23 x ho b off hx (m.map bv) _ (fun W h => hd W h) Try.underlying23 rfl (info_D.trans (congrArg some hml.symm))
end Go.Proofs.Ytihbhpggpnmifaa
namespace Go.Proofs.Ytihbhpggpnmifaa
open Go.RowKit Go.Lib Hw
def OwnQ (w : World) (B : Nat) (v : Value) (xs : List Dg) : Prop := w.ownsRow B 106 64 v xs.length (rowV xs)
theorem OwnQ.nil (w : World) (B : Nat) : OwnQ w B (.slice none 0 0) [] := World.ownsRow_nil w B _ 64
theorem OwnQ.lt {w : World} {B : Nat} {v : Value} {xs : List Dg} (h : OwnQ w B v xs) : ∀ g, v.ownBlock = some g → B ≤ g ∧ g < w.heap.size := World.ownsRow.lt h
theorem OwnQ.heap {w w' : World} {B : Nat} {v : Value} {xs : List Dg} (h : OwnQ w B v xs) (hk : ∀ g, v.ownBlock = some g → w'.heap[g]? = w.heap[g]?) : OwnQ w' B v xs := by
 refine ⟨h.1, ?_⟩
 rcases h.2 with hn | ⟨g, cap, cur, rfl, hB, hg, r⟩
 ·exact .inl hn
 ·exact .inr ⟨g, cap, cur, rfl, hB, (hk g rfl).trans hg, r⟩
theorem OwnQ.mod {w w' : World} {S : Nat → Prop} {B : Nat} {v : Value} {xs : List Dg} (h : OwnQ w B v xs) (m : Mod S w w') (hd : ∀ k, v.ownBlock = some k → ¬ S k) : OwnQ w' B v xs :=
 h.heap (fun g hg => m.block g (h.lt g hg).2 (hd g hg))
section
variable {ops : Array Oper} {rest : List Oper} {o : Oper} {a : Act} {w : World} {K : Act → World → Prop} {Q : Exit → Act → World → Prop}
end
theorem OwnQ.below {w w' : World} {B C : Nat} {v : Value} {xs : List Dg} (h : OwnQ w B v xs) (hb : Below C w w') (hC : ∀ g, v.ownBlock = some g → g < C) : OwnQ w' B v xs :=
 h.heap (fun g hg => hb.block g (hC g hg))
theorem OwnQ.mono {w : World} {B C : Nat} {v : Value} {xs : List Dg} (h : OwnQ w B v xs) (hC : C ≤ B) : OwnQ w C v xs := by
 refine ⟨h.1, ?_⟩
 rcases h.2 with hn | ⟨g, cap, cur, rfl, hb, r⟩
 ·exact .inl hn
 ·exact .inr ⟨g, cap, cur, rfl, by omega, r⟩
theorem OwnQ.drew {w : World} {B : Nat} {v : Value} {xs : List Dg} (h : OwnQ w B v xs) : OwnQ w.drew B v xs := h
theorem OwnQ.shape {w : World} {B : Nat} {v : Value} {xs : List Dg} (h : OwnQ w B v xs) : ∃ ad cap, v = .slice ad xs.length cap := by
 rcases h.2 with ⟨rfl, h0⟩ | ⟨g, cap, cur, rfl, _⟩
 ·exact ⟨none, 0, by rw [h0]⟩
 ·exact ⟨_, cap, rfl⟩
theorem DRow.take {w : World} {lim : Nat} {ad : Option Addr} {c n : Nat} {xs : List Dg} (h : DRow w lim (.slice ad n c) xs) (k : Nat) (hk : k ≤ xs.length) : DRow w lim (.slice ad k c) (xs.take k) := by
 obtain ⟨h0, ad', c', e, h1, h2, h3⟩ := h
 simp only [Value.slice.injEq] at e
 obtain ⟨rfl, rfl, rfl⟩ := e
 refine ⟨h0.take k, ad, c, by rw [List.length_take, Nat.min_eq_left hk], by rw [List.length_take]; omega, h2, fun hp => ?_⟩
 rw [List.length_take] at hp
 obtain ⟨b, o, e, hb1, hb2, hr⟩ := h3 (by omega)
 refine ⟨b, o, e, hb1, hb2, fun i hi => ?_⟩
 rw [List.length_take] at hi
 rw [List.getElem_take]
 exact hr i (by omega)
/-! ### the document's climb -/
end Go.Proofs.Ytihbhpggpnmifaa
