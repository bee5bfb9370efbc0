/-
 Byte slices of the call's own whose block may be marked behind its end (what a string's conversion lays).
-/
import Derived.Test.YtihbhpggpnmifaaGA
import Derived.Test.YtihbhpggpnmifaaGD
set_option linter.unusedSimpArgs false
set_option linter.unusedVariables false
namespace Go.Proofs.Ytihbhpggpnmifaa
open Go.RowKit Go.Lib
def OwnG (w : World) (B : Nat) (v : Value) (bs : List UInt8) : Prop :=
 ∃ g cap cur fz, v = .slice (some ⟨g, 0, none⟩) bs.length cap ∧ B ≤ g ∧ w.heap[g]? = some (.cells cur 5 fz) ∧ (fz = (0, 0) ∨ cap ≤ fz.1) ∧ bs.length ≤ cap ∧ cap ≤ maxLen ∧ cur.size = cap ∧ cur.toList.take bs.length = bs.map bv
theorem OwnG.lt {w : World} {B : Nat} {v : Value} {bs : List UInt8} (h : OwnG w B v bs) : ∀ k, v.ownBlock = some k → B ≤ k ∧ k < w.heap.size := by
 obtain ⟨g, cap, cur, fz, rfl, hb, hg, _⟩ := h
 intro k hk
 obtain rfl : g = k := Option.some.inj hk
 exact ⟨hb, heap_lt hg⟩
theorem OwnG.form {w : World} {B : Nat} {v : Value} {bs : List UInt8} (h : OwnG w B v bs) : ∃ g cap, v = .slice (some ⟨g, 0, none⟩) bs.length cap ∧ B ≤ g ∧ g < w.heap.size ∧ bs.length ≤ cap := by
 obtain ⟨g, cap, cur, fz, rfl, hb, hg, _, hc, _⟩ := h
 exact ⟨g, cap, rfl, hb, heap_lt hg, hc⟩
theorem OwnG.cell {w : World} {B g n cap : Nat} {bs : List UInt8} (h : OwnG w B (.slice (some ⟨g, 0, none⟩) n cap) bs) (j : Nat) (hj : j < bs.length) : w.cell? ⟨g, j, none⟩ = some (.int .u8 ((bs[j]'hj).toNat : Int)) := by
 obtain ⟨g', cap', cur, fz, e, hb, hg, _, hc, _, hs, ht⟩ := h
 cases e
 rw [heap_cell hg]
 have h1 : (cur.toList.take bs.length)[j]? = some (bv bs[j]) := by rw [ht]; simp [hj]
 rw [List.getElem?_take, if_pos hj] at h1
 rw [Array.getElem?_toList] at h1
 exact h1
theorem OwnG.below {w w' : World} {B C : Nat} {v : Value} {bs : List UInt8} (h : OwnG w B v bs) (hb : Below C w w') (hC : ∀ g, v.ownBlock = some g → g < C) : OwnG w' B v bs := by
 obtain ⟨g, cap, cur, fz, rfl, hB, hg, r⟩ := h
 exact ⟨g, cap, cur, fz, rfl, hB, heap_below hg hb (hC g rfl), r⟩
theorem OwnG.mono {w : World} {B C : Nat} {v : Value} {bs : List UInt8} (h : OwnG w B v bs) (hC : C ≤ B) : OwnG w C v bs := by
 obtain ⟨g, cap, cur, fz, e, hb, r⟩ := h
 exact ⟨g, cap, cur, fz, e, by omega, r⟩
theorem OwnG.conv (s : ByteArray) (w : World) (hs : s.size ≤ 9223372036854775807) : OwnG (bytesWorld w 5 s) w.heap.size (.slice (some ⟨w.heap.size, 0, none⟩) s.size (grownCap w s.size 0 5)) s.data.toList := by
 have hl : s.data.toList.length = s.size := by rw [Array.length_toList]; rfl
 have hge := grownCap_ge w s.size 0 5
 have hcs : (bytesCells w 5 s).size = grownCap w s.size 0 5 := by
  simp only [bytesCells, Array.size_append, Array.size_map, Array.size_replicate]
  have : s.data.size = s.size := rfl
  omega
 refine ⟨w.heap.size, _, _, _, by rw [hl], Nat.le_refl _, bytesWorld_at_new w _ s, .inr (by rw [hcs]; exact Nat.le_refl _), by rw [hl]; exact hge, grownCap_le_maxLen w _ _ _ (by rw [maxLen_eq]; exact hs), hcs, ?_⟩
 unfold bytesCells
 rw [Array.toList_append, List.take_append_of_le_length (by simp), List.take_of_length_le (by simp), Array.toList_map]
 rfl
theorem run_storeCells_one (P : Program) (w : World) (g o : Nat) (v x : Value) (h1 : v.oneCell' = true) (hc : w.cell? ⟨g, o, none⟩ = some x) (hf : w.frozen? ⟨g, o, none⟩ = false) :
  (storeCells ⟨g, o, none⟩ [v]).run P w = .ok () (w.setCell ⟨g, o, none⟩ v) := by
 have hadd : (⟨g, o, none⟩ : Addr).add 0 = ⟨g, o, none⟩ := by unfold Addr.add; simp
 have hst : (store ((⟨g, o, none⟩ : Addr).add 0) v).run P w = .ok () (w.setCell ⟨g, o, none⟩ v) := by
  rw [hadd, run_store P w _ v _ h1, hc]
  simp [hf]
 simp [storeCells, hst]
theorem run_appG {w : World} {B : Nat} {v : Value} {bs : List UInt8} (hown : OwnG w B v bs) (b : UInt8) (ad : Addr) (c : Nat) (ty : TypeId) (hb : w.cell? ad = some (bv b)) (hlen : bs.length + 1 ≤ 140737488355328) (hB : B ≤ w.heap.size) :
  ∃ v' w', (Builtin.append_ #[121, 121] ty #[v, .slice (some ad) 1 c]).run Try.prog w = .ok v' w' ∧ OwnG w' B v' (bs ++ [b]) ∧ Below B w w' := by
 obtain ⟨i, hi, hz0, hz1, hz2⟩ := info_parts info_u8
 obtain ⟨g, cap, cur, fz, rfl, hBg, hg, hfz, hnc, hcm, hcs, ht⟩ := hown
 have hadd0 : ad.add 0 = ad := by unfold Addr.add; simp
 have hnews : ∀ j u, [bv b][j]? = some u → w.cell? (ad.add j) = some u := by
  intro j u hu
  match j, hu with
  | 0, hu => rw [hadd0, hb]; simpa using hu
 by_cases hroom : bs.length + 1 ≤ cap
 ·have hf := run_firstCells_some (P := Try.prog) w i.size 1 ad 1 c [bv b] (by rw [hz1]; rfl) hnews
  have hlc : bs.length < cur.size := by omega
  have hc : w.cell? ⟨g, bs.length, none⟩ = some cur[bs.length] := by rw [heap_cell hg]; simp
  have hfr : w.frozen? ⟨g, bs.length, none⟩ = false := by
   rcases hfz with rfl | hfz
   ·exact heap_free hg _
   ·have : ¬ fz.1 ≤ bs.length := by omega
    simp [World.frozen?, hg, this]
  have hst := run_storeCells_one Try.prog w g bs.length (bv b) _ rfl hc hfr
  refine ⟨.slice (some ⟨g, 0, none⟩) (bs.length + 1) cap, w.setCell ⟨g, bs.length, none⟩ (bv b), ?_, ⟨g, cap, _, fz, by simp, hBg, heap_set hg (bv b), hfz, by simpa using hroom, hcm, by simpa using hcs, ?_⟩, (Below.refl _ _).setCell hBg _⟩
  ·simp [Builtin.append_, run_underlying Try.underlying121, sizeOf, typeInfo, hi, hz1, Builtin.lenOf, hroom, Addr.add_lit]
   rw [hz1] at hf
   simp [hf, hst]
  ·rw [Array.toList_setIfInBounds, List.length_append, List.length_singleton, List.map_append]
   have hl : bs.length < cur.toList.length := by rw [Array.length_toList]; exact hlc
   rw [List.take_succ_eq_append_getElem (by rw [List.length_set]; exact hl), List.take_set_of_le (Nat.le_refl _), ht]
   simp
 ·have holds : ∀ j u, (bs.map bv)[j]? = some u → w.cell? ((⟨g, 0, none⟩ : Addr).add j) = some u := by
   intro j u hu
   have hadd : (⟨g, 0, none⟩ : Addr).add j = ⟨g, j, none⟩ := by unfold Addr.add; split <;> simp_all
   rw [hadd, heap_cell hg]
   rw [← ht, List.getElem?_take] at hu
   split at hu
   ·simpa using hu
   ·cases hu
  have hr := run_append_grow (P := Try.prog) w 121 ty 5 i (.int .u8 0) Try.underlying121 hi hz0 ⟨g, 0, none⟩ bs.length cap (bs.map bv) (by rw [hz1]; simp) holds ad 1 c [bv b] (by rw [hz1]; rfl) hnews (by omega) (by omega) (by rw [hz2]; exact growslice_fits (by omega) (by omega))
  have hge := grownCap_ge w (bs.length + 1) cap 5
  refine ⟨_, _, hr, ⟨w.heap.size, grownCap w (bs.length + 1) cap 5, _, (0, 0), by simp, hB, heap_alloc_new w.drew _, .inl rfl, by simpa using hge, grownCap_le_maxLen w (bs.length + 1) cap 5 (by rw [maxLen_eq]; omega), ?_, ?_⟩, ((Below.refl B w).drew).alloc (by exact hB) _⟩
  ·have hz1' : (Value.int IntKind.u8 0).cells.size = 1 := rfl
   simp only [Array.size_append, List.size_toArray, size_zeroCells, hz1', List.length_map, List.length_singleton, Nat.mul_one]
   omega
  ·simp only [Array.toList_append, List.append_assoc, List.length_append, List.length_singleton, List.map_append]
   rw [← List.append_assoc, List.take_append_of_le_length (by simp), List.take_of_length_le (by simp)]
   rfl
theorem wpList_appG {ops : Array Oper} {rest : List Oper} {o : Oper} {a : Act} {Q : Exit → Act → World → Prop} (W : World) (t : TypeId) (b : UInt8) (hgd : o.guard = none) (s x : Operand)
  (ho : o.op = .call { callee := .builtin .append, args := #[s, x], argTypes := #[121, 121] })
  (B : Nat) (v : Value) (bs : List UInt8) (hs : a.eval s = v) (hown : OwnG W B v bs) (c : Nat) (hx : a.eval x = .slice (some ⟨W.heap.size, 0, none⟩) 1 c)
  (hlen : bs.length + 1 ≤ 140737488355328) (hB : B ≤ W.heap.size)
  (h : ∀ v' w', OwnG w' B v' (bs ++ [b]) → Below B W w' → wpList Try.prog ops Q rest (a.put o.dst v') w') :
  wpList Try.prog ops Q (o :: rest) a (W.alloc (.cells #[.int .u8 (b.toNat : Int)] t)) := by
 have hown' : OwnG (W.alloc (.cells #[.int .u8 (b.toNat : Int)] t)) B v bs := hown.below ((Below.refl W.heap.size W).alloc (Nat.le_refl _) _) (fun g hg => (hown.lt g hg).2)
 obtain ⟨v', w', hr, h1, h2⟩ := run_appG hown' b ⟨W.heap.size, 0, none⟩ c o.type (by rw [heap_cell (heap_alloc_new W _)]; rfl) hlen (by simp only [World.size_alloc]; omega)
 refine wpList_plain hgd fun K hK => ?_
 unfold Oper.wp execOp
 simp only [ho, resolve, invoke, builtin, Sem.run_bind, Sem.run_pure, Result.andThen_ok, List.map_toArray, List.map_cons, List.map_nil, hs, hx, hr]
 exact hK _ _ (h v' w' h1 (((Below.refl B W).alloc hB _).trans h2))
end Go.Proofs.Ytihbhpggpnmifaa
namespace Go.Proofs.Ytihbhpggpnmifaa
open Go.RowKit Go.Lib Hw
theorem or_comm32 (a b : BitVec 32) : a ||| b = b ||| a := BitVec.or_comm a b
theorem turn_any (X : BitVec 32) (k : Int) (w : World) (hk : 0 < k ∧ k < 32) : Calls Try.prog 94 #[.int .u32 (toU X), .int .i64 k] w fun e w' => e = .returned (.int .u32 (toU (rotr k.toNat X))) ∧ w' = w := by
 obtain ⟨m, rfl⟩ : ∃ m : Nat, k = m := ⟨k.toNat, by omega⟩
 have hm : 0 < m ∧ m < 32 := by omega
 have h1 : IntKind.u64.wrap (m : Int) = m := IntWalk.u64_in _ (by omega)
 have h2 : IntKind.u64.wrap (32 - (m : Int)) = 32 - (m : Int) := IntWalk.u64_in _ (by omega)
 have h3 : ((32 : Int) - (m : Int)).toNat = 32 - m := by omega
 have h4 : (0 : Int) ≤ 32 - (m : Int) := by omega
 go_enter Try.func94, Try.ntmps94
 go_wp2_with fail
 go_ret
 refine ⟨?_, rfl⟩
 rw [Int.toNat_natCast]
 unfold rotr
 rw [or_comm32, ← bits_or32, ← toU_shl, toU_shift]
 rfl
theorem pad_test' (r N : Nat) (h1 : r + 1 ≤ N) (h2 : N < r + 1 + (119 - r % 64) % 64) : (((N : Int) % 64) != 56) = true := by
 rw [bne_iff_ne]; omega
theorem pad_done' (r N : Nat) (h2 : N = r + 1 + (119 - r % 64) % 64) : (((N : Int) % 64) != 56) = false := by
 rw [bne_eq_false_iff_eq]; omega
def PadPost (w : World) (l : List UInt8) (e : Ending) (w' : World) : Prop := ∃ v, e = .returned v ∧ OwnG w' w.heap.size v l ∧ Below w.heap.size w w'
set_option maxHeartbeats 4000000 in
theorem padded_any (s : ByteArray) (w : World) (hs : s.size ≤ 140737488355200) :
  Calls Try.prog 89 #[.string s] w (PadPost w (Hw.padded s.data.toList)) := by
 have hcv := conv_str s
 have Hl := Lib.hid (data_len s)
 go_enter Try.func89, Try.ntmps89
 go_upto_region 2 with fail
 clear hcv
 refine wp_name (fun W => OwnG W w.heap.size (.slice (some ⟨w.heap.size, 0, none⟩) s.size (grownCap w s.size 0 5)) s.data.toList ∧ Below w.heap.size w W) ⟨OwnG.conv s w (by omega), Below.conv s w _ (Nat.le_refl _)⟩ (fun w1 h1 => ?_)
 have HO := Lib.hid h1.1
 have HB := Lib.hid h1.2
 clear h1
 have hz1 := HB.out.size
 go_upto_region 3 with (at_builtin; refine wpList_appG w1 5 0x80 rfl _ _ rfl w.heap.size _ s.data.toList rfl HO.out _ rfl (by rw [Hl.out]; omega) hz1 ?_; intro v2 w2 hv2 hb2)
 have HO2 := Lib.hid hv2
 have HB2 := Lib.hid (HB.out.trans hb2)
 clear hv2 hb2 HO HB hz1
 obtain ⟨Z, hZ⟩ : ∃ Z, (119 - s.size % 64) % 64 = Z := ⟨_, rfl⟩
 have hZ64 : Z < 64 := by omega
 have HZ := Lib.hid hZ
 clear hZ
 go_loopw [3] (fun v wr => ∃ (N g cap : Nat), s.size + 1 ≤ N ∧ N ≤ s.size + 1 + Z ∧ Hid (OwnG wr w.heap.size (.slice (some ⟨g, 0, none⟩) N cap) (s.data.toList ++ 0x80 :: List.replicate (N - (s.size + 1)) 0)) ∧ Hid (Below w.heap.size w wr) ∧ v = .slice (some ⟨g, 0, none⟩) N cap) (fun v _ => s.size + 1 + Z - sliceLen v)
 case atStart =>
  obtain ⟨g, cap, e, _⟩ := HO2.out.form
  have hl2 : (s.data.toList ++ [(0x80 : UInt8)]).length = s.size + 1 := by rw [List.length_append, data_len]; rfl
  rw [hl2] at e
  subst e
  exact ⟨s.size + 1, g, cap, by omega, by omega, by simpa using HO2, HB2, rfl⟩
 case round =>
  clear HO2 HB2
  obtain ⟨N, g, cap, hN1, hN2, HT, HB, rfl⟩ := hrel
  by_cases hlt : N < s.size + 1 + Z
  ·have ht := pad_test' s.size N hN1 (by rw [HZ.out]; exact hlt)
   have hz := HB.out.size
   have hl : (s.data.toList ++ 0x80 :: List.replicate (N - (s.size + 1)) 0).length = N := by rw [List.length_append, data_len]; simp; omega
   obtain ⟨bs, hbs⟩ : ∃ bs, s.data.toList ++ 0x80 :: List.replicate (N - (s.size + 1)) (0 : UInt8) = bs := ⟨_, rfl⟩
   rw [hbs] at HT hl
   have Hbs := Lib.hid hbs
   have Hbl := Lib.hid hl
   clear hbs hl
   go_wp2_with (at_builtin; refine wpList_appG wr 5 0 rfl _ _ rfl w.heap.size _ bs rfl HT.out _ rfl (by rw [Hbl.out]; omega) hz ?_; intro v6 w6 hT6 hb6)
   obtain ⟨g6, cap6, e6, _⟩ := hT6.form
   have hl6 : (bs ++ [(0 : UInt8)]).length = N + 1 := by rw [List.length_append, Hbl.out]; rfl
   rw [hl6] at e6
   subst e6
   refine ⟨⟨N + 1, g6, cap6, by omega, by omega, ?_, HB.out.trans hb6, rfl⟩, by simp [sliceLen]; omega⟩
   have e : N + 1 - (s.size + 1) = (N - (s.size + 1)) + 1 := by omega
   show OwnG _ _ _ _
   rw [e, List.replicate_succ', ← List.cons_append, ← List.append_assoc, Hbs.out]
   exact hT6
  ·have HNe : Hid (N = s.size + 1 + Z) := by show _ = _; omega
   have hNb : N ≤ 140737488355300 := by omega
   have ht := pad_done' s.size N (by rw [HZ.out]; exact HNe.out)
   go_upto_region 6 with fail
   clear ht
   obtain ⟨M, hM⟩ : ∃ M : Int, (s.size : Int) * 8 = M := ⟨_, rfl⟩
   have hM0 : 0 ≤ M ∧ M ≤ 9223372036854775807 := by omega
   rw [hM]
   have HM := Lib.hid hM
   clear hM
   have eZ : N - (s.size + 1) = Z := by have := HNe.out; omega
   rw [eZ] at HT
   obtain ⟨P0, hP0⟩ : ∃ P0, s.data.toList ++ 0x80 :: List.replicate Z (0 : UInt8) = P0 := ⟨_, rfl⟩
   have hPl : P0.length = N := by have := HNe.out; rw [← hP0, List.length_append, data_len]; simp; omega
   rw [hP0] at HT
   have HP0 := Lib.hid hP0
   have HPl := Lib.hid hPl
   clear hP0 hPl eZ hN1 hN2 hlt
   go_wp2_with fail
   go_loopw [3, 5] (fun v i wr => ∃ (k : Nat) (I : Int), k ≤ 8 ∧ -1 ≤ I ∧ I ≤ 7 ∧ Hid (I = 7 - (k : Int)) ∧ Hid (OwnG wr w.heap.size v (P0 ++ (be 8 M.toNat).take k)) ∧ Hid (Below w.heap.size w wr) ∧ i = .int .i64 I) (fun _ i _ => (intOf i + 8).toNat)
   case atStart => exact ⟨0, 7, by omega, by omega, by omega, rfl, by simpa using HT, HB, rfl⟩
   case round =>
    clear HT HB
    obtain ⟨k, I, hk, hI1, hI2, HI, HT, HB, rfl⟩ := hrel
    by_cases hlt : 0 ≤ I
    ·have d0 : decide ((0 : Int) ≤ I) = true := by simpa using hlt
     have hk8 : k < 8 := by have := HI.out; omega
     obtain ⟨b, hb⟩ : ∃ b : UInt8, M / 2 ^ (8 * I).toNat % 256 = (b.toNat : Int) := ⟨UInt8.ofNat (M.toNat / 256 ^ (7 - k) % 256), by
      have e1 : (8 * I).toNat = 8 * (7 - k) := by have := HI.out; omega
      rw [e1]; exact byte_of M hM0.1 _⟩
     have Hb : Hid ((be 8 M.toNat).take (k + 1) = (be 8 M.toNat).take k ++ [b]) := by
      show _ = _
      rw [be_take_succ _ _ _ hk8]
      have e1 : (8 * I).toNat = 8 * (7 - k) := by have := HI.out; omega
      rw [e1, byte_of M hM0.1] at hb
      have h9 : (UInt8.ofNat (M.toNat / 256 ^ (7 - k) % 256)).toNat = b.toNat := by omega
      have h10 : UInt8.ofNat (M.toNat / 256 ^ (8 - 1 - k) % 256) = b := UInt8.toNat_inj.1 h9
      rw [h10]
     have hz := HB.out.size
     have hl : (P0 ++ (be 8 M.toNat).take k).length + 1 ≤ 140737488355328 := by have := HPl.out; rw [List.length_append, List.length_take, be_length]; omega
     obtain ⟨bs, hbs⟩ : ∃ bs, P0 ++ (be 8 M.toNat).take k = bs := ⟨_, rfl⟩
     rw [hbs] at HT hl
     have Hbs := Lib.hid hbs
     clear hbs
     go_wp2_with (at_builtin; refine wpList_appG wr 5 b rfl _ _ rfl w.heap.size _ bs rfl HT.out _ rfl hl hz ?_; intro v6 w6 hT6 hb6)
     refine ⟨⟨k + 1, I - 1, by omega, by omega, by omega, ?_, ?_, HB.out.trans hb6, rfl⟩, by simp [intOf]; omega⟩
     ·have := HI.out; show _ = _; omega
     ·show OwnG _ _ _ _
      rw [Hb.out, ← List.append_assoc, Hbs.out]
      exact hT6
    ·have d0 : decide ((0 : Int) ≤ I) = false := by simpa using hlt
     obtain rfl : k = 8 := by have := HI.out; omega
     go_wp2_with fail
     go_ret
     refine ⟨_, rfl, ?_, HB.out⟩
     have e1 : Hw.padded s.data.toList = P0 ++ (be 8 M.toNat).take 8 := by
      have h1 : M.toNat = 8 * s.size := by have := HM.out; omega
      rw [List.take_of_length_le (by rw [be_length]; omega), h1, ← HP0.out, List.append_assoc, List.cons_append]
      unfold Hw.padded padOf
      rw [data_len, HZ.out]
     rw [e1]
     exact HT.out
end Go.Proofs.Ytihbhpggpnmifaa
