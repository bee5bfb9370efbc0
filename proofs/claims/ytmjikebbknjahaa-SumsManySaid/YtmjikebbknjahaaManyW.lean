/-
  The walk of the law SumsMany.
-/
import Derived.Test.YtmjikebbknjahaaClashW
import Derived.Test.YtmjikebbknjahaaSameW
namespace Go.Proofs.Ytmjikebbknjahaa
open Go.RowKit Go.Lib Hw
set_option linter.unusedVariables false

/-- the law's text number j -/
def manyT (s : ByteArray) (j : Nat) : ByteArray := s ++ ⟨#[UInt8.ofNat (j % 256), UInt8.ofNat (j / 256)]⟩
def headT (s : ByteArray) (j : Nat) : UInt8 := (sha256 (manyT s j).data.toList).getD 0 0
theorem manyT_inj {s : ByteArray} {j k : Nat} (hj : j < 257) (hk : k < 257) (h : manyT s j = manyT s k) : j = k := by
  have h1 := congrArg (fun x : ByteArray => x.data.toList) h
  simp only [manyT, ByteArray.data_append, Array.toList_append] at h1
  have h2 := List.append_cancel_left h1
  simp only [List.cons.injEq, and_true] at h2
  have h3 := congrArg UInt8.toNat h2.1
  have h4 := congrArg UInt8.toNat h2.2
  simp only [UInt8.toNat_ofNat'] at h3 h4
  omega
theorem cut1 (l : List UInt8) (hl : l.length = 32) : cutL 1 l = l.getD 0 0 :: List.replicate 31 0 := by
  cases l with
  | nil => cases hl
  | cons x r => rfl
theorem many_clash {s : ByteArray} {j k : Nat} (hj : j < k) (hk : k < 257) (h : headT s j = headT s k) : clashB 1 (manyT s j) (manyT s k) = true := by
  have h1 : manyT s j ≠ manyT s k := fun e => by have := manyT_inj (by omega) hk e; omega
  have h2 := bne_bytes h1
  have e : cutL 1 (sha256 (manyT s j).data.toList) = cutL 1 (sha256 (manyT s k).data.toList) := by
    rw [cut1 _ (sha256_length _), cut1 _ (sha256_length _)]
    have h3 : (sha256 (manyT s j).data.toList).getD 0 0 = (sha256 (manyT s k).data.toList).getD 0 0 := h
    rw [h3]
  unfold clashB
  rw [h2, cond_false, e]
  have hw : wideB 1 = true := rfl
  rw [hw, cond_true]
  exact beq_self_eq_true _

/-- a block of an array of texts, of an array of truths -/
def SA (w : World) (b : Nat) (L : List ByteArray) : Prop := w.heap[b]? = some (.cells (L.map Value.string).toArray 61 (0, 0))
def TA (w : World) (b : Nat) (T : List Bool) : Prop := w.heap[b]? = some (.cells (T.map Value.bool).toArray 62 (0, 0))
theorem zero_SA (w : World) : (zeroValue 61).run Try.prog w = .ok (.agg ((List.replicate 256 (⟨#[]⟩ : ByteArray)).map Value.string).toArray) w := by kernel_rfl
theorem zero_TA (w : World) : (zeroValue 62).run Try.prog w = .ok (.agg ((List.replicate 256 false).map Value.bool).toArray) w := by kernel_rfl
section
variable {w : World} {b : Nat} {L : List ByteArray} {T : List Bool}
theorem SA.cell (h : SA w b L) (j : Nat) (hj : j < L.length) : w.cell? ⟨b, j, none⟩ = some (.string L[j]) := by rw [heap_cell h]; simp [hj]
theorem TA.cell (h : TA w b T) (j : Nat) (hj : j < T.length) : w.cell? ⟨b, j, none⟩ = some (.bool T[j]) := by rw [heap_cell h]; simp [hj]
theorem SA.set (h : SA w b L) (j : Nat) (x : ByteArray) : SA (w.setCell ⟨b, j, none⟩ (.string x)) b (L.set j x) := by
  unfold SA
  rw [heap_set (o := j) h (.string x), List.map_set, List.setIfInBounds_toArray]
theorem TA.set (h : TA w b T) (j : Nat) (x : Bool) : TA (w.setCell ⟨b, j, none⟩ (.bool x)) b (T.set j x) := by
  unfold TA
  rw [heap_set (o := j) h (.bool x), List.map_set, List.setIfInBounds_toArray]
end
/-- what the law's loop has laid -/
def ManyI (s : ByteArray) (k : Nat) (L : List ByteArray) (T : List Bool) : Prop :=
  L.length = 256 ∧ T.length = 256 ∧ T.count true = k ∧ ∀ b, T[b]? = some true → ∃ j, j < k ∧ (headT s j).toNat = b ∧ L[b]? = some (manyT s j)
theorem ManyI.start (s : ByteArray) : ManyI s 0 (List.replicate 256 ⟨#[]⟩) (List.replicate 256 false) := by
  refine ⟨List.length_replicate, List.length_replicate, ?_, fun b h => ?_⟩
  · rw [List.count_replicate]; rfl
  · rw [List.getElem?_replicate] at h
    split at h
    · cases h
    · cases h
theorem ManyI.next {s : ByteArray} {k : Nat} {L : List ByteArray} {T : List Bool} (h : ManyI s k L T) (hb : (headT s k).toNat < 256) (hf : T[(headT s k).toNat]? = some false) :
    ManyI s (k + 1) (L.set (headT s k).toNat (manyT s k)) (T.set (headT s k).toNat true) := by
  obtain ⟨h1, h2, h3, h4⟩ := h
  obtain ⟨b, hbb⟩ : ∃ b, (headT s k).toNat = b := ⟨_, rfl⟩
  rw [hbb] at hb hf ⊢
  have hbt : b < T.length := by omega
  have hget : T[b] = false := by rw [List.getElem?_eq_getElem hbt, Option.some.injEq] at hf; exact hf
  refine ⟨by rw [List.length_set]; exact h1, by rw [List.length_set]; exact h2, ?_, fun c hc => ?_⟩
  · rw [List.count_set hbt, hget, h3]; simp
  · by_cases hcb : c = b
    · subst hcb
      exact ⟨k, by omega, hbb, by rw [List.getElem?_set_self (by omega)]⟩
    · rw [List.getElem?_set_ne (fun e => hcb e.symm)] at hc
      obtain ⟨j, hj, e1, e2⟩ := h4 c hc
      exact ⟨j, by omega, e1, by rw [List.getElem?_set_ne (fun e => hcb e.symm)]; exact e2⟩

set_option maxHeartbeats 4000000 in
theorem SumsMany_walk (v0 : Value) (w : World) (h0 : IsStrR v0) :
    Calls Try.prog 15 #[v0] w fun e w' => e = .returned (.bool true) ∧ Below w.heap.size w w' := by
  obtain ⟨s, rfl, hs⟩ := h0
  go_enter Try.func15, Try.ntmps15
  go_upto_region 3 with (first
    | (refine wpList_allocB rfl 61 rfl w.heap.size rfl _ zero_SA ?_; intro w1 h1 hB1 hz1)
    | (refine wpList_allocB rfl 62 rfl (w.heap.size + 1) hz1 _ zero_TA ?_; intro w2 h2 hB2 hz2))
  have HS2 : Hid (SA w2 w.heap.size (List.replicate 256 ⟨#[]⟩)) := heap_below h1 hB2 (by omega)
  have HT2 : Hid (TA w2 (w.heap.size + 1) (List.replicate 256 false)) := h2
  have HB2 := Lib.hid (hB1.trans (hB2.mono (by omega)))
  clear h1 hB1 hz1 h2 hB2 hz2
  go_wp2_with fail
  go_loopw [5] (fun i wr => ∃ (k : Nat) (L : List ByteArray) (T : List Bool), k ≤ 257 ∧ Hid (ManyI s k L T) ∧ Hid (SA wr w.heap.size L) ∧ Hid (TA wr (w.heap.size + 1) T) ∧ Hid (Below w.heap.size w wr) ∧ i = .int .i64 (k : Int)) (fun i _ => 257 - (intOf i).toNat)
  case atStart => exact ⟨0, _, _, by omega, ManyI.start s, HS2, HT2, HB2, rfl⟩
  case round =>
    clear HS2 HT2 HB2
    obtain ⟨k, L, T, hk, HM, HS, HT, HB, rfl⟩ := hrel
    by_cases hlt : k < 257
    · have dk : decide (k < 257) = true := decide_eq_true hlt
      obtain ⟨x0, hx0⟩ : ∃ x, UInt8.ofNat (k % 256) = x := ⟨_, rfl⟩
      obtain ⟨x1, hx1⟩ : ∃ x, UInt8.ofNat (k / 256) = x := ⟨_, rfl⟩
      have v0 : IntKind.u8.wrap (k : Int) = (x0.toNat : Int) := by rw [IntKind.wrap_u8, ← hx0, UInt8.toNat_ofNat']; omega
      have v1 : IntKind.u8.wrap ((k : Int) / 256) = (x1.toNat : Int) := by rw [IntKind.wrap_u8, ← hx1, UInt8.toNat_ofNat']; omega
      have v2 : (k : Int) % 256 = (x0.toNat : Int) := by rw [← hx0, UInt8.toNat_ofNat']; omega
      have v3 : (k : Int) / 256 % 256 = (x1.toNat : Int) := by rw [← hx1, UInt8.toNat_ofNat']; omega
      have hX : Hid (manyT s k = s ++ ⟨#[x0, x1]⟩) := by show _ = _; rw [manyT, hx0, hx1]
      have hcv : (convert 35 9 (.slice (some ⟨wr.heap.size, 0, none⟩) 2 2)).run Try.prog (wr.alloc (.cells #[.int .u8 (x0.toNat : Int), .int .u8 (x1.toNat : Int)] 5)) = .ok (.string ⟨#[x0, x1]⟩) (wr.alloc (.cells #[.int .u8 (x0.toNat : Int), .int .u8 (x1.toNat : Int)] 5)) := conv_own (OwnB.lit wr [x0, x1] 2 rfl (by omega))
      clear hx0 hx1
      set_option maxRecDepth 5000 in
      go_upto_region 7 with fail
      rw [← hX.out]
      clear hcv v0 v1 v2 v3 hX
      obtain ⟨X, hX⟩ : ∃ X, manyT s k = X := ⟨_, rfl⟩
      have hXs : X.size ≤ 140737488355200 := by
        have h1 : X.size = s.size + 2 := by rw [← hX, manyT, ByteArray.size_append]; rfl
        omega
      have hXs2 : X.size ≤ 1000000000000000000 := by omega
      obtain ⟨c, hc⟩ : ∃ c, cutL 1 (sha256 X.data.toList) = c := ⟨_, rfl⟩
      have hcl : c.length = 32 := by rw [← hc]; exact cutL_length 1 _ (sha256_length _)
      obtain ⟨hb, hhb⟩ : ∃ b, headT s k = b := ⟨_, rfl⟩
      have hc0 : c = hb :: List.replicate 31 0 := by rw [← hc, cut1 _ (sha256_length _), ← hhb, ← hX]; rfl
      have hbl := hb.toNat_lt
      have hbi : (hb.toNat : Int) < 256 := by omega
      have HC := Lib.hid hc
      have HCl := Lib.hid hcl
      have HX := Lib.hid hX
      have HE : Hid (cutE 1 = 0) := rfl
      have Hhb := Lib.hid hhb
      have HC0 := Lib.hid hc0
      rw [hX]
      have hz := HB.out.size
      have HS1 : Hid (SA (wr.alloc (.cells #[.int .u8 (x0.toNat : Int), .int .u8 (x1.toNat : Int)] 5)) w.heap.size L) := heap_alloc HS.out
      have HT1 : Hid (TA (wr.alloc (.cells #[.int .u8 (x0.toNat : Int), .int .u8 (x1.toNat : Int)] 5)) (w.heap.size + 1) T) := heap_alloc HT.out
      have HB1 : Hid (Below w.heap.size w (wr.alloc (.cells #[.int .u8 (x0.toNat : Int), .int .u8 (x1.toNat : Int)] 5))) := HB.out.alloc hz _
      refine wp_name (fun W => Hid (SA W w.heap.size L) ∧ Hid (TA W (w.heap.size + 1) T) ∧ Hid (Below w.heap.size w W)) ⟨HS1, HT1, HB1⟩ (fun wq hq => ?_)
      obtain ⟨HS2, HT2, HB2⟩ := hq
      clear HS HT HB HS1 HT1 HB1 hz hX hc hcl hhb hc0
      go_upto_region 8 with (first
        | (go_at_call 38; refine (Of_any 1 X _ hXs2).mono ?_; rintro e w5 ⟨rfl, hb5⟩; rw [HC.out, HE.out])
        | (refine wpList_allocD rfl rfl w5.heap.size rfl ?_; intro w6 hd6 hb6 hz6)
        | (refine wpList_storeD rfl _ _ rfl w5.heap.size rfl zeros32 c rfl HCl.out rfl hd6 ?_; intro w7 hd7 hb7 hk7 hz7))
      have z5 := hb5.size
      have hb57 : Below wq.heap.size wq w7 := (hb5.trans (hb6.mono z5)).trans (hb7.mono z5)
      have HS7 : Hid (SA w7 w.heap.size L) := heap_below HS2.out hb57 (heap_lt HS2.out)
      have HT7 : Hid (TA w7 (w.heap.size + 1) T) := heap_below HT2.out hb57 (heap_lt HT2.out)
      have HB7 := Lib.hid (HB2.out.trans (hb57.mono HB2.out.size))
      have hLl := HM.out.1
      have hTl := HM.out.2.1
      have c0 : w7.cell? ⟨w5.heap.size, 0, none⟩ = some (.int .u8 (hb.toNat : Int)) := by
        have h1 := DB.cell hd7 0 (by rw [HCl.out]; omega)
        rw [h1]
        have h2 : c[0]'(by rw [HCl.out]; omega) = hb := by
          have h3 : c[0]? = some hb := by rw [HC0.out]; rfl
          rw [List.getElem?_eq_getElem (by rw [HCl.out]; omega), Option.some.injEq] at h3
          exact h3
        rw [h2]
      obtain ⟨tb, htb⟩ : ∃ t, T[hb.toNat]'(by omega) = t := ⟨_, rfl⟩
      have cT := HT7.out.cell hb.toNat (by omega)
      rw [htb] at cT
      obtain ⟨Y, hY⟩ : ∃ Y, L[hb.toNat]'(by omega) = Y := ⟨_, rfl⟩
      have cL := HS7.out.cell hb.toNat (by omega)
      rw [hY] at cL
      have fL : w7.frozen? ⟨w.heap.size, hb.toNat, none⟩ = false := heap_free HS7.out _
      have fT : w7.frozen? ⟨w.heap.size + 1, hb.toNat, none⟩ = false := heap_free HT7.out _
      have HtT : Hid (T[hb.toNat]? = some tb) := by show _ = _; rw [List.getElem?_eq_getElem (by omega), htb]
      have HtL : Hid (L[hb.toNat]? = some Y) := by show _ = _; rw [List.getElem?_eq_getElem (by omega), hY]
      have hN : w.heap.size + 1 < w5.heap.size := by
        have h1 := heap_lt HT2.out
        omega
      clear hb5 hb6 hd6 hd7 hb7 hk7 hb57 HS2 HT2 HB2 htb hY hLl hTl
      cases tb
      · set_option maxRecDepth 5000 in
        go_wp2_with fail
        have hnext := HM.out.next (by rw [Hhb.out]; exact hbl) (by rw [Hhb.out]; exact HtT.out)
        rw [Hhb.out, HX.out] at hnext
        refine ⟨⟨k + 1, _, _, by omega, hnext, ?_, ?_, ((HB7.out.setCell (by show w.heap.size ≤ w.heap.size + 1; omega) _).setCell (by exact Nat.le_refl _) _), by go_num⟩, by simp [intOf]; omega⟩
        · exact SA.set (heap_setOther HS7.out (by show w.heap.size ≠ w.heap.size + 1; omega) _) _ _
        · exact heap_setOther (TA.set HT7.out _ _) (by show w.heap.size + 1 ≠ w.heap.size; omega) _
      · obtain ⟨j, hj, hhj, hYj⟩ := HM.out.2.2.2 _ HtT.out
        have hhj2 : headT s j = headT s k := by rw [Hhb.out]; exact UInt8.toNat_inj.1 hhj
        have hcl := many_clash hj hlt hhj2
        have hYe : manyT s j = Y := by have h1 := HtL.out; rw [hYj, Option.some.injEq] at h1; exact h1
        rw [hYe, HX.out] at hcl
        have hYs : Y.size ≤ 140737488355200 := by
          have h1 : Y.size = s.size + 2 := by rw [← hYe, manyT, ByteArray.size_append]; rfl
          omega
        have HCL := Lib.hid hcl
        clear hcl hYe hhj2 hhj hYj hj
        set_option maxRecDepth 5000 in
        go_wp2_with (first
          | (go_at_call 47; refine (Clash_any 1 Y X _ (by omega) (by omega)).mono ?_; rintro e w8 ⟨rfl, hb8⟩; rw [HCL.out])
          | (go_at_call 23; refine (awake_any _).mono ?_; rintro e w9 ⟨rfl, hb9⟩))
        go_ret
        have z7 := HB7.out.size
        have z8 := hb8.size
        exact ⟨rfl, (HB7.out.trans (hb8.mono z7)).trans (hb9.mono (by omega))⟩
    · exfalso
      obtain ⟨h1, h2, h3, _⟩ := HM.out
      have := List.count_le_length (a := true) (l := T)
      omega
end Go.Proofs.Ytmjikebbknjahaa
