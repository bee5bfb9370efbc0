/-
  The walks of Clash and Fits, both ways, and of the law SumsClash.
-/
import Derived.Test.YtmjikebbknjahaaCutW
namespace Go.Proofs.Ytmjikebbknjahaa
open Go.RowKit Go.Lib Hw
set_option linter.unusedVariables false

/-- a digest built under a guard that holds -/
theorem wpList_buildDg {ops : Array Oper} {rest : List Oper} {op : Oper} {a : Act} {w : World} {Q : Exit → Act → World → Prop} (hg : Region.wanted op (yielded ops a.tmps) = true) (ho : op.op = .build 39 #[])
    (h : wpList Try.prog ops Q rest (a.put op.dst (dv zeros32)) w) : wpList Try.prog ops Q (op :: rest) a w :=
  wpList_step fun K hK => by
    rw [if_pos hg]
    unfold Oper.wp
    rw [build_D _ _ ho]
    exact hK _ _ h
def fitB (n : Int) (l : List UInt8) : Bool := bif wideB n then cutL n l == l else false

set_option maxHeartbeats 4000000 in
theorem Fits_any (n : Int) (l : List UInt8) (w : World) (hl : l.length = 32) :
    Calls Try.prog 45 #[.int .i64 n, dv l] w fun e w' => e = .returned (.bool (fitB n l)) ∧ Below w.heap.size w w' := by
  have Hl := Lib.hid (cutL_length n l hl)
  cases hw : wideB n
  · have e1 : fitB n l = false := by unfold fitB; rw [hw]; rfl
    have HE : Hid (cutE n = 2) := by show cutE n = _; unfold cutE; rw [hw]; rfl
    rw [e1]
    clear e1 hw
    go_enter Try.func45, Try.ntmps45
    go_upto_region 1 with (refine wpList_boxD rfl _ rfl l rfl w.heap.size rfl ?_; intro w1 hd1 hb1 hz1)
    (try simp only [Act.put, List.setIfInBounds_toArray, List.set_cons_zero, List.set_cons_succ])
    have HD1 := Lib.hid hd1
    have HB1 := Lib.hid hb1
    clear hd1 hb1
    go_wp2_with (first
      | (refine wpList_loadD rfl _ rfl w.heap.size rfl l hl HD1.out ?_; (try simp only [Act.put, List.setIfInBounds_toArray, List.set_cons_zero, List.set_cons_succ]))
      | (go_at_call 43; refine (Cut_any _ _ _ hl).mono ?_; rintro e w2 ⟨rfl, hb2⟩; rw [HE.out])
      | (refine wpList_allocD rfl rfl w2.heap.size rfl ?_; intro w3 hd3 hb3 hz3)
      | (refine wpList_storeD rfl _ _ rfl w2.heap.size rfl zeros32 (cutL n l) rfl Hl.out rfl hd3 ?_; intro w4 hd4 hb4 hk4 hz4))
    go_ret
    exact ⟨rfl, ((HB1.out.trans (hb2.mono (by omega))).trans (hb3.mono (by have := hb2.size; omega))).trans (hb4.mono (by have := hb2.size; omega))⟩
  · have HE : Hid (cutE n = 0) := by show cutE n = _; unfold cutE; rw [hw]; rfl
    have e1 : fitB n l = (cutL n l == l) := by unfold fitB; rw [hw]; rfl
    rw [e1]
    obtain ⟨T, hT⟩ : ∃ T, cutL n l = T := ⟨_, rfl⟩
    rw [hT] at Hl ⊢
    obtain ⟨B, hB⟩ : ∃ B, (T == l) = B := ⟨_, rfl⟩
    have heg := eqGuardD T l
    have heq := eqD T l Hl.out hl
    rw [hB] at heq ⊢
    have HT := Lib.hid hT
    clear e1 hw hT hB
    go_enter Try.func45, Try.ntmps45
    go_upto_region 1 with (refine wpList_boxD rfl _ rfl l rfl w.heap.size rfl ?_; intro w1 hd1 hb1 hz1)
    (try simp only [Act.put, List.setIfInBounds_toArray, List.set_cons_zero, List.set_cons_succ])
    have HD1 := Lib.hid hd1
    have HB1 := Lib.hid hb1
    clear hd1 hb1
    go_upto_region 2 with (first
      | (refine wpList_loadD rfl _ rfl w.heap.size rfl l hl HD1.out ?_; (try simp only [Act.put, List.setIfInBounds_toArray, List.set_cons_zero, List.set_cons_succ]))
      | (go_at_call 43; refine (Cut_any _ _ _ hl).mono ?_; rintro e w2 ⟨rfl, hb2⟩; rw [HE.out, HT.out])
      | (refine wpList_allocD rfl rfl w2.heap.size rfl ?_; intro w3 hd3 hb3 hz3)
      | (refine wpList_storeD rfl _ _ rfl w2.heap.size rfl zeros32 T rfl Hl.out rfl hd3 ?_; intro w4 hd4 hb4 hk4 hz4))
    have hz2 := hb2.size
    have HD4 := Lib.hid hd4
    have HD5 := Lib.hid (((HD1.out.below hb2 (by omega)).below hb3 (by omega)).below hb4 (by omega))
    have HB4 := Lib.hid (((HB1.out.trans (hb2.mono (by omega))).trans (hb3.mono (by omega))).trans (hb4.mono (by omega)))
    clear hd3 hb3 hd4 hb4 hk4 hb2
    set_option maxRecDepth 100000 in
    go_wp2_with (first
      | (refine wpList_loadDg rfl _ rfl w2.heap.size rfl T Hl.out HD4.out ?_; (try simp only [Act.put, List.setIfInBounds_toArray, List.set_cons_zero, List.set_cons_succ]))
      | (refine wpList_loadDg rfl _ rfl w.heap.size rfl l hl HD5.out ?_; (try simp only [Act.put, List.setIfInBounds_toArray, List.set_cons_zero, List.set_cons_succ])))
    go_ret
    exact ⟨rfl, HB4.out⟩

set_option maxHeartbeats 4000000 in
theorem refFits_any (n : Int) (l : List UInt8) (w : World) (hl : l.length = 32) :
    Calls Try.prog 46 #[.int .i64 n, dv l] w fun e w' => e = .returned (.bool (fitB n l)) ∧ Below w.heap.size w w' := by
  have Hl := Lib.hid (cutL_length n l hl)
  cases hw : wideB n
  · have e1 : fitB n l = false := by unfold fitB; rw [hw]; rfl
    have HE : Hid (cutE n = 2) := by show cutE n = _; unfold cutE; rw [hw]; rfl
    rw [e1]
    clear e1 hw
    go_enter Try.func46, Try.ntmps46
    go_upto_region 1 with (refine wpList_boxD rfl _ rfl l rfl w.heap.size rfl ?_; intro w1 hd1 hb1 hz1)
    (try simp only [Act.put, List.setIfInBounds_toArray, List.set_cons_zero, List.set_cons_succ])
    have HD1 := Lib.hid hd1
    have HB1 := Lib.hid hb1
    clear hd1 hb1
    go_wp2_with (first
      | (refine wpList_loadD rfl _ rfl w.heap.size rfl l hl HD1.out ?_; (try simp only [Act.put, List.setIfInBounds_toArray, List.set_cons_zero, List.set_cons_succ]))
      | (go_at_call 44; refine (refCut_any _ _ _ hl).mono ?_; rintro e w2 ⟨rfl, hb2⟩; rw [HE.out])
      | (refine wpList_allocD rfl rfl w2.heap.size rfl ?_; intro w3 hd3 hb3 hz3)
      | (refine wpList_storeD rfl _ _ rfl w2.heap.size rfl zeros32 (cutL n l) rfl Hl.out rfl hd3 ?_; intro w4 hd4 hb4 hk4 hz4))
    go_ret
    exact ⟨rfl, ((HB1.out.trans (hb2.mono (by omega))).trans (hb3.mono (by have := hb2.size; omega))).trans (hb4.mono (by have := hb2.size; omega))⟩
  · have HE : Hid (cutE n = 0) := by show cutE n = _; unfold cutE; rw [hw]; rfl
    have e1 : fitB n l = (cutL n l == l) := by unfold fitB; rw [hw]; rfl
    rw [e1]
    obtain ⟨T, hT⟩ : ∃ T, cutL n l = T := ⟨_, rfl⟩
    rw [hT] at Hl ⊢
    obtain ⟨B, hB⟩ : ∃ B, (T == l) = B := ⟨_, rfl⟩
    have heg := eqGuardD T l
    have heq := eqD T l Hl.out hl
    rw [hB] at heq ⊢
    have HT := Lib.hid hT
    clear e1 hw hT hB
    go_enter Try.func46, Try.ntmps46
    go_upto_region 1 with (refine wpList_boxD rfl _ rfl l rfl w.heap.size rfl ?_; intro w1 hd1 hb1 hz1)
    (try simp only [Act.put, List.setIfInBounds_toArray, List.set_cons_zero, List.set_cons_succ])
    have HD1 := Lib.hid hd1
    have HB1 := Lib.hid hb1
    clear hd1 hb1
    go_upto_region 2 with (first
      | (refine wpList_loadD rfl _ rfl w.heap.size rfl l hl HD1.out ?_; (try simp only [Act.put, List.setIfInBounds_toArray, List.set_cons_zero, List.set_cons_succ]))
      | (go_at_call 44; refine (refCut_any _ _ _ hl).mono ?_; rintro e w2 ⟨rfl, hb2⟩; rw [HE.out, HT.out])
      | (refine wpList_allocD rfl rfl w2.heap.size rfl ?_; intro w3 hd3 hb3 hz3)
      | (refine wpList_storeD rfl _ _ rfl w2.heap.size rfl zeros32 T rfl Hl.out rfl hd3 ?_; intro w4 hd4 hb4 hk4 hz4))
    have hz2 := hb2.size
    have HD4 := Lib.hid hd4
    have HD5 := Lib.hid (((HD1.out.below hb2 (by omega)).below hb3 (by omega)).below hb4 (by omega))
    have HB4 := Lib.hid (((HB1.out.trans (hb2.mono (by omega))).trans (hb3.mono (by omega))).trans (hb4.mono (by omega)))
    clear hd3 hb3 hd4 hb4 hk4 hb2
    set_option maxRecDepth 100000 in
    go_wp2_with (first
      | (refine wpList_loadDg rfl _ rfl w2.heap.size rfl T Hl.out HD4.out ?_; (try simp only [Act.put, List.setIfInBounds_toArray, List.set_cons_zero, List.set_cons_succ]))
      | (refine wpList_loadDg rfl _ rfl w.heap.size rfl l hl HD5.out ?_; (try simp only [Act.put, List.setIfInBounds_toArray, List.set_cons_zero, List.set_cons_succ])))
    go_ret
    exact ⟨rfl, HB4.out⟩

/-- Clash -/
def clashB (n : Int) (x y : ByteArray) : Bool := bif x.toList == y.toList then false else bif wideB n then cutL n (sha256 x.data.toList) == cutL n (sha256 y.data.toList) else false

set_option maxHeartbeats 4000000 in
theorem Clash_any (n : Int) (x y : ByteArray) (w : World) (hx : x.size ≤ 1000000000000000000) (hy : y.size ≤ 1000000000000000000) :
    Calls Try.prog 47 #[.int .i64 n, .string x, .string y] w fun e w' => e = .returned (.bool (clashB n x y)) ∧ Below w.heap.size w w' := by
  cases hxy : (x.toList == y.toList)
  · have HA := Lib.hid (cutL_length n _ (sha256_length x.data.toList))
    have HC := Lib.hid (cutL_length n _ (sha256_length y.data.toList))
    have e1 : clashB n x y = bif wideB n then cutL n (sha256 x.data.toList) == cutL n (sha256 y.data.toList) else false := by unfold clashB; rw [hxy]; rfl
    rw [e1]
    clear e1
    obtain ⟨S, hS⟩ : ∃ S, cutL n (sha256 x.data.toList) = S := ⟨_, rfl⟩
    obtain ⟨T, hT⟩ : ∃ T, cutL n (sha256 y.data.toList) = T := ⟨_, rfl⟩
    rw [hS] at HA ⊢
    rw [hT] at HC ⊢
    obtain ⟨B, hB⟩ : ∃ B, (S == T) = B := ⟨_, rfl⟩
    have heg := eqGuardD S T
    have heq := eqD S T HA.out HC.out
    rw [hB] at heq ⊢
    have HS := Lib.hid hS
    have HT := Lib.hid hT
    clear hS hT hB
    obtain ⟨E, hE⟩ : ∃ E, cutE n = E := ⟨_, rfl⟩
    obtain ⟨R, hR⟩ : ∃ R, (bif wideB n then B else false) = R := ⟨_, rfl⟩
    have hER : (E = 0 ∧ R = B) ∨ (E = 2 ∧ R = false) := by
      rw [← hE, ← hR]; unfold cutE
      cases wideB n
      · exact .inr ⟨rfl, rfl⟩
      · exact .inl ⟨rfl, rfl⟩
    rw [hR]
    have HE := Lib.hid hE
    clear hE hR
    rcases hER with ⟨rfl, rfl⟩ | ⟨rfl, rfl⟩
    · go_enter Try.func47, Try.ntmps47
      go_upto_region 4 with (first
        | (go_at_call 38; refine (Of_any _ _ _ hx).mono ?_; rintro e w2 ⟨rfl, hb2⟩; rw [HS.out, HE.out])
        | (refine wpList_allocD rfl rfl w2.heap.size rfl ?_; intro w3 hd3 hb3 hz3)
        | (refine wpList_storeD rfl _ _ rfl w2.heap.size rfl zeros32 S rfl HA.out rfl hd3 ?_; intro w4 hd4 hb4 hk4 hz4))
      have HD4 := Lib.hid hd4
      have HB4 := Lib.hid ((hb2.trans (hb3.mono hb2.size)).trans (hb4.mono hb2.size))
      have hzw := hb2.size
      clear hd3 hb3 hd4 hb4 hk4 hb2
      go_upto_region 5 with (first
        | (go_at_call 38; refine (Of_any _ _ _ hy).mono ?_; rintro e w5 ⟨rfl, hb5⟩; rw [HT.out, HE.out])
        | (refine wpList_allocD rfl rfl w5.heap.size rfl ?_; intro w6 hd6 hb6 hz6)
        | (refine wpList_storeD rfl _ _ rfl w5.heap.size rfl zeros32 T rfl HC.out rfl hd6 ?_; intro w7 hd7 hb7 hk7 hz7))
      have hz5 := hb5.size
      have HD7 := Lib.hid hd7
      have HD8 := Lib.hid (((HD4.out.below hb5 (by omega)).below hb6 (by omega)).below hb7 (by omega))
      have HB7 := Lib.hid (((HB4.out.trans (hb5.mono (by omega))).trans (hb6.mono (by omega))).trans (hb7.mono (by omega)))
      clear hd6 hb6 hd7 hb7 hk7 hb5 HB4 HD4
      set_option maxRecDepth 100000 in
      go_wp2_with (first
        | (refine wpList_loadDg rfl _ rfl w2.heap.size rfl S HA.out HD8.out ?_; (try simp only [Act.put, List.setIfInBounds_toArray, List.set_cons_zero, List.set_cons_succ]))
        | (refine wpList_loadDg rfl _ rfl w5.heap.size rfl T HC.out HD7.out ?_; (try simp only [Act.put, List.setIfInBounds_toArray, List.set_cons_zero, List.set_cons_succ])))
      go_ret
      exact ⟨rfl, HB7.out⟩
    · go_enter Try.func47, Try.ntmps47
      go_upto_region 4 with (first
        | (go_at_call 38; refine (Of_any _ _ _ hx).mono ?_; rintro e w2 ⟨rfl, hb2⟩; rw [HS.out, HE.out])
        | (refine wpList_allocD rfl rfl w2.heap.size rfl ?_; intro w3 hd3 hb3 hz3)
        | (refine wpList_storeD rfl _ _ rfl w2.heap.size rfl zeros32 S rfl HA.out rfl hd3 ?_; intro w4 hd4 hb4 hk4 hz4))
      have HB4 := Lib.hid ((hb2.trans (hb3.mono hb2.size)).trans (hb4.mono hb2.size))
      have hzw := hb2.size
      clear hd3 hb3 hd4 hb4 hk4 hb2
      go_wp2_with (first
        | (go_at_call 38; refine (Of_any _ _ _ hy).mono ?_; rintro e w5 ⟨rfl, hb5⟩; rw [HT.out, HE.out])
        | (refine wpList_allocD rfl rfl w5.heap.size rfl ?_; intro w6 hd6 hb6 hz6)
        | (refine wpList_storeD rfl _ _ rfl w5.heap.size rfl zeros32 T rfl HC.out rfl hd6 ?_; intro w7 hd7 hb7 hk7 hz7))
      have hz5 := hb5.size
      go_ret
      exact ⟨rfl, ((HB4.out.trans (hb5.mono (by omega))).trans (hb6.mono (by omega))).trans (hb7.mono (by omega))⟩
  · have e1 : clashB n x y = false := by unfold clashB; rw [hxy]; rfl
    rw [e1]
    clear e1
    go_enter Try.func47, Try.ntmps47
    go_wp2_with fail
    go_ret
    exact ⟨rfl, Below.refl _ _⟩

set_option maxHeartbeats 8000000 in
theorem refClash_any (n : Int) (x y : ByteArray) (w : World) (hx : x.size ≤ 140737488355200) (hy : y.size ≤ 140737488355200) :
    Calls Try.prog 48 #[.int .i64 n, .string x, .string y] w fun e w' => e = .returned (.bool (clashB n x y)) ∧ Below w.heap.size w w' := by
  have HA := Lib.hid (cutL_length n _ (sha256_length x.data.toList))
  have HC := Lib.hid (cutL_length n _ (sha256_length y.data.toList))
  have e1 : clashB n x y = bif x.toList == y.toList then false else bif wideB n then cutL n (sha256 x.data.toList) == cutL n (sha256 y.data.toList) else false := rfl
  rw [e1]
  clear e1
  obtain ⟨S, hS⟩ : ∃ S, cutL n (sha256 x.data.toList) = S := ⟨_, rfl⟩
  obtain ⟨T, hT⟩ : ∃ T, cutL n (sha256 y.data.toList) = T := ⟨_, rfl⟩
  rw [hS] at HA ⊢
  rw [hT] at HC ⊢
  obtain ⟨B, hB⟩ : ∃ B, (S == T) = B := ⟨_, rfl⟩
  have heg := eqGuardD S T
  have heq := eqD S T HA.out HC.out
  rw [hB] at heq ⊢
  have HS := Lib.hid hS
  have HT := Lib.hid hT
  clear hS hT hB
  obtain ⟨E, hE⟩ : ∃ E, cutE n = E := ⟨_, rfl⟩
  obtain ⟨R, hR⟩ : ∃ R, (bif x.toList == y.toList then false else bif wideB n then B else false) = R := ⟨_, rfl⟩
  have hER : (E = 0 ∧ (!(x.toList == y.toList)) = true ∧ R = B) ∨ (E = 0 ∧ (!(x.toList == y.toList)) = false ∧ R = false) ∨ (E = 2 ∧ True ∧ R = false) := by
    rw [← hE, ← hR]; unfold cutE
    cases wideB n
    · exact .inr (.inr ⟨rfl, trivial, by cases (x.toList == y.toList) <;> rfl⟩)
    · cases hxy : (x.toList == y.toList)
      · exact .inl ⟨rfl, rfl, rfl⟩
      · exact .inr (.inl ⟨rfl, rfl, rfl⟩)
  rw [hR]
  have HE := Lib.hid hE
  clear hE hR
  go_enter Try.func48, Try.ntmps48
  go_upto_region 2 with (first
    | (go_at_call 39; refine (refOf_any _ _ _ hx).mono ?_; rintro e w2 ⟨rfl, hb2⟩; rw [HS.out, HE.out])
    | (refine wpList_allocD rfl rfl w2.heap.size rfl ?_; intro w3 hd3 hb3 hz3)
    | (refine wpList_storeD rfl _ _ rfl w2.heap.size rfl zeros32 S rfl HA.out rfl hd3 ?_; intro w4 hd4 hb4 hk4 hz4))
  have HD4 := Lib.hid hd4
  have HB4 := Lib.hid ((hb2.trans (hb3.mono hb2.size)).trans (hb4.mono hb2.size))
  have hzw := hb2.size
  clear hd3 hb3 hd4 hb4 hk4 hb2
  go_upto_region 3 with (first
    | (go_at_call 39; refine (refOf_any _ _ _ hy).mono ?_; rintro e w5 ⟨rfl, hb5⟩; rw [HT.out, HE.out])
    | (refine wpList_allocD rfl rfl w5.heap.size rfl ?_; intro w6 hd6 hb6 hz6)
    | (refine wpList_storeD rfl _ _ rfl w5.heap.size rfl zeros32 T rfl HC.out rfl hd6 ?_; intro w7 hd7 hb7 hk7 hz7))
  have hz5 := hb5.size
  have HD7 := Lib.hid hd7
  have HD8 := Lib.hid (((HD4.out.below hb5 (by omega)).below hb6 (by omega)).below hb7 (by omega))
  have HB7 := Lib.hid (((HB4.out.trans (hb5.mono (by omega))).trans (hb6.mono (by omega))).trans (hb7.mono (by omega)))
  clear hd6 hb6 hd7 hb7 hk7 hb5 HB4 HD4 HE
  rcases hER with ⟨rfl, hxn, rfl⟩ | ⟨rfl, hxn, rfl⟩ | ⟨rfl, _, rfl⟩
  · set_option maxRecDepth 100000 in
    go_wp2_with (first
      | (refine wpList_loadDg rfl _ rfl w2.heap.size rfl S HA.out HD8.out ?_; (try simp only [Act.put, List.setIfInBounds_toArray, List.set_cons_zero, List.set_cons_succ]))
      | (refine wpList_loadDg rfl _ rfl w5.heap.size rfl T HC.out HD7.out ?_; (try simp only [Act.put, List.setIfInBounds_toArray, List.set_cons_zero, List.set_cons_succ])))
    go_ret
    exact ⟨rfl, HB7.out⟩
  · go_wp2_with fail
    go_ret
    exact ⟨rfl, HB7.out⟩
  · go_wp2_with fail
    go_ret
    exact ⟨rfl, HB7.out⟩

set_option maxRecDepth 100000 in
theorem clash_one : clashB 1 ⟨#[5]⟩ ⟨#[11]⟩ = true := by decide +kernel
set_option maxRecDepth 100000 in
theorem clash_two : clashB 2 ⟨#[5]⟩ ⟨#[11]⟩ = false := by decide +kernel

set_option maxHeartbeats 4000000 in
theorem SumsClash_walk (v0 v1 v2 : Value) (w : World) (h0 : IsI64 v0) (h1 : IsStrR v1) (h2 : IsStrR v2) :
    Calls Try.prog 14 #[v0, v1, v2] w fun e w' => e = .returned (.bool true) ∧ Below w.heap.size w w' := by
  obtain ⟨n, rfl, hn⟩ := h0
  obtain ⟨x, rfl, hx⟩ := h1
  obtain ⟨y, rfl, hy⟩ := h2
  have hx1 : x.size ≤ 140737488355200 := by omega
  have hx2 : x.size ≤ 1000000000000000000 := by omega
  have hy1 : y.size ≤ 140737488355200 := by omega
  have hy2 : y.size ≤ 1000000000000000000 := by omega
  obtain ⟨B, hB⟩ : ∃ B, clashB n x y = B := ⟨_, rfl⟩
  have HB := Lib.hid hB
  have h51 := fun w => Clash_any 1 ⟨#[5]⟩ ⟨#[11]⟩ w (by decide) (by decide)
  have h52 := fun w => Clash_any 2 ⟨#[5]⟩ ⟨#[11]⟩ w (by decide) (by decide)
  rw [clash_one] at h51
  rw [clash_two] at h52
  have H51 := Lib.hid h51
  have H52 := Lib.hid h52
  clear hB h51 h52
  go_enter Try.func14, Try.ntmps14
  go_wp2_with (first
    | (go_at_call 47; (with_reducible refine (H51.out _).mono ?_); rintro e w4 ⟨rfl, hb4⟩)
    | (go_at_call 47; (with_reducible refine (H52.out _).mono ?_); rintro e w5 ⟨rfl, hb5⟩)
    | (go_at_call 47; (with_reducible refine (Clash_any n x y _ hx2 hy2).mono ?_); rintro e w2 ⟨rfl, hb2⟩; rw [HB.out])
    | (go_at_call 48; (with_reducible refine (refClash_any n x y _ hx1 hy1).mono ?_); rintro e w3 ⟨rfl, hb3⟩; rw [HB.out])
    | (go_at_call 23; refine (awake_any _).mono ?_; rintro e w9 ⟨rfl, hb9⟩))
  go_ret
  have z2 := hb2.size
  have z3 := hb3.size
  have z4 := hb4.size
  have z5 := hb5.size
  exact ⟨rfl, (((hb2.trans (hb3.mono z2)).trans (hb4.mono (by omega))).trans (hb5.mono (by omega))).trans (hb9.mono (by omega))⟩
end Go.Proofs.Ytmjikebbknjahaa
