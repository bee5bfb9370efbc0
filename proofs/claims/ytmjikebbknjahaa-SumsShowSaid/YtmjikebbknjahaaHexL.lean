/-
  The walks of the laws SumsRead and SumsShow.
-/
import Derived.Test.YtmjikebbknjahaaHexV
namespace Go.Proofs.Ytmjikebbknjahaa
open Go.RowKit Go.Lib Hw
set_option linter.unusedVariables false

set_option maxHeartbeats 4000000 in
theorem SumsRead_walk (v0 v1 : Value) (w : World) (h0 : IsI64 v0) (h1 : IsStrR v1) :
    Calls Try.prog 20 #[v0, v1] w fun e w' => e = .returned (.bool true) ∧ Below w.heap.size w w' := by
  obtain ⟨n, rfl, hn⟩ := h0
  obtain ⟨s, rfl, hs⟩ := h1
  have h1 : s.size ≤ 9223372036854775807 := by omega
  have h2 : s.size ≤ 4611686018427387904 := by omega
  have HL := Lib.hid (readRD_length n s.data.toList)
  obtain ⟨S, hS⟩ : ∃ S, readRD n s.data.toList = S := ⟨_, rfl⟩
  obtain ⟨E, hE⟩ : ∃ E, readRE n s.data.toList = E := ⟨_, rfl⟩
  rw [hS] at HL
  have HS := Lib.hid hS
  have HE := Lib.hid hE
  have heg := eqGuardD S S
  have heq := eqD_same S HL.out
  clear hS hE hn
  go_enter Try.func20, Try.ntmps20
  go_upto_region 2 with (first
    | (go_at_call 59; refine (Read_any n s _ h1).mono ?_; rintro e w2 ⟨rfl, hb2⟩; rw [HS.out, HE.out])
    | (refine wpList_allocD rfl rfl w2.heap.size rfl ?_; intro w3 hd3 hb3 hz3)
    | (refine wpList_storeD rfl _ _ rfl w2.heap.size rfl zeros32 S rfl HL.out rfl hd3 ?_; intro w4 hd4 hb4 hk4 hz4))
  have z2 := hb2.size
  have HD4 := Lib.hid hd4
  have HB4 := Lib.hid ((hb2.trans (hb3.mono z2)).trans (hb4.mono z2))
  have z4 : w2.heap.size < w4.heap.size := by omega
  clear hd3 hb3 hd4 hb4 hk4 hb2
  go_upto_region 3 with (first
    | (go_at_call 60; refine (refRead_any n s _ h2).mono ?_; rintro e w5 ⟨rfl, hb5⟩; rw [HS.out, HE.out])
    | (refine wpList_allocD rfl rfl w5.heap.size rfl ?_; intro w6 hd6 hb6 hz6)
    | (refine wpList_storeD rfl _ _ rfl w5.heap.size rfl zeros32 S rfl HL.out rfl hd6 ?_; intro w7 hd7 hb7 hk7 hz7))
  have z5 := hb5.size
  have HD7 := Lib.hid hd7
  have hb47 : Below w4.heap.size w4 w7 := (hb5.trans (hb6.mono z5)).trans (hb7.mono z5)
  have HB7 := Lib.hid (HB4.out.trans (hb47.mono HB4.out.size))
  have HD8 := Lib.hid (HD4.out.below hb47 z4)
  clear hd6 hb6 hd7 hb7 hk7 hb5 hb47 HB4 HD4
  set_option maxRecDepth 100000 in
  go_wp2_with (first
    | (refine wpList_loadD rfl _ rfl w2.heap.size rfl S HL.out HD8.out ?_; (try simp only [Act.put, List.setIfInBounds_toArray, List.set_cons_zero, List.set_cons_succ]))
    | (refine wpList_loadD rfl _ rfl w5.heap.size rfl S HL.out HD7.out ?_; (try simp only [Act.put, List.setIfInBounds_toArray, List.set_cons_zero, List.set_cons_succ]))
    | (go_at_call 23; refine (awake_any _).mono ?_; rintro e w9 ⟨rfl, hb9⟩))
  go_ret
  exact ⟨rfl, HB7.out.trans (hb9.mono HB7.out.size)⟩

theorem fit_lay {n : Int} {l : List UInt8} (h : fitB n l = true) : lay32 l n.toNat = l := by
  have hw := fit_wide h
  unfold fitB at h
  have h2 : wideB n = true := by
    cases hw : wideB n
    · rw [hw] at h; cases h
    · rfl
  rw [h2, cond_true, beq_iff_eq] at h
  unfold cutL at h
  rw [h2, cond_true] at h
  exact h
theorem read_show {n : Int} {l : List UInt8} (hl : l.length = 32) (h : fitB n l = true) : readRD n (showB n l).data.toList = l ∧ readRE n (showB n l).data.toList = 0 := by
  have hb := fit_wide h
  have hlay := fit_lay h
  have hw : wideB n = true := by
    cases hw : wideB n
    · unfold fitB at h; rw [hw] at h; cases h
    · rfl
  obtain ⟨m, rfl⟩ : ∃ m : Nat, n = m := ⟨n.toNat, by omega⟩
  rw [Int.toNat_natCast] at hlay
  have hS : (showB (m : Int) l).data.toList = hexL (l.take m) := by unfold showB; rw [h, cond_true, Int.toNat_natCast]
  have hlm : (l.take m).length = m := by rw [List.length_take]; omega
  have hr : readV m (hexL (l.take m)) = some (l.take m) := by
    have h1 := readV_hexL (l.take m)
    rw [hlm] at h1
    exact h1
  have hp : padL (l.take m) = l := by
    unfold padL
    rw [hlm]
    exact hlay
  unfold readRD readRE readD readE
  rw [hw, hS, cond_true, cond_true, Int.toNat_natCast, hr]
  exact ⟨hp, rfl⟩
theorem showB_size (n : Int) (l : List UInt8) (hl : l.length = 32) : (showB n l).size ≤ 9223372036854775807 := by
  unfold showB
  cases fitB n l
  · exact (by decide : (ByteArray.mk #[]).size ≤ 9223372036854775807)
  · have h1 : (ByteArray.mk (hexL (l.take n.toNat)).toArray).size = (hexL (l.take n.toNat)).length := by simp [ByteArray.size]
    rw [cond_true, h1, hexL_length, List.length_take]
    omega

set_option maxHeartbeats 4000000 in
theorem SumsShow_walk (v0 v1 : Value) (w : World) (h0 : IsI64 v0) (h1 : IsBytes w v1) :
    Calls Try.prog 21 #[v0, v1] w fun e w' => e = .returned (.bool true) ∧ Below w.heap.size w w' := by
  obtain ⟨n, rfl, hn⟩ := h0
  obtain ⟨l, hv, hl⟩ := h1
  obtain ⟨d, hd⟩ : ∃ d, dgL l = d := ⟨_, rfl⟩
  have hdl : d.length = 32 := by rw [← hd]; exact dgL_length l
  have Hd := Lib.hid hd
  have Hdl := Lib.hid hdl
  have HV := Lib.hid hv
  have hsz := showB_size n d hdl
  have hRl := readRD_length n (showB n d).data.toList
  have hfin : fitB n d = true → readRD n (showB n d).data.toList = d ∧ readRE n (showB n d).data.toList = 0 := fun h => read_show hdl h
  obtain ⟨S, hS⟩ : ∃ S, showB n d = S := ⟨_, rfl⟩
  obtain ⟨E, hE⟩ : ∃ E, showE n d = E := ⟨_, rfl⟩
  obtain ⟨B, hB⟩ : ∃ B, fitB n d = B := ⟨_, rfl⟩
  have hE2 : E = bif B then 0 else 2 := by rw [← hE, showE, hB]
  rw [hS] at hsz hRl hfin
  rw [hB] at hfin
  obtain ⟨R, hR⟩ : ∃ R, readRD n S.data.toList = R := ⟨_, rfl⟩
  obtain ⟨F, hF⟩ : ∃ F, readRE n S.data.toList = F := ⟨_, rfl⟩
  rw [hR] at hRl hfin
  rw [hF] at hfin
  have HS := Lib.hid hS
  have HE := Lib.hid hE
  have HR := Lib.hid hR
  have HF := Lib.hid hF
  have HRl := Lib.hid hRl
  have g1 : (S.toList == S.toList) = true := beq_self_eq_true _
  have HE2 := Lib.hid hE2
  have Hfin := Lib.hid hfin
  clear hE2 hfin
  clear hd hdl hv hS hE hB hR hF hRl hn
  go_enter Try.func21, Try.ntmps21
  go_upto_region 2 with (first
    | (go_at_call 42; refine (digest_any _ l _ HV.out hl).mono ?_; rintro e w1 ⟨rfl, hb1⟩; rw [Hd.out])
    | (refine wpList_allocD rfl rfl w1.heap.size rfl ?_; intro w2 hd2 hb2 hz2)
    | (refine wpList_storeD rfl _ _ rfl w1.heap.size rfl zeros32 d rfl Hdl.out rfl hd2 ?_; intro w3 hd3 hb3 hk3 hz3))
  have HD3 := Lib.hid hd3
  have HB3 := Lib.hid ((hb1.trans (hb2.mono hb1.size)).trans (hb3.mono hb1.size))
  have z3 : w1.heap.size < w3.heap.size := by omega
  clear hb1 hd2 hb2 hd3 hb3 hk3
  go_upto_region 3 with (first
    | (refine wpList_loadD rfl _ rfl w1.heap.size rfl d Hdl.out HD3.out ?_; (try simp only [Act.put, List.setIfInBounds_toArray, List.set_cons_zero, List.set_cons_succ]))
    | (go_at_call 61; refine (Show_any n d _ Hdl.out).mono ?_; rintro e w4 ⟨rfl, hb4⟩; rw [HS.out, HE.out]))
  have HD4 := Lib.hid (HD3.out.below hb4 z3)
  have HB4 := Lib.hid (HB3.out.trans (hb4.mono HB3.out.size))
  have z4 : w1.heap.size < w4.heap.size := heap_lt HD4.out
  clear hb4 HD3 HB3
  go_upto_region 6 with (first
    | (refine wpList_loadD rfl _ rfl w1.heap.size rfl d Hdl.out HD4.out ?_; (try simp only [Act.put, List.setIfInBounds_toArray, List.set_cons_zero, List.set_cons_succ]))
    | (go_at_call 62; refine (refShow_any n d _ Hdl.out).mono ?_; rintro e w5 ⟨rfl, hb5⟩; rw [HS.out, HE.out]))
  have HD5 := Lib.hid (HD4.out.below hb5 z4)
  have HB5 := Lib.hid (HB4.out.trans (hb5.mono HB4.out.size))
  have z5 : w1.heap.size < w5.heap.size := heap_lt HD5.out
  clear hb5 HD4 HB4
  go_upto_region 7 with (first
    | (go_at_call 59; refine (Read_any n S _ hsz).mono ?_; rintro e w6 ⟨rfl, hb6⟩; rw [HR.out, HF.out])
    | (refine wpList_allocD rfl rfl w6.heap.size rfl ?_; intro w7 hd7 hb7 hz7)
    | (refine wpList_storeD rfl _ _ rfl w6.heap.size rfl zeros32 R rfl HRl.out rfl hd7 ?_; intro w8 hd8 hb8 hk8 hz8))
  have z6 := hb6.size
  have hb58 : Below w5.heap.size w5 w8 := (hb6.trans (hb7.mono z6)).trans (hb8.mono z6)
  have HD8 := Lib.hid (HD5.out.below hb58 z5)
  have HE8 := Lib.hid hd8
  have HB8 := Lib.hid (HB5.out.trans (hb58.mono HB5.out.size))
  clear hb6 hd7 hb7 hd8 hb8 hk8 hb58 HD5 HB5
  cases B
  · obtain rfl : E = 2 := HE2.out
    clear HE2 Hfin
    go_wp2_with (go_at_call 23; refine (awake_any _).mono ?_; rintro e w9 ⟨rfl, hb9⟩)
    go_ret
    exact ⟨rfl, HB8.out.trans (hb9.mono HB8.out.size)⟩
  · obtain rfl : E = 0 := HE2.out
    obtain ⟨rfl, rfl⟩ := Hfin.out rfl
    have heg := eqGuardD R R
    have heq := eqD_same R Hdl.out
    clear HE2 Hfin
    set_option maxRecDepth 100000 in
    go_wp2_with (first
      | (refine wpList_loadDg rfl _ rfl w6.heap.size rfl R Hdl.out HE8.out ?_; (try simp only [Act.put, List.setIfInBounds_toArray, List.set_cons_zero, List.set_cons_succ]))
      | (refine wpList_loadDg rfl _ rfl w1.heap.size rfl R Hdl.out HD8.out ?_; (try simp only [Act.put, List.setIfInBounds_toArray, List.set_cons_zero, List.set_cons_succ]))
      | (go_at_call 23; refine (awake_any _).mono ?_; rintro e w9 ⟨rfl, hb9⟩))
    go_ret
    exact ⟨rfl, HB8.out.trans (hb9.mono HB8.out.size)⟩
end Go.Proofs.Ytmjikebbknjahaa
