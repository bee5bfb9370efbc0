/-
  The walks of the laws SumsCRC and SumsDigest.
-/
import Derived.Test.YtmjikebbknjahaaListW
import Derived.Test.YtmjikebbknjahaaRefT
namespace Go.Proofs.Ytmjikebbknjahaa
open Go.RowKit Go.Lib Hw
set_option linter.unusedVariables false

theorem crcParts_flat (r : BitVec 32) : ∀ l : List ByteArray, crcParts r l = crcFeed r (flat l)
  | [] => rfl
  | a :: l => by
    have h := crcParts_flat (crcFeed r a.data.toList) l
    show crcParts (crcFeed r a.data.toList) l = crcFeed r (a.data.toList ++ flat l)
    rw [h, crcFeed_append]
theorem crc_flat (l : List ByteArray) : ~~~ crcParts (BitVec.allOnes 32) l = crcOf (flat l) := by
  have e : (~~~ (0 : BitVec 32)) = BitVec.allOnes 32 := by decide
  rw [crcParts_flat, crcOf, crcMore, e]
theorem size_le_sum : ∀ (l : List ByteArray) (s : ByteArray), s ∈ l → s.size ≤ (l.map ByteArray.size).sum
  | a :: l, s, h => by
    rw [List.map_cons, List.sum_cons]
    rcases List.mem_cons.1 h with rfl | h
    · omega
    · have := size_le_sum l s h
      omega
theorem parts_length : ∀ l : List ByteArray, (l.flatMap partL).length = 4 * l.length + (l.map ByteArray.size).sum
  | [] => rfl
  | a :: l => by
    rw [List.flatMap_cons, List.length_append, parts_length l, partL_length, List.map_cons, List.sum_cons, List.length_cons]
    omega
theorem mk_data (l : List UInt8) : (ByteArray.mk l.toArray).data.toList = l := rfl
theorem mk_size (l : List UInt8) : (ByteArray.mk l.toArray).size = l.length := by simp [ByteArray.size]

set_option maxHeartbeats 2000000 in
theorem SumsCRC_walk (v0 : Value) (w : World) (h0 : IsStrsU w v0) :
    Calls Try.prog 4 #[v0] w fun e w' => e = .returned (.bool true) ∧ Below w.heap.size w w' := by
  obtain ⟨l, hv, hl⟩ := h0
  have HV := Lib.hid hv
  have hl1 : l.length * 16 ≤ 140737488355240 := by omega
  have hl2 : l.length ≤ 9223372036854775807 := by omega
  have hl5 : l.length ≤ 1000000000000000 := by omega
  have hl3 : ∀ s ∈ l, s.size ≤ 9223372036854775807 := fun s h => by have := size_le_sum l s h; omega
  have hfl : (flat l).length = (l.map ByteArray.size).sum := flat_length l
  have hl4 : (flat l).length ≤ 140737488355328 := by omega
  have hl6 : (ByteArray.mk (flat l).toArray).size ≤ 9223372036854775807 := by rw [mk_size]; omega
  obtain ⟨C, hC⟩ : ∃ C, toU (crcOf (flat l)) = C := ⟨_, rfl⟩
  have h7 : toU (~~~ crcParts (BitVec.allOnes 32) l) = C := by rw [crc_flat]; exact hC
  have h8 : toU (crcOf (ByteArray.mk (flat l).toArray).data.toList) = C := hC
  have H7 := Lib.hid h7
  have H8 := Lib.hid h8
  clear hv hC h7 h8
  go_enter Try.func4, Try.ntmps4
  go_wp2_with fail
  refine (lent_any _ l _ HV.out hl1).mono ?_
  rintro e w1 ⟨g1, c1, rfl, hO1, hb1⟩
  have HB1 := Lib.hid hb1
  have HV1 := Lib.hid (HV.out.below' hb1)
  have HO1 := Lib.hid hO1
  have HR1 := Lib.hid (by have h := hO1.row l.length (by simp [marks]); rw [List.take_append_of_le_length (Nat.le_refl _), List.take_length] at h; exact h : StrRow w1 (.slice (some ⟨g1, 0, none⟩) l.length c1) l)
  clear hO1 hb1
  go_wp2_with (first
    | (go_at_call 25; refine (crc_any _ l _ HR1.out hl2 hl3).mono ?_; rintro e w2 ⟨rfl, rfl⟩; rw [H7.out])
    | (go_at_call 27; refine (joined_any _ l _ HV1.out hl4 hl2).mono ?_; rintro e w3 ⟨rfl, hb3⟩)
    | (go_at_call 26; refine (refCRC_any _ _ hl6).mono ?_; rintro e w4 ⟨rfl, rfl⟩; rw [H8.out])
    | (go_at_call 28; refine (kept_any g1 c1 w.heap.size _ l _ (HO1.out.below hb3 (fun g h => (HO1.out.lt g h).2)) (HV1.out.below' hb3) hl5).mono ?_; rintro e w5 ⟨rfl, hb5⟩)
    | (go_at_call 23; refine (awake_any _).mono ?_; rintro e w9 ⟨rfl, hb9⟩))
  go_ret
  have z1 := HB1.out.size
  have z3 := hb3.size
  have z5 := hb5.size
  exact ⟨rfl, (((HB1.out.trans (hb3.mono z1)).trans (hb5.mono (by omega))).trans (hb9.mono (by omega)))⟩

set_option maxHeartbeats 4000000 in
theorem SumsDigest_walk (v0 v1 v2 : Value) (w : World) (h0 : IsI64 v0) (h1 : IsStrU v1) (h2 : IsStrsU w v2) :
    Calls Try.prog 9 #[v0, v1, v2] w fun e w' => e = .returned (.bool true) ∧ Below w.heap.size w w' := by
  obtain ⟨n, rfl, hn⟩ := h0
  obtain ⟨tag, rfl, ht⟩ := h1
  obtain ⟨l, hv, hl⟩ := h2
  have HV := Lib.hid hv
  have hl1 : l.length * 16 ≤ 140737488355240 := by omega
  have hl2 : l.length ≤ 9223372036854775807 := by omega
  have hl5 : l.length ≤ 1000000000000000 := by omega
  have hpl := parts_length l
  have hl3 : tag.size + (l.flatMap partL).length < 140737488350000 := by omega
  have hl4 : tag.size + (l.flatMap partL).length < 140737488355328 := by omega
  have HL := Lib.hid (digL_length n tag l)
  have heg := eqGuardD (digL n tag l) (digL n tag l)
  have heq := eqD_same (digL n tag l) HL.out
  obtain ⟨S, hS⟩ : ∃ S, digL n tag l = S := ⟨_, rfl⟩
  obtain ⟨E, hE⟩ : ∃ E, digE n tag = E := ⟨_, rfl⟩
  rw [hS] at heg heq HL
  have HS := Lib.hid hS
  have HE := Lib.hid hE
  clear hv hS hE hn hpl
  go_enter Try.func9, Try.ntmps9
  go_upto_region 2 with (go_at_call 24; refine (lent_any _ l _ HV.out hl1).mono ?_; rintro e w1 ⟨g1, c1, rfl, hO1, hb1⟩)
  have HB1 := Lib.hid hb1
  have HV1 := Lib.hid (HV.out.below' hb1)
  have HO1 := Lib.hid hO1
  have HR1 := Lib.hid (by have h := hO1.row l.length (by simp [marks]); rw [List.take_append_of_le_length (Nat.le_refl _), List.take_length] at h; exact h : StrRow w1 (.slice (some ⟨g1, 0, none⟩) l.length c1) l)
  clear hO1 hb1
  go_upto_region 3 with (first
    | (go_at_call 36; refine (Digest_any n tag _ l _ HR1 hl4 hl2).mono ?_; rintro e w2 ⟨rfl, hb2⟩; rw [HS.out, HE.out])
    | (refine wpList_allocD rfl rfl w2.heap.size rfl ?_; intro w3 hd3 hb3 hz3)
    | (refine wpList_storeD rfl _ _ rfl w2.heap.size rfl zeros32 S rfl HL.out rfl hd3 ?_; intro w4 hd4 hb4 hk4 hz4))
  have z1 := HB1.out.size
  have z2 := hb2.size
  have z4 := hb4.size
  have HD4 := Lib.hid hd4
  have hb14 : Below w1.heap.size w1 w4 := (hb2.trans (hb3.mono z2)).trans (hb4.mono z2)
  have HB4 := Lib.hid (HB1.out.trans (hb14.mono z1))
  have HV4 := Lib.hid (HV1.out.below' hb14)
  have HO4 := Lib.hid (HO1.out.below hb14 (fun g h => (HO1.out.lt g h).2))
  clear hd3 hb3 hd4 hb4 hk4 hb2 hb14 HB1 HV1 HO1 HR1
  go_upto_region 4 with (first
    | (go_at_call 37; refine (refDigest_any n tag _ l _ HV4 hl3 hl2).mono ?_; rintro e w5 ⟨rfl, hb5⟩; rw [HS.out, HE.out])
    | (refine wpList_allocD rfl rfl w5.heap.size rfl ?_; intro w6 hd6 hb6 hz6)
    | (refine wpList_storeD rfl _ _ rfl w5.heap.size rfl zeros32 S rfl HL.out rfl hd6 ?_; intro w7 hd7 hb7 hk7 hz7))
  have z5 := hb5.size
  have z7 := hb7.size
  have HD7 := Lib.hid hd7
  have hb47 : Below w4.heap.size w4 w7 := (hb5.trans (hb6.mono z5)).trans (hb7.mono z5)
  have HB7 := Lib.hid (HB4.out.trans (hb47.mono (by omega)))
  have HV7 := Lib.hid (HV4.out.below' hb47)
  have HO7 := Lib.hid (HO4.out.below hb47 (fun g h => (HO4.out.lt g h).2))
  have HD8 := Lib.hid (HD4.out.below hb47 (by omega))
  clear hd6 hb6 hd7 hb7 hk7 hb5 hb47 HB4 HV4 HO4 HD4
  set_option maxRecDepth 100000 in
  go_wp2_with (first
    | (refine wpList_loadD rfl _ rfl w2.heap.size rfl S HL.out HD8.out ?_; (try simp only [Act.put, List.setIfInBounds_toArray, List.set_cons_zero, List.set_cons_succ]))
    | (refine wpList_loadD rfl _ rfl w5.heap.size rfl S HL.out HD7.out ?_; (try simp only [Act.put, List.setIfInBounds_toArray, List.set_cons_zero, List.set_cons_succ]))
    | (go_at_call 28; refine (kept_any g1 c1 w.heap.size _ l _ HO7.out HV7.out hl5).mono ?_; rintro e w8 ⟨rfl, hb8⟩)
    | (go_at_call 23; refine (awake_any _).mono ?_; rintro e w9 ⟨rfl, hb9⟩))
  go_ret
  have z7' := HB7.out.size
  have z8 := hb8.size
  exact ⟨rfl, (HB7.out.trans (hb8.mono (by omega))).trans (hb9.mono (by omega))⟩
end Go.Proofs.Ytmjikebbknjahaa
