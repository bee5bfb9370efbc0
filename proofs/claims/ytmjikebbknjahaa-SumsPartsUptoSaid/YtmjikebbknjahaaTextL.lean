/-
  The walk of the law SumsText.
-/
import Derived.Test.YtmjikebbknjahaaListL
import Derived.Test.YtmjikebbknjahaaPartsW
import Derived.Test.YtmjikebbknjahaaSameW
namespace Go.Proofs.Ytmjikebbknjahaa
open Go.RowKit Go.Lib Hw
set_option linter.unusedVariables false

theorem OwnT.strRow {w : World} {B : Nat} {v : Value} {xs : List ByteArray} (h : OwnT w B v xs) : StrRow w v xs := by
  rcases Nat.eq_zero_or_pos xs.length with h0 | h0
  · obtain rfl : xs = [] := List.eq_nil_of_length_eq_zero h0
    rcases h.2 with ⟨rfl, _⟩ | ⟨g, cap, cur, rfl, _⟩
    · exact ⟨none, 0, rfl, fun _ => rfl, fun h => by simp at h⟩
    · exact ⟨some ⟨g, 0, none⟩, cap, rfl, (fun h => by cases h), fun h => by simp at h⟩
  · obtain ⟨g, cap, rfl, _, _, _⟩ := h.form h0
    have h1 := h.row xs.length (Nat.le_refl _)
    rw [List.take_length] at h1
    exact h1
theorem textL_size (tag : ByteArray) (ss : List ByteArray) : (ByteArray.mk (textL tag ss).toArray).size = 1 + tag.size + 4 * ss.length + (ss.map ByteArray.size).sum := by
  rw [mk_size, textL, List.length_cons, List.length_append, data_len, parts_length]
  omega

theorem same_same (va vb : Value) (l : List ByteArray) (w : World) (ha : StrRow w va l) (hb : StrRow w vb l) (hl : l.length ≤ 9223372036854775807) :
    Calls Try.prog 35 #[va, vb] w fun e w' => e = .returned (.bool true) ∧ Below w.heap.size w w' := by
  refine (same_any va vb l l w ha hb hl hl).mono ?_
  rintro e w' ⟨rfl, hb⟩
  exact ⟨by rw [decide_eq_true rfl], hb⟩

set_option maxHeartbeats 4000000 in
theorem SumsText_walk (v0 v1 : Value) (w : World) (h0 : IsStrU v0) (h1 : IsStrsU w v1) :
    Calls Try.prog 18 #[v0, v1] w fun e w' => e = .returned (.bool true) ∧ Below w.heap.size w w' := by
  obtain ⟨tag, rfl, ht⟩ := h0
  obtain ⟨l, hv, hl⟩ := h1
  have HV := Lib.hid hv
  have hl1 : l.length * 16 ≤ 140737488355240 := by omega
  have hl2 : l.length ≤ 9223372036854775807 := by omega
  have hl5 : l.length ≤ 1000000000000000 := by omega
  have hpl := parts_length l
  have hl4 : tag.size + (l.flatMap partL).length < 140737488355328 := by omega
  have ht2 : tag.size ≤ 9223372036854775807 := by omega
  cases hb : badTag tag
  · have hS9 : (ByteArray.mk (textL tag l).toArray).size ≤ 100000000 := by rw [textL_size]; omega
    have hPR : partsR (ByteArray.mk (textL tag l).toArray) = some (tag, l) := partsR_text tag l hb (fun s hs => by have := size_le_sum l s hs; omega)
    obtain ⟨S, hS⟩ : ∃ S, ByteArray.mk (textL tag l).toArray = S := ⟨_, rfl⟩
    rw [hS] at hS9 hPR
    have HS := Lib.hid hS
    have HB := Lib.hid hb
    have HPR := Lib.hid hPR
    have heS : (S.toList == S.toList) = true := beq_self_eq_true _
    have heT : (tag.toList == tag.toList) = true := beq_self_eq_true _
    clear hS hb hPR hv hpl
    go_enter Try.func18, Try.ntmps18
    go_upto_region 2 with (go_at_call 24; refine (lent_any _ l _ HV.out hl1).mono ?_; rintro e w1 ⟨g1, c1, rfl, hO1, hb1⟩)
    have HB1 := Lib.hid hb1
    have HV1 := Lib.hid (HV.out.below' hb1)
    have HO1 := Lib.hid hO1
    have HR1 := Lib.hid (by have h := hO1.row l.length (by simp [marks]); rw [List.take_append_of_le_length (Nat.le_refl _), List.take_length] at h; exact h : StrRow w1 (.slice (some ⟨g1, 0, none⟩) l.length c1) l)
    clear hO1 hb1
    go_upto_region 3 with (go_at_call 33; refine (Text_any tag _ l _ HB.out HR1 hl4 hl2).mono ?_; rintro e w2 ⟨rfl, hb2⟩; rw [HS.out])
    have HV2 : Hid (StrRow w2 _ l) := HV1.out.below' hb2
    go_upto_region 4 with (go_at_call 56; refine (refText_any tag _ l _ HB.out HV2 hl4 hl2).mono ?_; rintro e w3 ⟨rfl, hb3⟩; rw [HS.out])
    have z1 := HB1.out.size
    have z2 := hb2.size
    have HV3 := Lib.hid (HV2.out.below' hb3)
    have hb13 : Below w1.heap.size w1 w3 := hb2.trans (hb3.mono z2)
    have HO3 := Lib.hid (HO1.out.below hb13 (fun g h => (HO1.out.lt g h).2))
    have HB3 := Lib.hid (HB1.out.trans (hb13.mono z1))
    clear HV1 HV2 HR1 HO1 HB1 hb2 hb3 hb13 z1 z2
    go_upto_region 6 with (go_at_call 28; refine (kept_any g1 c1 w.heap.size _ l _ HO3.out HV3.out hl5).mono ?_; rintro e w4 ⟨rfl, hb4⟩)
    have z3 := HB3.out.size
    have HB4 := Lib.hid (HB3.out.trans (hb4.mono z3))
    have HV4 := Lib.hid (HV3.out.below' hb4)
    clear HB3 HV3 HO3 hb4
    go_upto_region 9 with (go_at_call 57; refine (Parts_any S _ hS9).mono ?_; rw [HPR.out]; rintro e w5 ⟨hb5, v5, rfl, hO5⟩)
    have z4 := HB4.out.size
    have HB5 := Lib.hid (HB4.out.trans (hb5.mono z4))
    have HV5 := Lib.hid (HV4.out.below' hb5)
    have HO5 := Lib.hid hO5.strRow
    have z5 := HB5.out.size
    clear HB4 HV4 hb5 hO5
    go_wp2_with (first
      | (go_at_call 35; refine (same_same _ _ l _ HO5.out HV5.out hl2).mono ?_; rintro e w6 ⟨rfl, hb6⟩)
      | (go_at_call 23; refine (awake_any _).mono ?_; rintro e w9 ⟨rfl, hb9⟩))
    go_ret
    have z6 := hb6.size
    exact ⟨rfl, (HB5.out.trans (hb6.mono z5)).trans (hb9.mono (by omega))⟩
  · have HB := Lib.hid hb
    clear hb hv hpl
    go_enter Try.func18, Try.ntmps18
    go_upto_region 2 with (go_at_call 24; refine (lent_any _ l _ HV.out hl1).mono ?_; rintro e w1 ⟨g1, c1, rfl, hO1, hb1⟩)
    have HB1 := Lib.hid hb1
    have HV1 := Lib.hid (HV.out.below' hb1)
    have HO1 := Lib.hid hO1
    clear hO1 hb1
    go_wp2_with (first
      | (go_at_call 33; refine (Text_bad tag _ _ HB.out ht2).mono ?_; rintro e w2 ⟨rfl, rfl⟩)
      | (go_at_call 56; refine (refText_bad tag _ _ HB.out ht2).mono ?_; rintro e w3 ⟨rfl, rfl⟩)
      | (go_at_call 28; refine (kept_any g1 c1 w.heap.size _ l _ HO1.out HV1.out hl5).mono ?_; rintro e w4 ⟨rfl, hb4⟩)
      | (go_at_call 23; refine (awake_any _).mono ?_; rintro e w9 ⟨rfl, hb9⟩))
    go_ret
    have z1 := HB1.out.size
    have z4 := hb4.size
    exact ⟨rfl, (HB1.out.trans (hb4.mono z1)).trans (hb9.mono (by omega))⟩
end Go.Proofs.Ytmjikebbknjahaa
