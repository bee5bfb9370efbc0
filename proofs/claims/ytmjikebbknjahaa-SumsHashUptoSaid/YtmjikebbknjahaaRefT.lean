/-
  The walks of the reference's Text and Digest; of the law's same.
-/
import Derived.Test.YtmjikebbknjahaaOwnT
import Derived.Test.YtmjikebbknjahaaCutW
import Derived.Test.YtmjikebbknjahaaFrameT
namespace Go.Proofs.Ytmjikebbknjahaa
open Go.RowKit Go.Lib Hw
set_option linter.unusedVariables false

theorem four_bytes' (n : Nat) : ∃ b0 b1 b2 b3 : UInt8, be 4 n = [b0, b1, b2, b3] ∧ (n : Int) / 16777216 % 256 = (b0.toNat : Int) ∧ (n : Int) / 65536 % 256 = (b1.toNat : Int) ∧ (n : Int) / 256 % 256 = (b2.toNat : Int) ∧ (n : Int) % 256 = (b3.toNat : Int) := by
  refine ⟨_, _, _, _, rfl, ?_, ?_, ?_, ?_⟩ <;> simp only [UInt8.toNat_ofNat'] <;> omega

set_option maxHeartbeats 2000000 in
theorem refText_bad (tag : ByteArray) (v : Value) (w : World) (ht : badTag tag = true) (hs : tag.size ≤ 9223372036854775807) :
    Calls Try.prog 56 #[.string tag, v] w fun e w' => e = .returned (.tuple #[.string ⟨#[]⟩, .int .i64 20]) ∧ w = w' := by
  by_cases h0 : tag.size = 0
  · have h1 : decide ((tag.size : Int) < 1) = true := by simp; omega
    clear h0 ht
    go_enter Try.func56, Try.ntmps56
    go_wp2_with fail
    exact bodyPost_ret (v := .tuple #[.string ⟨#[]⟩, .int .i64 20]) (by simp [results, Try.results56, go_sem]) rfl ⟨rfl, rfl⟩
  · have h1 : 64 < tag.size := by simp [badTag, h0] at ht; exact ht
    have h2 : decide ((tag.size : Int) < 1) = false := by simp; omega
    have h3 : decide ((64 : Int) < (tag.size : Int)) = true := by simp; omega
    clear h0 ht
    go_enter Try.func56, Try.ntmps56
    go_wp2_with fail
    exact bodyPost_ret (v := .tuple #[.string ⟨#[]⟩, .int .i64 20]) (by simp [results, Try.results56, go_sem]) rfl ⟨rfl, rfl⟩

set_option maxHeartbeats 4000000 in
theorem refText_any (tag : ByteArray) (v : Value) (ss : List ByteArray) (w : World) (ht : badTag tag = false) (hv : Hid (StrRow w v ss)) (hlen : tag.size + (ss.flatMap partL).length < 140737488355328) (hn : ss.length ≤ 9223372036854775807) :
    Calls Try.prog 56 #[.string tag, v] w fun e w' => e = .returned (.tuple #[.string ⟨(textL tag ss).toArray⟩, .int .i64 0]) ∧ Below w.heap.size w w' := by
  have h0 : ¬ tag.size = 0 := by intro h; simp [badTag, h] at ht
  have h1 : ¬ 64 < tag.size := by intro h; simp [badTag, h] at ht
  have h2 : decide ((tag.size : Int) < 1) = false := by simp; omega
  have h4 : decide ((64 : Int) < (tag.size : Int)) = false := by simp; omega
  have h3 : tag.size < 256 := by omega
  obtain ⟨ad, c, rfl, hcell⟩ := strRow_form hv.out
  have Hc := Lib.hid hcell
  obtain ⟨b, hb⟩ : ∃ b : UInt8, (tag.size : Int) = (b.toNat : Int) := ⟨UInt8.ofNat tag.size, by simp only [UInt8.toNat_ofNat']; omega⟩
  have HB := Lib.hid hb
  have Hb : Hid (UInt8.ofNat tag.size = b) := by
    apply UInt8.toNat_inj.1
    simp only [UInt8.toNat_ofNat']
    omega
  clear hcell h0 ht hv hb
  go_enter Try.func56, Try.ntmps56
  go_upto_region 5 with (at_builtin; refine wpList_appSt _ rfl _ _ rfl w.heap.size (.slice (some ⟨w.heap.size, 0, none⟩) 1 1) [b] rfl (by rw [HB.out]; exact OwnB.lit w [b] 1 rfl (by omega)) tag rfl (by simp only [List.length_singleton]; omega) (by simp) ?_; intro v1 w1 hv1 hb1)
  have HV1 := Lib.hid hv1
  have HB1 := Lib.hid (((Below.refl w.heap.size w).alloc (Nat.le_refl _) _).trans hb1)
  clear hv1 hb1
  go_wp2_with fail
  go_loopw [6, 7, 8] (fun v i nn wr => ∃ (k : Nat), k ≤ ss.length ∧ Hid (OwnB wr w.heap.size v ([b] ++ tag.data.toList ++ (ss.take k).flatMap partL)) ∧ Hid (Below w.heap.size w wr) ∧ i = .int .i64 (k : Int)) (fun _ i _ _ => ss.length - (intOf i).toNat)
  case atStart => exact ⟨0, by omega, by simpa using HV1, HB1, rfl⟩
  case round =>
    clear HV1 HB1
    obtain ⟨k, hk, HV, HBe, rfl⟩ := hrel
    by_cases hlt : k < ss.length
    · obtain ⟨bb, o, rfl, hcl⟩ := Hc.out (by omega)
      have hbw := World.block_lt_of_cell? _ _ (hcl k hlt)
      have hcell := cellB HBe.out hbw (hcl k hlt)
      have hpl := parts_le ss (k + 1)
      have hps := parts_succ ss k hlt
      obtain ⟨s, hs⟩ : ∃ s, ss[k] = s := ⟨_, rfl⟩
      rw [hs] at hps hcell
      rw [hps, List.length_append, partL_length] at hpl
      have Hps := Lib.hid hps
      clear hcl hs hps
      obtain ⟨b0, b1, b2, b3, hbe, e0, e1, e2, e3⟩ := four_bytes' s.size
      have Hbe := Lib.hid hbe
      clear hbe
      have hz := HBe.out.size
      obtain ⟨bs, hbs⟩ : ∃ bs, [b] ++ tag.data.toList ++ (ss.take k).flatMap partL = bs := ⟨_, rfl⟩
      have hbl : bs.length = 1 + tag.size + ((ss.take k).flatMap partL).length := by rw [← hbs, List.length_append, List.length_append, data_len]; rfl
      rw [hbs] at HV
      have Hbs := Lib.hid hbs
      have Hbl := Lib.hid hbl
      clear hbs hbl
      go_upto_region 9 with fail
      set_option maxRecDepth 100000 in
      go_upto_region 10 with (at_builtin; refine wpList_appN wr 5 [b0, b1, b2, b3] (by simp) rfl _ _ rfl w.heap.size u6 bs rfl HV.out _ rfl (by have := Hbl.out; simp only [List.length_cons, List.length_nil]; omega) hz ?_; intro v2 w2 hv2 hb2)
      have hl2 := Hbl.out
      have hbz := hb2.size
      have hc2 := cellB hb2 hbw hcell
      go_wp2_with (at_builtin; refine wpList_appSt _ rfl _ _ rfl w.heap.size v2 (bs ++ [b0, b1, b2, b3]) rfl hv2 s rfl (by rw [List.length_append]; simp only [List.length_cons, List.length_nil]; omega) (by omega) ?_; intro v3 w3 hv3 hb3)
      have hfin : OwnB w3 w.heap.size v3 ([b] ++ tag.data.toList ++ (ss.take (k + 1)).flatMap partL) := by
        rw [Hps.out, ← List.append_assoc, Hbs.out, partL, Hbe.out, ← List.append_assoc]; exact hv3
      exact ⟨⟨k + 1, by omega, hfin, (HBe.out.trans hb2).trans hb3, by go_num⟩, by simp [intOf]; omega⟩
    · obtain rfl : k = ss.length := by omega
      have hcv := conv_own HV.out
      have HL : Hid ([b] ++ tag.data.toList ++ (ss.take ss.length).flatMap partL = textL tag ss) := by
        show _ = _
        rw [List.take_length, textL, Hb.out, List.append_assoc]; rfl
      rw [HL.out] at hcv
      go_wp2_with fail
      exact bodyPost_ret (v := .tuple #[.string ⟨(textL tag ss).toArray⟩, .int .i64 0]) (by simp [results, Try.results56, go_sem]) rfl ⟨rfl, HBe.out⟩

set_option maxHeartbeats 4000000 in
theorem refDigest_any (n : Int) (tag : ByteArray) (v : Value) (ss : List ByteArray) (w : World) (hv : Hid (StrRow w v ss)) (hlen : tag.size + (ss.flatMap partL).length < 140737488350000) (hn : ss.length ≤ 9223372036854775807) :
    Calls Try.prog 37 #[.int .i64 n, .string tag, v] w fun e w' => e = .returned (.tuple #[dv (digL n tag ss), .int .i64 (digE n tag)]) ∧ Below w.heap.size w w' := by
  have hlen' : tag.size + (ss.flatMap partL).length < 140737488355328 := by omega
  cases hw : wideB n
  · have e1 : digL n tag ss = zeros32 := by unfold digL; rw [hw]; rfl
    have e2 : digE n tag = 2 := by unfold digE; rw [hw]; rfl
    rw [e1, e2]
    have HW := Lib.hid hw
    clear hw e1 e2
    go_enter Try.func37, Try.ntmps37
    go_upto_region 1 with (refine wpList_allocD rfl rfl w.heap.size rfl ?_; intro w1 hd1 hb1 hz1)
    have HD1 := Lib.hid hd1
    have HB1 := Lib.hid hb1
    clear hd1 hb1
    go_upto_region 2 with (go_at_call 72; refine (may_any _ _).mono ?_; rintro e w3 ⟨rfl, rfl⟩; rw [HW.out])
    go_wp2_with (first
      | (refine wpList_buildD rfl rfl ?_)
      | (refine wpList_storeD rfl _ _ rfl w.heap.size rfl zeros32 zeros32 rfl rfl rfl HD1.out ?_; intro w6 hd6 hb6 hk6 hz6))
    refine bodyPost_ret (v := .tuple #[dv zeros32, .int .i64 2]) ?_ rfl ⟨rfl, HB1.out.trans hb6⟩
    exact results_DE Try.results37 rfl rfl rfl hd6
  · cases hb : badTag tag
    · have e1 : digL n tag ss = cutL n (sha256 (textL tag ss)) := by unfold digL; rw [hw, hb]; rfl
      have e2 : digE n tag = cutE n := by unfold digE cutE; rw [hw, hb]; rfl
      rw [e1, e2]
      have HW := Lib.hid hw
      have HB := Lib.hid hb
      have Hl := Lib.hid (cutL_length n _ (sha256_length (textL tag ss)))
      have hts : (ByteArray.mk (textL tag ss).toArray).size ≤ 140737488355200 := by
        have h1 : (ByteArray.mk (textL tag ss).toArray).size = (textL tag ss).length := by simp [ByteArray.size]
        rw [h1, textL, List.length_cons, List.length_append, data_len]
        omega
      clear hw hb e1 e2
      go_enter Try.func37, Try.ntmps37
      go_upto_region 1 with (refine wpList_allocD rfl rfl w.heap.size rfl ?_; intro w1 hd1 hb1 hz1)
      have HD1 := Lib.hid hd1
      have HB1 := Lib.hid hb1
      have HV1 : Hid (StrRow w1 v ss) := hv.out.below' hb1
      clear hd1 hb1
      go_wp2_with (first
        | (go_at_call 72; refine (may_any _ _).mono ?_; rintro e w3 ⟨rfl, rfl⟩; rw [HW.out])
        | (go_at_call 56; refine (refText_any _ _ _ _ HB.out HV1 hlen' hn).mono ?_; rintro e w4 ⟨rfl, hb4⟩)
        | (go_at_call 39; refine (refOf_any _ _ _ hts).mono ?_; rintro e w5 ⟨rfl, hb5⟩; have HD5 : Hid (DB w5 w.heap.size zeros32) := DB.below (DB.below HD1.out hb4 (by omega)) hb5 (by have := hb4.size; omega))
        | (refine wpList_storeD rfl _ _ rfl w.heap.size rfl zeros32 (cutL n (sha256 (textL tag ss))) rfl Hl.out rfl HD5.out ?_; intro w6 hd6 hb6 hk6 hz6))
      refine bodyPost_ret (v := .tuple #[dv (cutL n (sha256 (textL tag ss))), .int .i64 (cutE n)]) ?_ rfl ⟨rfl, ((HB1.out.trans (hb4.mono (by omega))).trans (hb5.mono (by have := hb4.size; omega))).trans hb6⟩
      exact results_DE Try.results37 rfl rfl Hl.out hd6
    · have e1 : digL n tag ss = zeros32 := by unfold digL; rw [hw, hb]; rfl
      have e2 : digE n tag = 20 := by unfold digE; rw [hw, hb]; rfl
      rw [e1, e2]
      have HW := Lib.hid hw
      have HB := Lib.hid hb
      have hts : tag.size ≤ 9223372036854775807 := by omega
      clear hw hb e1 e2
      go_enter Try.func37, Try.ntmps37
      go_upto_region 1 with (refine wpList_allocD rfl rfl w.heap.size rfl ?_; intro w1 hd1 hb1 hz1)
      have HD1 := Lib.hid hd1
      have HB1 := Lib.hid hb1
      clear hd1 hb1
      go_wp2_with (first
        | (go_at_call 72; refine (may_any _ _).mono ?_; rintro e w3 ⟨rfl, rfl⟩; rw [HW.out])
        | (go_at_call 56; refine (refText_bad _ _ _ HB.out hts).mono ?_; rintro e w4 ⟨rfl, rfl⟩)
        | (refine wpList_buildD rfl rfl ?_)
        | (refine wpList_storeD rfl _ _ rfl w.heap.size rfl zeros32 zeros32 rfl rfl rfl HD1.out ?_; intro w6 hd6 hb6 hk6 hz6))
      refine bodyPost_ret (v := .tuple #[dv zeros32, .int .i64 20]) ?_ rfl ⟨rfl, HB1.out.trans hb6⟩
      exact results_DE Try.results37 rfl rfl rfl hd6
end Go.Proofs.Ytmjikebbknjahaa
