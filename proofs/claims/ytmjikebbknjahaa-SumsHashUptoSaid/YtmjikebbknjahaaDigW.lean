/-
  The walks of sums.Of, Digest.
-/
import Derived.Test.YtmjikebbknjahaaTextW
namespace Go.Proofs.Ytmjikebbknjahaa
open Go.RowKit Go.Lib Hw
set_option linter.unusedVariables false

def wideB (n : Int) : Bool := decide (1 ≤ n) && decide (n ≤ 32)
def cutL (n : Int) (l : List UInt8) : List UInt8 := bif wideB n then lay32 l n.toNat else zeros32
def cutE (n : Int) : Int := bif wideB n then 0 else 2
theorem wideB_yes {n : Int} (h : wideB n = true) : 1 ≤ n ∧ n ≤ 32 := by simpa [wideB] using h
theorem cutL_length (n : Int) (l : List UInt8) (hl : l.length = 32) : (cutL n l).length = 32 := by
  unfold cutL
  cases h : wideB n
  · rfl
  · have := wideB_yes h; exact lay32_length l _ hl (by omega)
theorem Cut_any (n : Int) (l : List UInt8) (w : World) (hl : l.length = 32) :
    Calls Try.prog 43 #[.int .i64 n, dv l] w fun e w' => e = .returned (.tuple #[dv (cutL n l), .int .i64 (cutE n)]) ∧ Below w.heap.size w w' := by
  cases h : wideB n
  · have e1 : cutL n l = zeros32 := by unfold cutL; rw [h]; rfl
    have e2 : cutE n = 2 := by unfold cutE; rw [h]; rfl
    rw [e1, e2]
    exact Cut_no n l w h
  · have e1 : cutL n l = lay32 l n.toNat := by unfold cutL; rw [h]; rfl
    have e2 : cutE n = 0 := by unfold cutE; rw [h]; rfl
    rw [e1, e2]
    have := wideB_yes h
    exact Cut_yes n l w this.1 this.2 hl

set_option maxHeartbeats 4000000 in
theorem Of_any (n : Int) (s : ByteArray) (w : World) (hs : s.size ≤ 1000000000000000000) :
    Calls Try.prog 38 #[.int .i64 n, .string s] w fun e w' => e = .returned (.tuple #[dv (cutL n (sha256 s.data.toList)), .int .i64 (cutE n)]) ∧ Below w.heap.size w w' := by
  have Hl := Lib.hid (cutL_length n _ (sha256_length s.data.toList))
  go_enter Try.func38, Try.ntmps38
  go_upto_region 1 with (refine wpList_allocD rfl rfl w.heap.size rfl ?_; intro w1 hd1 hb1 hz1)
  have HD1 := Lib.hid hd1
  have HB1 := Lib.hid hb1
  clear hd1 hb1
  go_wp2_with (first
    | (go_at_call 31; refine (Sum_any _ _ hs).mono ?_; rintro e w2 ⟨rfl, hb2⟩)
    | (go_at_call 43; refine (Cut_any _ _ _ (sha256_length _)).mono ?_; rintro e w3 ⟨rfl, hb3⟩; have HD3 : Hid (DB w3 w.heap.size zeros32) := DB.below (DB.below HD1.out hb2 (by omega)) hb3 (by have := hb2.size; omega))
    | (refine wpList_storeD rfl _ _ rfl w.heap.size rfl zeros32 (cutL n (sha256 s.data.toList)) rfl Hl.out rfl HD3.out ?_; intro w6 hd6 hb6 hk6 hz6))
  refine bodyPost_ret (v := .tuple #[dv (cutL n (sha256 s.data.toList)), .int .i64 (cutE n)]) ?_ rfl ⟨rfl, ((HB1.out.trans (hb2.mono (by omega))).trans (hb3.mono (by have := hb2.size; omega))).trans hb6⟩
  exact results_DE Try.results38 rfl rfl Hl.out hd6

def digL (n : Int) (tag : ByteArray) (ss : List ByteArray) : List UInt8 := bif wideB n then bif badTag tag then zeros32 else cutL n (sha256 (textL tag ss)) else zeros32
def digE (n : Int) (tag : ByteArray) : Int := bif wideB n then bif badTag tag then 20 else 0 else 2
theorem digL_length (n : Int) (tag : ByteArray) (ss : List ByteArray) : (digL n tag ss).length = 32 := by
  unfold digL
  cases wideB n
  · rfl
  · cases badTag tag
    · exact cutL_length _ _ (sha256_length _)
    · rfl

set_option maxHeartbeats 4000000 in
theorem Digest_any (n : Int) (tag : ByteArray) (v : Value) (ss : List ByteArray) (w : World) (hv : Hid (StrRow w v ss)) (hlen : tag.size + (ss.flatMap partL).length < 140737488355328) (hn : ss.length ≤ 9223372036854775807) :
    Calls Try.prog 36 #[.int .i64 n, .string tag, v] w fun e w' => e = .returned (.tuple #[dv (digL n tag ss), .int .i64 (digE n tag)]) ∧ Below w.heap.size w w' := by
  cases hw : wideB n
  · have e1 : digL n tag ss = zeros32 := by unfold digL; rw [hw]; rfl
    have e2 : digE n tag = 2 := by unfold digE; rw [hw]; rfl
    rw [e1, e2]
    have HW := Lib.hid hw
    clear hw e1 e2
    go_enter Try.func36, Try.ntmps36
    go_upto_region 1 with (refine wpList_allocD rfl rfl w.heap.size rfl ?_; intro w1 hd1 hb1 hz1)
    have HD1 := Lib.hid hd1
    have HB1 := Lib.hid hb1
    clear hd1 hb1
    go_upto_region 2 with (go_at_call 71; refine (wide_any _ _).mono ?_; rintro e w3 ⟨rfl, rfl⟩; rw [show (decide (1 ≤ n) && decide (n ≤ 32)) = false from HW.out])
    go_wp2_with (first
      | (refine wpList_buildD rfl rfl ?_)
      | (refine wpList_storeD rfl _ _ rfl w.heap.size rfl zeros32 zeros32 rfl rfl rfl HD1.out ?_; intro w6 hd6 hb6 hk6 hz6))
    refine bodyPost_ret (v := .tuple #[dv zeros32, .int .i64 2]) ?_ rfl ⟨rfl, HB1.out.trans hb6⟩
    exact results_DE Try.results36 rfl rfl rfl hd6
  · cases hb : badTag tag
    · have e1 : digL n tag ss = cutL n (sha256 (textL tag ss)) := by unfold digL; rw [hw, hb]; rfl
      have e2 : digE n tag = cutE n := by unfold digE cutE; rw [hw, hb]; rfl
      have e3 : cutE n = 0 := by unfold cutE; rw [hw]; rfl
      rw [e1, e2]
      have HW := Lib.hid hw
      have HB := Lib.hid hb
      have Hl := Lib.hid (cutL_length n _ (sha256_length (textL tag ss)))
      have hts : (ByteArray.mk (textL tag ss).toArray).size ≤ 1000000000000000000 := by
        have h1 : (ByteArray.mk (textL tag ss).toArray).size = (textL tag ss).length := by simp [ByteArray.size]
        rw [h1, textL, List.length_cons, List.length_append, data_len]
        omega
      clear hw hb e1 e2 e3
      go_enter Try.func36, Try.ntmps36
      go_upto_region 1 with (refine wpList_allocD rfl rfl w.heap.size rfl ?_; intro w1 hd1 hb1 hz1)
      have HD1 := Lib.hid hd1
      have HB1 := Lib.hid hb1
      have HV1 : Hid (StrRow w1 v ss) := hv.out.below' hb1
      clear hd1 hb1
      go_wp2_with (first
        | (go_at_call 71; refine (wide_any _ _).mono ?_; rintro e w3 ⟨rfl, rfl⟩; rw [show (decide (1 ≤ n) && decide (n ≤ 32)) = true from HW.out])
        | (go_at_call 33; refine (Text_any _ _ _ _ HB.out HV1 hlen hn).mono ?_; rintro e w4 ⟨rfl, hb4⟩)
        | (go_at_call 38; refine (Of_any _ _ _ hts).mono ?_; rintro e w5 ⟨rfl, hb5⟩; have HD5 : Hid (DB w5 w.heap.size zeros32) := DB.below (DB.below HD1.out hb4 (by omega)) hb5 (by have := hb4.size; omega))
        | (refine wpList_storeD rfl _ _ rfl w.heap.size rfl zeros32 (cutL n (sha256 (textL tag ss))) rfl Hl.out rfl HD5.out ?_; intro w6 hd6 hb6 hk6 hz6))
      refine bodyPost_ret (v := .tuple #[dv (cutL n (sha256 (textL tag ss))), .int .i64 (cutE n)]) ?_ rfl ⟨rfl, ((HB1.out.trans (hb4.mono (by omega))).trans (hb5.mono (by have := hb4.size; omega))).trans hb6⟩
      exact results_DE Try.results36 rfl rfl Hl.out hd6
    · have e1 : digL n tag ss = zeros32 := by unfold digL; rw [hw, hb]; rfl
      have e2 : digE n tag = 20 := by unfold digE; rw [hw, hb]; rfl
      rw [e1, e2]
      have HW := Lib.hid hw
      have HB := Lib.hid hb
      have hts : tag.size ≤ 9223372036854775807 := by omega
      clear hw hb e1 e2
      go_enter Try.func36, Try.ntmps36
      go_upto_region 1 with (refine wpList_allocD rfl rfl w.heap.size rfl ?_; intro w1 hd1 hb1 hz1)
      have HD1 := Lib.hid hd1
      have HB1 := Lib.hid hb1
      clear hd1 hb1
      go_wp2_with (first
        | (go_at_call 71; refine (wide_any _ _).mono ?_; rintro e w3 ⟨rfl, rfl⟩; rw [show (decide (1 ≤ n) && decide (n ≤ 32)) = true from HW.out])
        | (go_at_call 33; refine (Text_bad _ _ _ HB.out hts).mono ?_; rintro e w4 ⟨rfl, rfl⟩)
        | (refine wpList_buildD rfl rfl ?_)
        | (refine wpList_storeD rfl _ _ rfl w.heap.size rfl zeros32 zeros32 rfl rfl rfl HD1.out ?_; intro w6 hd6 hb6 hk6 hz6))
      refine bodyPost_ret (v := .tuple #[dv zeros32, .int .i64 20]) ?_ rfl ⟨rfl, HB1.out.trans hb6⟩
      exact results_DE Try.results36 rfl rfl rfl hd6
end Go.Proofs.Ytmjikebbknjahaa
