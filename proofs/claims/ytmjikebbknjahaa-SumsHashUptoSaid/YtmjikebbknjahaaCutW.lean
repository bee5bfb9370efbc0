/-
  The walks of the reference's may, Cut, Of; of Fits, both ways; of the laws SumsSum, SumsOf.
-/
import Derived.Test.YtmjikebbknjahaaRefShaC
import Derived.Test.YtmjikebbknjahaaFrameB
namespace Go.Proofs.Ytmjikebbknjahaa
open Go.RowKit Go.Lib Hw
set_option linter.unusedVariables false

theorem may_any (n : Int) (w : World) : Calls Try.prog 72 #[.int .i64 n] w fun e w' => e = .returned (.bool (wideB n)) ∧ w = w' := by
  unfold wideB
  go_enter Try.func72, Try.ntmps72
  cases h1 : decide (1 ≤ n)
  · go_wp2
    go_ret
    exact ⟨rfl, rfl⟩
  · cases h2 : decide (n ≤ 32)
    · go_wp2
      go_ret
      exact ⟨rfl, rfl⟩
    · go_wp2
      go_ret
      exact ⟨rfl, rfl⟩
theorem wide_b (n : Int) (w : World) : Calls Try.prog 71 #[.int .i64 n] w fun e w' => e = .returned (.bool (wideB n)) ∧ w = w' := wide_any n w

def mid32 (l : List UInt8) (n i : Nat) : List UInt8 := l.take n ++ (List.replicate (i - n) 0 ++ l.drop i)
theorem mid32_start (l : List UInt8) (n : Nat) : mid32 l n n = l := by simp [mid32]
theorem mid32_end (l : List UInt8) (n : Nat) (hl : l.length = 32) : mid32 l n 32 = lay32 l n := by
  unfold mid32 lay32
  rw [List.drop_of_length_le (by omega), List.append_nil]
theorem mid32_length (l : List UInt8) (n i : Nat) (hl : l.length = 32) (hn : n ≤ i) (hi : i ≤ 32) : (mid32 l n i).length = 32 := by
  simp [mid32, hl]; omega
theorem mid32_succ (l : List UInt8) (n i : Nat) (hl : l.length = 32) (hn : n ≤ i) (hi : i < 32) : (mid32 l n i).set i 0 = mid32 l n (i + 1) := by
  unfold mid32
  have e1 : (l.take n).length = n := by rw [List.length_take]; omega
  have e2 : i + 1 - n = (i - n) + 1 := by omega
  rw [List.set_append_right _ _ (by omega), e1, List.set_append_right _ _ (by simp), List.length_replicate, Nat.sub_self, e2, List.replicate_succ', List.append_assoc]
  rw [List.drop_eq_getElem_cons (by omega : i < l.length)]
  rfl

set_option maxHeartbeats 4000000 in
theorem refCut_any (n : Int) (l : List UInt8) (w : World) (hl : l.length = 32) :
    Calls Try.prog 44 #[.int .i64 n, dv l] w fun e w' => e = .returned (.tuple #[dv (cutL n l), .int .i64 (cutE n)]) ∧ Below w.heap.size w w' := by
  cases hw : wideB n
  · have e1 : cutL n l = zeros32 := by unfold cutL; rw [hw]; rfl
    have e2 : cutE n = 2 := by unfold cutE; rw [hw]; rfl
    rw [e1, e2]
    have HW := Lib.hid hw
    clear hw e1 e2
    go_enter Try.func44, Try.ntmps44
    go_upto_region 1 with (first
      | (refine wpList_boxD rfl _ rfl l rfl w.heap.size rfl ?_; intro w1 hd1 hb1 hz1)
      | (refine wpList_allocD rfl rfl (w.heap.size + 1) hz1 ?_; intro w2 hd2 hb2 hz2))
    have HD := Lib.hid hd2
    have HB := Lib.hid (hb1.trans (hb2.mono (by omega)))
    clear hd1 hb1 hz1 hd2 hb2 hz2
    go_upto_region 2 with (go_at_call 72; refine (may_any _ _).mono ?_; rintro e w3 ⟨rfl, rfl⟩; rw [HW.out])
    go_wp2_with (first
      | (refine wpList_buildD rfl rfl ?_)
      | (refine wpList_storeD rfl _ _ rfl (w.heap.size + 1) rfl zeros32 zeros32 rfl rfl rfl HD.out ?_; intro w6 hd6 hb6 hk6 hz6))
    refine bodyPost_ret (v := .tuple #[dv zeros32, .int .i64 2]) ?_ rfl ⟨rfl, HB.out.trans (hb6.mono (by omega))⟩
    exact results_DE Try.results44 rfl rfl rfl hd6
  · have hb := wideB_yes hw
    have e1 : cutL n l = lay32 l n.toNat := by unfold cutL; rw [hw]; rfl
    have e2 : cutE n = 0 := by unfold cutE; rw [hw]; rfl
    rw [e1, e2]
    have HW := Lib.hid hw
    clear hw e1 e2
    obtain ⟨m, rfl⟩ : ∃ m : Nat, n = m := ⟨n.toNat, by omega⟩
    have hm : m ≤ 32 := by omega
    have hm1 : 1 ≤ m := by omega
    rw [Int.toNat_natCast]
    clear hb
    go_enter Try.func44, Try.ntmps44
    go_upto_region 1 with (first
      | (refine wpList_boxD rfl _ rfl l rfl w.heap.size rfl ?_; intro w1 hd1 hb1 hz1)
      | (refine wpList_allocD rfl rfl (w.heap.size + 1) hz1 ?_; intro w2 hd2 hb2 hz2))
    have HD1 : Hid (DB w2 w.heap.size (mid32 l m m)) := by rw [mid32_start]; exact hd1.below hb2 (by omega)
    have HD2 := Lib.hid hd2
    have HB := Lib.hid (hb1.trans (hb2.mono (by omega)))
    clear hd1 hb1 hz1 hd2 hb2 hz2
    go_wp2_with (go_at_call 72; refine (may_any _ _).mono ?_; rintro e w3 ⟨rfl, rfl⟩; rw [HW.out])
    go_loopw [6] (fun i wr => ∃ (k : Nat), m ≤ k ∧ k ≤ 32 ∧ Hid (DB wr w.heap.size (mid32 l m k)) ∧ Hid (DB wr (w.heap.size + 1) zeros32) ∧ Hid (Below w.heap.size w wr) ∧ i = .int .i64 (k : Int)) (fun i _ => 32 - (intOf i).toNat)
    case atStart => exact ⟨m, Nat.le_refl _, hm, HD1, HD2, HB, rfl⟩
    case round =>
      clear HD1 HD2 HB
      obtain ⟨k, hk1, hk2, HD1, HD2, HB, rfl⟩ := hrel
      by_cases hlt : k < 32
      · obtain ⟨old, c1⟩ : ∃ old : Value, wr.cell? ⟨w.heap.size, k, none⟩ = some old := ⟨_, HD1.out.cell k (by rw [mid32_length l m k hl hk1 hk2]; exact hlt)⟩
        have f1 := HD1.out.free k
        go_wp2_with fail
        refine ⟨⟨k + 1, by omega, by omega, ?_, heap_setOther HD2.out (by show w.heap.size + 1 ≠ w.heap.size; omega) _, HB.out.setCell (by exact Nat.le_refl _) _, by go_num⟩, by simp [intOf]; omega⟩
        have h1 := HD1.out.set k 0
        rw [mid32_succ l m k hl hk1 hlt] at h1
        exact h1
      · obtain rfl : k = 32 := by omega
        have HD3 : Hid (DB wr w.heap.size (lay32 l m)) := by have := HD1.out; rw [mid32_end l m hl] at this; exact this
        go_wp2_with (first
          | (refine wpList_loadD rfl _ rfl w.heap.size rfl (lay32 l m) (lay32_length l m hl hm) HD3.out ?_)
          | (refine wpList_storeD rfl _ _ rfl (w.heap.size + 1) rfl zeros32 (lay32 l m) rfl (lay32_length l m hl hm) rfl HD2.out ?_; intro w6 hd6 hb6 hk6 hz6))
        refine bodyPost_ret (v := .tuple #[dv (lay32 l m), .int .i64 0]) ?_ rfl ⟨rfl, HB.out.trans (hb6.mono (by omega))⟩
        exact results_DE Try.results44 rfl rfl (lay32_length l m hl hm) hd6

set_option maxHeartbeats 4000000 in
theorem refOf_any (n : Int) (s : ByteArray) (w : World) (hs : s.size ≤ 140737488355200) :
    Calls Try.prog 39 #[.int .i64 n, .string s] w fun e w' => e = .returned (.tuple #[dv (cutL n (sha256 s.data.toList)), .int .i64 (cutE n)]) ∧ Below w.heap.size w w' := by
  have Hl := Lib.hid (cutL_length n _ (sha256_length s.data.toList))
  go_enter Try.func39, Try.ntmps39
  go_upto_region 1 with (refine wpList_allocD rfl rfl w.heap.size rfl ?_; intro w1 hd1 hb1 hz1)
  have HD1 := Lib.hid hd1
  have HB1 := Lib.hid hb1
  clear hd1 hb1
  go_wp2_with (first
    | (go_at_call 32; refine (refSum_any _ _ hs).mono ?_; rintro e w2 ⟨rfl, hb2⟩)
    | (go_at_call 44; refine (refCut_any _ _ _ (sha256_length _)).mono ?_; rintro e w3 ⟨rfl, hb3⟩; have HD3 : Hid (DB w3 w.heap.size zeros32) := DB.below (DB.below HD1.out hb2 (by omega)) hb3 (by have := hb2.size; omega))
    | (refine wpList_storeD rfl _ _ rfl w.heap.size rfl zeros32 (cutL n (sha256 s.data.toList)) rfl Hl.out rfl HD3.out ?_; intro w6 hd6 hb6 hk6 hz6))
  refine bodyPost_ret (v := .tuple #[dv (cutL n (sha256 s.data.toList)), .int .i64 (cutE n)]) ?_ rfl ⟨rfl, ((HB1.out.trans (hb2.mono (by omega))).trans (hb3.mono (by have := hb2.size; omega))).trans hb6⟩
  exact results_DE Try.results39 rfl rfl Hl.out hd6

theorem eqD_same (l : List UInt8) (hl : l.length = 32) : ∀ w, (binOp .eql 39 (dv l) (dv l)).run Try.prog w = .ok (.bool true) w := fun w => by
  rw [eqD l l hl hl, show (l == l) = true from beq_self_eq_true l]

set_option maxHeartbeats 2000000 in
theorem SumsSum_walk (v0 : Value) (w : World) (h0 : IsStrR v0) :
    Calls Try.prog 7 #[v0] w fun e w' => e = .returned (.bool true) ∧ Below w.heap.size w w' := by
  obtain ⟨s, rfl, hs⟩ := h0
  have h1 : s.size ≤ 140737488355200 := by omega
  have h2 : s.size ≤ 1000000000000000000 := by omega
  have Hl := Lib.hid (sha256_length s.data.toList)
  obtain ⟨T, hT⟩ : ∃ T, sha256 s.data.toList = T := ⟨_, rfl⟩
  rw [hT] at Hl
  have HT := Lib.hid hT
  have heg := eqGuardD T T
  have heq := eqD_same T Hl.out
  clear hT
  go_enter Try.func7, Try.ntmps7
  go_wp2_with (first
    | (go_at_call 31; refine (Sum_any _ _ h2).mono ?_; rintro e w2 ⟨rfl, hb2⟩; rw [HT.out])
    | (go_at_call 32; refine (refSum_any _ _ h1).mono ?_; rintro e w3 ⟨rfl, hb3⟩; rw [HT.out])
    | (go_at_call 23; refine (awake_any _).mono ?_; rintro e w4 ⟨rfl, hb4⟩))
  go_ret
  exact ⟨rfl, (hb2.trans (hb3.mono hb2.size)).trans (hb4.mono (Nat.le_trans hb2.size hb3.size))⟩

set_option maxHeartbeats 4000000 in
theorem SumsOf_walk (v0 v1 : Value) (w : World) (h0 : IsI64 v0) (h1 : IsStrR v1) :
    Calls Try.prog 10 #[v0, v1] w fun e w' => e = .returned (.bool true) ∧ Below w.heap.size w w' := by
  obtain ⟨n, rfl, hn⟩ := h0
  obtain ⟨s, rfl, hs⟩ := h1
  have h1 : s.size ≤ 140737488355200 := by omega
  have h2 : s.size ≤ 1000000000000000000 := by omega
  have Hl := Lib.hid (cutL_length n _ (sha256_length s.data.toList))
  obtain ⟨T, hT⟩ : ∃ T, cutL n (sha256 s.data.toList) = T := ⟨_, rfl⟩
  rw [hT] at Hl
  have HT := Lib.hid hT
  have heg := eqGuardD T T
  have heq := eqD_same T Hl.out
  clear hT
  go_enter Try.func10, Try.ntmps10
  go_upto_region 2 with (first
    | (go_at_call 38; refine (Of_any _ _ _ h2).mono ?_; rintro e w2 ⟨rfl, hb2⟩; rw [HT.out])
    | (refine wpList_allocD rfl rfl w2.heap.size rfl ?_; intro w3 hd3 hb3 hz3)
    | (refine wpList_storeD rfl _ _ rfl w2.heap.size rfl zeros32 T rfl Hl.out rfl hd3 ?_; intro w4 hd4 hb4 hk4 hz4))
  have HD4 := Lib.hid hd4
  have HB4 := Lib.hid ((hb2.trans (hb3.mono hb2.size)).trans (hb4.mono hb2.size))
  have hzw := hb2.size
  clear hd3 hb3 hd4 hb4 hk4 hb2
  go_upto_region 3 with (first
    | (go_at_call 39; refine (refOf_any _ _ _ h1).mono ?_; rintro e w5 ⟨rfl, hb5⟩; rw [HT.out])
    | (refine wpList_allocD rfl rfl w5.heap.size rfl ?_; intro w6 hd6 hb6 hz6)
    | (refine wpList_storeD rfl _ _ rfl w5.heap.size rfl zeros32 T rfl Hl.out rfl hd6 ?_; intro w7 hd7 hb7 hk7 hz7))
  have hz5 := hb5.size
  have HD7 := Lib.hid hd7
  have HD8 := Lib.hid (((HD4.out.below hb5 (by omega)).below hb6 (by omega)).below hb7 (by omega))
  have HB7 := Lib.hid (((HB4.out.trans (hb5.mono (by omega))).trans (hb6.mono (by omega))).trans (hb7.mono (by omega)))
  clear hd6 hb6 hd7 hb7 hk7 hb5 HB4 HD4
  go_wp2_with (first
    | (refine wpList_loadD rfl _ rfl w2.heap.size rfl T Hl.out HD8.out ?_; (try simp only [Act.put, List.setIfInBounds_toArray, List.set_cons_zero, List.set_cons_succ]))
    | (refine wpList_loadD rfl _ rfl w5.heap.size rfl T Hl.out HD7.out ?_; (try simp only [Act.put, List.setIfInBounds_toArray, List.set_cons_zero, List.set_cons_succ]))
    | (go_at_call 23; refine (awake_any _).mono ?_; rintro e w9 ⟨rfl, hb9⟩))
  go_ret
  exact ⟨rfl, HB7.out.trans (hb9.mono HB7.out.size)⟩
end Go.Proofs.Ytmjikebbknjahaa
