/-
  The walk of the law SumsTurned.
-/
import Derived.Test.YtmjikebbknjahaaTurnP
import Derived.Test.YtmjikebbknjahaaRowB
import Derived.Test.YtmjikebbknjahaaSumsL1
import Derived.Test.YtmjikebbknjahaaFrameB
import Derived.Deep.CutRange
import Derived.StillTailTactics
import Derived.Deep.DeepCutAuto
namespace Go.Proofs.Ytmjikebbknjahaa
open Go.RowKit Go.Lib Hw
set_option linter.unusedVariables false

theorem crc1_of (l : List UInt8) : crc1 l = crcOf l := by
  have e : (~~~ (0 : BitVec 32)) = BitVec.allOnes 32 := by decide
  unfold crc1
  rw [crcOf, crcMore, e]
theorem toU_inj {x y : BitVec 32} (h : toU x = toU y) : x = y := by
  apply BitVec.eq_of_toNat_eq
  have h1 : (x.toNat : Int) = (y.toNat : Int) := h
  omega

set_option maxHeartbeats 4000000 in
theorem SumsTurned_walk (v0 v1 v2 : Value) (w : World) (h0 : IsStrR v0) (h1 : IsI64 v1) (h2 : IsU32 v2) :
    Calls Try.prog 6 #[v0, v1, v2] w fun e w' => e = .returned (.bool true) ∧ Below w.heap.size w w' := by
  obtain ⟨S, rfl, hs⟩ := h0
  obtain ⟨t, rfl, ht⟩ := h1
  obtain ⟨m0, rfl, hm⟩ := h2
  obtain ⟨M, rfl⟩ : ∃ M : Nat, m0 = (M : Int) := ⟨m0.toNat, by omega⟩
  by_cases hbad : S.size < 4 ∨ M = 0
  · have key : (decide ((S.size : Int) < 4) = true) ∨ (decide ((S.size : Int) < 4) = false ∧ ((M : Int) == 0) = true) := by
      by_cases h4 : S.size < 4
      · exact .inl (by simp; omega)
      · exact .inr ⟨by simp; omega, by simp; omega⟩
    clear hbad
    rcases key with k1 | ⟨k1, k2⟩ <;>
    · go_enter Try.func6, Try.ntmps6
      go_wp2_with (go_at_call 23; refine (awake_any _).mono ?_; rintro e w4 ⟨rfl, hb4⟩)
      go_ret
      exact ⟨rfl, hb4⟩
  · have hS4 : 4 ≤ S.size := by omega
    have hM0 : M ≠ 0 := by omega
    have d1 : decide ((S.size : Int) < 4) = false := by simp; omega
    have dm : ((M : Int) == 0) = false := by rw [beq_eq_false_iff_ne]; omega
    have d2 : ((S.size : Int) - 3 == 0) = false := by rw [beq_eq_false_iff_ne]; omega
    have d3 : ((S.size : Int) - 3 = 0) = False := by simp; omega
    have d4 : IntKind.i64.wrap ((S.size : Int) - 3) = (S.size : Int) - 3 := IntWalk.i64_in _ (by omega)
    obtain ⟨z, hz⟩ : ∃ z, t.tmod ((S.size : Int) - 3) = z := ⟨_, rfl⟩
    have hzb : -((S.size : Int) - 3) < z ∧ z < (S.size : Int) - 3 := by
      rw [← hz]
      have h1 := Int.tmod_lt_of_pos t (b := (S.size : Int) - 3) (by omega)
      have h2 := Int.lt_tmod_of_pos t (b := (S.size : Int) - 3) (by omega)
      omega
    clear hbad
    go_enter Try.func6, Try.ntmps6
    go_upto_if 24 with fail
    go_cut [7] (fun v wx => Hid (∃ i : Nat, v = .int .i64 (i : Int) ∧ Hid (i + 3 < S.size) ∧ wx = w))
    case first =>
      by_cases hneg : z < 0
      · have d5 : decide (z < 0) = true := by simpa using hneg
        have d6 : IntKind.i64.wrap (IntKind.i64.wrap (z + (S.size : Int)) - 3) = z + (S.size : Int) - 3 := by rw [IntWalk.i64_in (z + (S.size : Int)) (by omega), IntWalk.i64_in _ (by omega)]
        obtain ⟨i, hi⟩ : ∃ i : Nat, z + (S.size : Int) - 3 = (i : Int) := ⟨(z + (S.size : Int) - 3).toNat, by omega⟩
        have hi3 : i + 3 < S.size := by omega
        go_wp2_with fail
        go_meet
        exact Lib.hid ⟨i, rfl, hi3, rfl⟩
      · have d5 : decide (z < 0) = false := by simpa using hneg
        obtain ⟨i, rfl⟩ : ∃ i : Nat, z = (i : Int) := ⟨z.toNat, by omega⟩
        go_wp2_with fail
        go_meet
        exact Lib.hid ⟨i, rfl, by show _ < _; omega, rfl⟩
    case rest =>
    obtain ⟨i, rfl, Hi, rfl⟩ := hcut.out
    clear d2 d3 d4 hz hzb d1 dm
    have hcv := conv_str S wc
    go_wp2_with fail
    obtain ⟨W2, hW2⟩ : ∃ W2, bytesWorld wc 5 S = W2 := ⟨_, rfl⟩
    have hbc := Below.conv S wc wc.heap.size (Nat.le_refl _)
    have hrc := RowB.conv S wc
    rw [hW2] at hbc hrc
    obtain ⟨p, hp⟩ : ∃ p, wc.heap.size = p := ⟨_, rfl⟩
    obtain ⟨cap, hcap⟩ : ∃ cap, grownCap wc S.size 0 5 = cap := ⟨_, rfl⟩
    have B2 : Hid (Below wc.heap.size wc W2) := hbc
    have R2 : Hid (RowB W2 p S.data.toList) := by rw [← hp]; exact hrc
    have Hp := Lib.hid hp
    rw [hW2]
    rw [hp, hcap]
    clear hp hcap hbc hrc hcv hW2
    go_loopw [9] (fun kk wr => ∃ (q : Nat), q ≤ 4 ∧ Hid (RowB wr p (turnedL M i q S.data.toList)) ∧ Hid (Below wc.heap.size wc wr) ∧ kk = .int .i64 (q : Int)) (fun kk _ => 4 - (intOf kk).toNat)
    case atStart => exact ⟨0, by omega, R2, B2, rfl⟩
    case round =>
      clear R2 B2
      obtain ⟨q, hq, RL, HB, rfl⟩ := hrel
      have hi3 := Hi.out
      have hl : (turnedL M i q S.data.toList).length = S.size := by rw [turnedL_length, data_len]
      by_cases hlt : q < 4
      · have hjl : i + q < (turnedL M i q S.data.toList).length := by omega
        obtain ⟨b0, hb0⟩ : ∃ b0 : UInt8, (turnedL M i q S.data.toList)[i + q] = b0 := ⟨_, rfl⟩
        have e0 : wr.cell? ⟨p, i + q, none⟩ = some (.int .u8 (b0.toNat : Int)) := by rw [RL.out.cell _ hjl, hb0]; rfl
        have e1 : wr.frozen? ⟨p, i + q, none⟩ = false := RL.out.free _ hjl
        have hnext : Hid (turnedL M i (q + 1) S.data.toList = (turnedL M i q S.data.toList).set (i + q) (b0 ^^^ maskB M q)) := by
          show _ = _
          rw [turnedL, List.getD_eq_getElem?_getD, List.getElem?_eq_getElem hjl, hb0]; rfl
        have j2 : (i : Int) + (q : Int) < (S.size : Int) := by omega
        have j3 : 0 ≤ (i : Int) + (q : Int) := by omega
        have j4 : ((i : Int) + (q : Int)).toNat = i + q := by omega
        have w1 : IntKind.i64.wrap ((i : Int) + (q : Int)) = (i : Int) + (q : Int) := IntWalk.i64_in _ (by omega)
        have w2 : IntKind.i64.wrap (8 * (q : Int)) = 8 * (q : Int) := IntWalk.i64_in _ (by omega)
        have HL := Lib.hid hl
        clear hb0 hl hjl
        go_wp2_with fail
        have hx2 : bits .xor .u8 (b0.toNat : Int) ((M : Int) / 2 ^ (8 * q) % 256) = ((b0 ^^^ maskB M q).toNat : Int) := by
          rw [byte_of (M : Int) (by omega) q, Int.toNat_natCast]; exact bits_xor_u8 _ _
        rw [hx2]
        refine ⟨⟨q + 1, by omega, ?_, HB.out.setCell (by rw [Hp.out]; exact Nat.le_refl _) _, by go_num⟩, by simp [intOf]; omega⟩
        have h1 := RL.out.set (i + q) (by rw [HL.out]; omega) (b0 ^^^ maskB M q)
        rw [← hnext.out] at h1
        exact h1
      · obtain rfl : q = 4 := by omega
        have hcv := conv_row RL.out cap
        rw [hl] at hcv
        obtain ⟨S2, hS2⟩ : ∃ S2, (⟨(turnedL M i 4 S.data.toList).toArray⟩ : ByteArray) = S2 := ⟨_, rfl⟩
        have hz2 : S2.size ≤ 9223372036854775807 := by
          have : S2.size = (turnedL M i 4 S.data.toList).length := by rw [← hS2]; simp [ByteArray.size]
          omega
        rw [hS2] at hcv
        have hne : (toU (crc1 S2.data.toList) != toU (crc1 S.data.toList)) = true := by
          rw [bne_iff_ne]
          intro h
          have h2 := toU_inj h
          rw [crc1_of, crc1_of, ← hS2] at h2
          exact turned_crc M i S.data.toList (by rw [data_len]; exact hi3) (by omega) hM0 h2
        have hS9 : S.size ≤ 9223372036854775807 := by omega
        clear hS2 hl RL
        go_upto_region 11 with fail
        set_option maxRecDepth 20000 in
        go_wp2_with (first
          | (go_at_call 25; (with_reducible refine (crc_one _ S2 _ _ (by simp) hz2).mono ?_); rintro e w' ⟨rfl, rfl⟩)
          | (go_at_call 25; (with_reducible refine (crc_one _ S _ _ (by simp) hS9).mono ?_); rintro e w' ⟨rfl, rfl⟩)
          | (go_at_call 23; refine (awake_any _).mono ?_; rintro e w6 ⟨rfl, hb6⟩))
        go_ret
        have hz := HB.out.size
        exact ⟨rfl, ((HB.out.alloc hz _).alloc (by simp only [World.size_alloc]; omega) _).trans (hb6.mono (by simp only [World.size_alloc]; omega))⟩
end Go.Proofs.Ytmjikebbknjahaa
