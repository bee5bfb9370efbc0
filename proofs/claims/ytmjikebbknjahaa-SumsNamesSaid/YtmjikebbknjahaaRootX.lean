/-
  The walk of root.
-/
import Derived.Test.YtmjikebbknjahaaRootW
namespace Go.Proofs.Ytmjikebbknjahaa
open Go.RowKit Go.Lib Hw
set_option linter.unusedVariables false

theorem rootN_lt (p pw : Nat) : ∀ j, rootN p pw j < 18446744073709551616
  | 0 => by simp [rootN]
  | j + 1 => by
    rw [rootN]
    cases aboveL (powL ((rootN p pw j + 2 ^ (36 - j)) % 18446744073709551616) pw) p pw
    · rw [cond_false]; exact Nat.mod_lt _ (by decide)
    · rw [cond_true]; exact rootN_lt p pw j
theorem wideL_length (a b : List Nat) : (wideL a b).length = a.length + b.length := wideN_length a b _

set_option maxHeartbeats 4000000 in
theorem root_any (p pw : Nat) (w : World) (hpw : pw = 2 ∨ pw = 3) :
    Calls Try.prog 80 #[.int .u64 (p : Int), .int .i64 (pw : Int)] w fun e w' => e = .returned (.int .u32 (rootL p pw : Int)) ∧ Below w.heap.size w w' := by
  go_enter Try.func80, Try.ntmps80
  go_wp2_with fail
  go_loopw [5, 6] (fun x i wr => ∃ (j : Nat), j ≤ 37 ∧ Hid (Below w.heap.size w wr) ∧ x = .int .u64 (rootN p pw j : Int) ∧ i = .int .i64 (36 - (j : Int))) (fun _ i _ => (intOf i + 1).toNat)
  case atStart => exact ⟨0, by omega, Below.refl _ _, rfl, rfl⟩
  case round =>
    obtain ⟨j, hj, HB, rfl, rfl⟩ := hrel
    have hz := HB.out.size
    by_cases hlt : j < 37
    · obtain ⟨i, hi⟩ : ∃ i : Nat, 36 - j = i := ⟨_, rfl⟩
      have hi2 : (36 : Int) - (j : Int) = (i : Int) := by omega
      have hi3 : i ≤ 36 := by omega
      have hstep : rootN p pw (j + 1) = bif aboveL (powL ((rootN p pw j + 2 ^ i) % 18446744073709551616) pw) p pw then rootN p pw j else (rootN p pw j + 2 ^ i) % 18446744073709551616 := by rw [rootN, hi]
      obtain ⟨x, hx⟩ : ∃ x, rootN p pw j = x := ⟨_, rfl⟩
      obtain ⟨t, ht⟩ : ∃ t, (x + 2 ^ i) % 18446744073709551616 = t := ⟨_, rfl⟩
      have htl : t < 18446744073709551616 := by rw [← ht]; exact Nat.mod_lt _ (by decide)
      rw [hx, ht] at hstep
      rw [hx, hi2]
      have Hstep := Lib.hid hstep
      have d0 : (0 : Int) ≤ (i : Int) := by omega
      have d1 : decide ((0 : Int) ≤ (i : Int)) = true := decide_eq_true d0
      have htw : IntKind.u64.wrap ((x : Int) + IntKind.u64.wrap (2 ^ i)) = (t : Int) := by
        have e : ((2 : Int) ^ i) = ((2 ^ i : Nat) : Int) := by simp
        rw [IntKind.wrap_u64, IntKind.wrap_u64, e, ← ht]
        generalize 2 ^ i = Q
        omega
      have htw2 : (x : Int) + IntKind.u64.wrap (2 ^ i) = (x : Int) + IntKind.u64.wrap (2 ^ i) := rfl
      have hl2 : (partsL t).length ≤ 1000 := by simp [partsL]
      have hl4 : (wideL (partsL t) (partsL t)).length ≤ 1000 := by rw [wideL_length]; simp [partsL]
      have hl6 : (powL t pw).length ≤ 1000 := by
        unfold powL
        cases (pw == 3)
        · rw [cond_false]; exact hl4
        · rw [cond_true, wideL_length, wideL_length]; simp [partsL]
      obtain ⟨A, hA⟩ : ∃ A, aboveL (powL t pw) p pw = A := ⟨_, rfl⟩
      have HA := Lib.hid hA
      rw [hA] at Hstep
      have hp2 : pw = 2 → powL t pw = wideL (partsL t) (partsL t) := fun h => by rw [h]; rfl
      have hp3 : pw = 3 → powL t pw = wideL (wideL (partsL t) (partsL t)) (partsL t) := fun h => by rw [h]; rfl
      have HP2 := Lib.hid hp2
      have HP3 := Lib.hid hp3
      clear hstep hx hi htw2 ht hA hp2 hp3
      go_upto_region 7 with (first
        | (go_at_call 87; (with_reducible refine (parts_any t wr htl).mono ?_); rintro e w1 ⟨v1, rfl, hr1, hb1⟩)
        | (go_at_call 87; (with_reducible refine (parts_any t w1 htl).mono ?_); rintro e w2 ⟨v2, rfl, hr2, hb2⟩)
        | (go_at_call 86; refine (wide2_any v1 v2 _ _ w2 (hr1.below hb2) hr2 hl2 hl2).mono ?_; rintro e w3 ⟨v3, rfl, hr3, hb3⟩))
      have z1 := hb1.size
      have z2 := hb2.size
      have R3 := Lib.hid hr3
      have B3 : Hid (Below w.heap.size w w3) := ((HB.out.trans (hb1.mono hz)).trans (hb2.mono (by omega))).trans (hb3.mono (by omega))
      have z3 := B3.out.size
      clear hr1 hr2 hr3 hb1 hb2 hb3 HB z1 z2
      rcases hpw with hpe | hpe
      · have d3 : ((pw : Int) == 3) = false := by rw [beq_eq_false_iff_ne]; omega
        have R4 : Hid (NRw w3 v3 (powL t pw)) := by show NRw _ _ _; rw [HP2.out hpe]; exact R3.out
        have hpl : pw ≤ 1000 := by omega
        clear hpe
        cases A <;>
        · go_wp2_with (go_at_call 88; refine (above_any v3 (powL t pw) p pw w3 R4.out hl6 hpl).mono ?_; rintro e w4 ⟨rfl, rfl⟩; rw [HA.out])
          go_roundw
          case rel => exact ⟨j + 1, by omega, B3, by rw [Hstep.out]; rfl, by rw [show (36 : Int) - ((j + 1 : Nat) : Int) = (i : Int) - 1 by omega]⟩
          case measure => first | (simp [intOf]; done) | (simp [intOf]; omega)
      · have d3 : ((pw : Int) == 3) = true := by rw [hpe]; rfl
        have hpl : pw ≤ 1000 := by omega
        have Hpe := Lib.hid hpe
        clear hpe
        go_upto_region 9 with (first
          | (go_at_call 87; (with_reducible refine (parts_any t w3 htl).mono ?_); rintro e w4 ⟨v4, rfl, hr4, hb4⟩)
          | (go_at_call 86; refine (wide2_any v3 v4 _ _ w4 (R3.out.below hb4) hr4 hl4 hl2).mono ?_; rintro e w5 ⟨v5, rfl, hr5, hb5⟩))
        have z4 := hb4.size
        have R5 : Hid (NRw w5 v5 (powL t pw)) := by show NRw _ _ _; rw [HP3.out Hpe.out]; exact hr5
        have B5 : Hid (Below w.heap.size w w5) := (B3.out.trans (hb4.mono z3)).trans (hb5.mono (by omega))
        clear hr4 hr5 hb4 hb5 z4 B3 R3
        cases A <;>
        · go_wp2_with (go_at_call 88; refine (above_any v5 (powL t pw) p pw w5 R5.out hl6 hpl).mono ?_; rintro e w6 ⟨rfl, rfl⟩; rw [HA.out])
          go_roundw
          case rel => exact ⟨j + 1, by omega, B5, by rw [Hstep.out]; rfl, by rw [show (36 : Int) - ((j + 1 : Nat) : Int) = (i : Int) - 1 by omega]⟩
          case measure => first | (simp [intOf]; done) | (simp [intOf]; omega)
    · obtain rfl : j = 37 := by omega
      rw [show (36 : Int) - ((37 : Nat) : Int) = -1 from by decide]
      have hR : Hid (rootL p pw = rootN p pw 37 % 4294967296) := rfl
      obtain ⟨x, hx⟩ : ∃ x, rootN p pw 37 = x := ⟨_, rfl⟩
      rw [hx] at hR ⊢
      obtain ⟨r, hr⟩ : ∃ r, x % 4294967296 = r := ⟨_, rfl⟩
      have hr1 : (x : Int) % 4294967296 = (r : Int) := by omega
      have hr2 : IntKind.u32.wrap (x : Int) = (r : Int) := by rw [IntKind.wrap_u32]; exact hr1
      rw [hr] at hR
      clear hx hr
      go_wp2_with fail
      go_ret
      exact ⟨by rw [hR.out]; rfl, HB.out⟩
end Go.Proofs.Ytmjikebbknjahaa
