/-
  The reference's four.
-/
import Derived.Test.YtkngmnfgdlnddaaOwnZ
set_option linter.unusedSimpArgs false
set_option linter.unusedVariables false
namespace Go.Proofs.Ytkngmnfgdlnddaa
open Go.RowKit Go.Lib Hw Go.Maps
set_option linter.unusedSimpArgs false
set_option linter.unusedVariables false

theorem be4 (n : Nat) : be 4 n = [UInt8.ofNat (n / 16777216 % 256), UInt8.ofNat (n / 65536 % 256), UInt8.ofNat (n / 256 % 256), UInt8.ofNat (n % 256)] := by
  simp [be, Nat.div_div_eq_div_mul]
theorem bv_ofNat (n : Nat) (h : n < 256) : bv (UInt8.ofNat n) = .int .u8 (n : Int) := by
  unfold bv
  rw [UInt8.toNat_ofNat', Nat.mod_eq_of_lt h]
set_option maxHeartbeats 4000000 in
theorem refFour_any (n : Nat) (w : World) (hn : n < 4294967296) : Calls Try.prog 55 #[.int .u32 (n : Int)] w fun e w' => e = .returned (.string (bstr (be 4 n))) ∧ Below w.heap.size w w' := by
  have hb := be4 n
  obtain ⟨q1, h1⟩ : ∃ q, n / 16777216 = q := ⟨_, rfl⟩
  obtain ⟨q2, h2⟩ : ∃ q, n / 65536 = q := ⟨_, rfl⟩
  obtain ⟨q3, h3⟩ : ∃ q, n / 256 = q := ⟨_, rfl⟩
  obtain ⟨r2, k2⟩ : ∃ q, q2 % 256 = q := ⟨_, rfl⟩
  obtain ⟨r3, k3⟩ : ∃ q, q3 % 256 = q := ⟨_, rfl⟩
  obtain ⟨r4, k4⟩ : ∃ q, n % 256 = q := ⟨_, rfl⟩
  have b1 : q1 < 256 := by omega
  have b2 : r2 < 256 := by omega
  have b3 : r3 < 256 := by omega
  have b4 : r4 < 256 := by omega
  rw [h1, h2, h3, k2, k3, k4, Nat.mod_eq_of_lt b1] at hb
  have HB := Lib.hid hb
  have d1 : (n : Int).tdiv 16777216 = (q1 : Int) := by rw [← h1]; exact (Int.ofNat_tdiv n 16777216).symm
  have d2 : (n : Int).tdiv 65536 = (q2 : Int) := by rw [← h2]; exact (Int.ofNat_tdiv n 65536).symm
  have d3 : (n : Int).tdiv 256 = (q3 : Int) := by rw [← h3]; exact (Int.ofNat_tdiv n 256).symm
  have m2 : (q2 : Int).tmod 256 = (r2 : Int) := by rw [← k2]; exact (Int.ofNat_tmod q2 256).symm
  have m3 : (q3 : Int).tmod 256 = (r3 : Int) := by rw [← k3]; exact (Int.ofNat_tmod q3 256).symm
  have m4 : (n : Int).tmod 256 = (r4 : Int) := by rw [← k4]; exact (Int.ofNat_tmod n 256).symm
  have w1 : IntKind.u32.wrap (q1 : Int) = (q1 : Int) := IntWalk.u32_in _ (by omega)
  have w2 : IntKind.u32.wrap (q2 : Int) = (q2 : Int) := IntWalk.u32_in _ (by omega)
  have w3 : IntKind.u32.wrap (q3 : Int) = (q3 : Int) := IntWalk.u32_in _ (by omega)
  have w4 : IntKind.u32.wrap (r2 : Int) = (r2 : Int) := IntWalk.u32_in _ (by omega)
  have w5 : IntKind.u32.wrap (r3 : Int) = (r3 : Int) := IntWalk.u32_in _ (by omega)
  have w6 : IntKind.u32.wrap (r4 : Int) = (r4 : Int) := IntWalk.u32_in _ (by omega)
  have v1 : IntKind.u8.wrap (q1 : Int) = (q1 : Int) := IntWalk.u8_in _ (by omega)
  have v2 : IntKind.u8.wrap (r2 : Int) = (r2 : Int) := IntWalk.u8_in _ (by omega)
  have v3 : IntKind.u8.wrap (r3 : Int) = (r3 : Int) := IntWalk.u8_in _ (by omega)
  have v4 : IntKind.u8.wrap (r4 : Int) = (r4 : Int) := IntWalk.u8_in _ (by omega)
  clear h1 h2 h3 k2 k3 k4 hb
  obtain ⟨N, hN⟩ : ∃ N, w.heap.size = N := ⟨_, rfl⟩
  have HN := Lib.hid hN
  rw [hN]
  have hcv : (convert 101 9 (.slice (some ⟨N, 0, none⟩) 4 4)).run Try.prog (w.alloc (.cells #[.int .u8 (q1 : Int), .int .u8 (r2 : Int), .int .u8 (r3 : Int), .int .u8 (r4 : Int)] 5)) = .ok (.string (bstr (be 4 n))) (w.alloc (.cells #[.int .u8 (q1 : Int), .int .u8 (r2 : Int), .int .u8 (r3 : Int), .int .u8 (r4 : Int)] 5)) := by
    have hz : OwnZ (w.alloc (.cells #[.int .u8 (q1 : Int), .int .u8 (r2 : Int), .int .u8 (r3 : Int), .int .u8 (r4 : Int)] 5)) N (.slice (some ⟨N, 0, none⟩) 4 4) [UInt8.ofNat q1, UInt8.ofNat r2, UInt8.ofNat r3, UInt8.ofNat r4] := by
      refine ⟨N, 4, _, _, rfl, Nat.le_refl _, by rw [← hN]; exact heap_alloc_new w _, .inl rfl, Nat.le_refl _, by decide, Nat.le_refl _, fun i hi => ?_⟩
      match i, hi with
      | 0, _ => exact congrArg some (bv_ofNat q1 b1).symm
      | 1, _ => exact congrArg some (bv_ofNat r2 b2).symm
      | 2, _ => exact congrArg some (bv_ofNat r3 b3).symm
      | 3, _ => exact congrArg some (bv_ofNat r4 b4).symm
    have h := hz.str
    rw [HB.out]
    exact h
  clear hN
  go_enter Try.func55, Try.ntmps55
  go_upto_region 1 with fail
  with_reducible refine wp_region_list ?_
  (with_reducible refine wpList_plain rfl ?_); intro K hK; go_simp; (first | with_reducible refine hK _ _ ?_ | refine hK _ _ ?_); clear hK K; try simp only [Act.put, nA, nB, nC]
  (with_reducible refine wpList_plain rfl ?_); intro K hK; go_simp; (first | with_reducible refine hK _ _ ?_ | refine hK _ _ ?_); clear hK K; try simp only [Act.put, nA, nB, nC]
  (with_reducible refine wpList_plain rfl ?_); intro K hK; go_simp; (first | with_reducible refine hK _ _ ?_ | refine hK _ _ ?_); clear hK K; try simp only [Act.put, nA, nB, nC]
  (with_reducible refine wpList_plain rfl ?_); intro K hK; go_simp; (first | with_reducible refine hK _ _ ?_ | refine hK _ _ ?_); clear hK K; try simp only [Act.put, nA, nB, nC]
  (with_reducible refine wpList_plain rfl ?_); intro K hK; go_simp; (first | with_reducible refine hK _ _ ?_ | refine hK _ _ ?_); clear hK K; try simp only [Act.put, nA, nB, nC]
  (with_reducible refine wpList_plain rfl ?_); intro K hK; go_simp; (first | with_reducible refine hK _ _ ?_ | refine hK _ _ ?_); clear hK K; try simp only [Act.put, nA, nB, nC]
  (with_reducible refine wpList_plain rfl ?_); intro K hK; go_simp; (first | with_reducible refine hK _ _ ?_ | refine hK _ _ ?_); clear hK K; try simp only [Act.put, nA, nB, nC]
  (with_reducible refine wpList_plain rfl ?_); intro K hK; go_simp; (first | with_reducible refine hK _ _ ?_ | refine hK _ _ ?_); clear hK K; try simp only [Act.put, nA, nB, nC]
  (with_reducible refine wpList_plain rfl ?_); intro K hK; go_simp; (first | with_reducible refine hK _ _ ?_ | refine hK _ _ ?_); clear hK K; try simp only [Act.put, nA, nB, nC]
  (with_reducible refine wpList_plain rfl ?_); intro K hK; go_simp; (first | with_reducible refine hK _ _ ?_ | refine hK _ _ ?_); clear hK K; try simp only [Act.put, nA, nB, nC]
  (with_reducible refine wpList_plain rfl ?_); intro K hK; go_simp; (first | with_reducible refine hK _ _ ?_ | refine hK _ _ ?_); clear hK K; try simp only [Act.put, nA, nB, nC]
  (with_reducible refine wpList_plain rfl ?_); intro K hK; go_simp; (first | with_reducible refine hK _ _ ?_ | refine hK _ _ ?_); clear hK K; try simp only [Act.put, nA, nB, nC]
  (with_reducible refine wpList_plain rfl ?_); intro K hK; go_simp; (first | with_reducible refine hK _ _ ?_ | refine hK _ _ ?_); clear hK K; try simp only [Act.put, nA, nB, nC]
  (with_reducible refine wpList_plain rfl ?_); intro K hK; go_simp; (first | with_reducible refine hK _ _ ?_ | refine hK _ _ ?_); clear hK K; try simp only [Act.put, nA, nB, nC]
  (with_reducible refine wpList_plain rfl ?_); intro K hK; go_simp; (first | with_reducible refine hK _ _ ?_ | refine hK _ _ ?_); clear hK K; try simp only [Act.put, nA, nB, nC]
  rw [HN.out]
  (with_reducible refine wpList_plain rfl ?_); intro K hK; go_simp; (first | with_reducible refine hK _ _ ?_ | refine hK _ _ ?_); clear hK K; try simp only [Act.put, nA, nB, nC]
  (with_reducible refine wpList_plain rfl ?_); intro K hK; go_simp; (first | with_reducible refine hK _ _ ?_ | refine hK _ _ ?_); clear hK K; try simp only [Act.put, nA, nB, nC]
  have hbb : Hid (Below N w (w.alloc (.cells #[.int .u8 (q1 : Int), .int .u8 (r2 : Int), .int .u8 (r3 : Int), .int .u8 (r4 : Int)] 5))) := by show Below _ _ _; rw [← HN.out]; exact (Below.refl _ _).alloc (Nat.le_refl _) _
  clear hcv
  go_wp2_with fail
  go_ret
  exact ⟨rfl, hbb.out⟩
theorem bodyB_ref (a b : Int) (next : Nat) (xs : List Nat) : bodyB a b next xs = (mayB a b && ((!decide (next = 1)) && (decide (next < 65536) && risR (entI a b) 65536 xs))) := by
  unfold bodyB risR
  have e1 : (decide (next = 0) || numB next) = ((!decide (next = 1)) && decide (next < 65536)) := by
    unfold numB
    rw [Bool.eq_iff_iff]
    simp
    omega
  have e2 : (!(xs.any fun n => !numB n)) = xs.all (fun x => decide (2 ≤ x) && decide (x < 65536)) := by
    rw [Bool.eq_iff_iff]
    simp [numB]
  rw [e1, e2]
  cases mayB a b <;> simp [Bool.and_assoc]
end Go.Proofs.Ytkngmnfgdlnddaa

