/-
  The reference's number of four bytes. The reference's FromBody.
-/
import Derived.Test.YtkngmnfgdlnddaaRefG
set_option linter.unusedSimpArgs false
set_option linter.unusedVariables false
namespace Go.Proofs.Ytkngmnfgdlnddaa
open Go.RowKit Go.Lib Hw Go.Maps
set_option linter.unusedSimpArgs false
set_option linter.unusedVariables false

set_option maxHeartbeats 4000000 in
theorem refNumber_any (t : ByteArray) (b0 b1 b2 b3 : UInt8) (w : World) (ht : t.data.toList = [b0, b1, b2, b3]) : Calls Try.prog 63 #[.string t] w fun e w' => e = .returned (.int .u32 (told [b0, b1, b2, b3] : Nat)) ∧ Below w.heap.size w w' := by
  have e : t = ⟨#[b0, b1, b2, b3]⟩ := by apply ByteArray.ext; apply Array.ext'; rw [ht]
  subst e
  go_enter Try.func63, Try.ntmps63
  go_upto_region 1 with fail
  go_quiet (fail)
  have hb : Hid (Below w.heap.size w (w.drewN nq)) := below_dN w nq
  have hv : Hid (((b0.toNat : Int) % 4294967296 * 16777216 + (b1.toNat : Int) % 4294967296 * 65536 + (b2.toNat : Int) % 4294967296 * 256 + (b3.toNat : Int)) % 4294967296 = (told [b0, b1, b2, b3] : Nat)) := by
    have h0 := b0.toNat_lt
    have h1 := b1.toNat_lt
    have h2 := b2.toNat_lt
    have h3 := b3.toNat_lt
    have e : told [b0, b1, b2, b3] = ((b0.toNat * 256 + b1.toNat) * 256 + b2.toNat) * 256 + b3.toNat := by simp [told]
    show _ = _
    rw [e]
    omega
  go_wp2_with fail
  go_ret
  refine ⟨congrArg Ending.returned (congrArg (Value.int IntKind.u32) ?_), hb.out⟩
  exact hv.out
/-- four bytes of a string -/
theorem piece4 (s : ByteArray) (o : Nat) (h : o + 4 ≤ s.size) : ∃ b0 b1 b2 b3, piece s o 4 = [b0, b1, b2, b3] := by
  have hl := piece_length s o 4 h
  match hp : piece s o 4, hl with
  | [b0, b1, b2, b3], _ => exact ⟨b0, b1, b2, b3, rfl⟩
theorem refNumber_at (s : ByteArray) (o : Nat) (w : World) (h : o + 4 ≤ s.size) : Calls Try.prog 63 #[.string (s.extract o (o + 4))] w fun e w' => e = .returned (.int .u32 (told (piece s o 4) : Nat)) ∧ Below w.heap.size w w' := by
  obtain ⟨b0, b1, b2, b3, hp⟩ := piece4 s o h
  rw [hp]
  refine refNumber_any _ b0 b1 b2 b3 w ?_
  rw [← hp]
  unfold piece
  rw [ByteArray.data_extract, Array.toList_extract, List.extract_eq_take_drop, Nat.add_sub_cancel_left]
end Go.Proofs.Ytkngmnfgdlnddaa

namespace Go.Proofs.Ytkngmnfgdlnddaa
open Go.RowKit Go.Lib Hw Go.Maps
set_option linter.unusedSimpArgs false
set_option linter.unusedVariables false

theorem told_of_be (k n : Nat) : told (be k n) = n % 256 ^ k := by
  induction k generalizing n with
  | zero => simp [be, told, Nat.mod_one]
  | succ k ih =>
    rw [be, told_snoc, ih]
    have h : (UInt8.ofNat (n % 256)).toNat = n % 256 := by simp
    rw [h, Nat.pow_succ, Nat.mul_comm (256 ^ k) 256, Nat.mod_mul]
    omega
theorem cnt_body (next : Nat) (xs : List Nat) (h : xs.length < 4294967296) : cntOf (bstr (bodyL next xs)) = xs.length := by
  unfold cntOf bodyL piece
  rw [bstr_list]
  have h1 : (be 4 next).length = 4 := be_length 4 next
  have h2 : (be 4 xs.length).length = 4 := be_length 4 xs.length
  rw [List.drop_append_of_le_length (by omega), List.drop_of_length_le (by omega), List.nil_append, List.take_append_of_le_length (by omega), List.take_of_length_le (by omega), told_of_be]
  exact Nat.mod_eq_of_lt h
/-- the reference's own order of asking -/
theorem from_ref {a b : Int} {s : ByteArray} (hs : s.size < 17179869184) : fromB a b s = (mayB a b && (decide (8 ≤ s.size) && (decide (s.size % 4 = 0) && (decide ((s.size : Int) ≤ 8 + 4 * entI a b) && (bodyB a b (nextOf s) (numsOf s ((s.size - 8) / 4)) && decide (bodyS a b (nextOf s) (numsOf s ((s.size - 8) / 4)) = s)))))) ∧ (fromB a b s = true → cntOf s = (s.size - 8) / 4) := by
  have key : fromB a b s = true → cntOf s = (s.size - 8) / 4 ∧ s.size % 4 = 0 ∧ (s.size : Int) ≤ 8 + 4 * entI a b := fun h => by
    unfold fromB bodyB at h
    simp only [Bool.and_eq_true, decide_eq_true_eq, numsOf_len] at h
    omega
  refine ⟨?_, fun h => (key h).1⟩
  rw [Bool.eq_iff_iff]
  constructor
  · intro h
    obtain ⟨k1, k2, k3⟩ := key h
    unfold fromB at h
    rw [k1] at h
    simp only [Bool.and_eq_true, decide_eq_true_eq] at h ⊢
    exact ⟨h.1, h.2.1, k2, k3, h.2.2.2.1, h.2.2.2.2⟩
  · intro h
    simp only [Bool.and_eq_true, decide_eq_true_eq] at h
    obtain ⟨h1, h2, h3, h4, h5, h6⟩ := h
    have hc : cntOf s = (s.size - 8) / 4 := by
      have h7 := h6
      rw [(body_yes h5).1] at h7
      rw [← h7, cnt_body _ _ (by rw [numsOf_len]; omega), numsOf_len, h7]
    unfold fromB
    rw [hc]
    simp only [Bool.and_eq_true, decide_eq_true_eq]
    exact ⟨h1, h2, by omega, h5, h6⟩
def RFPost (a b : Int) (s : ByteArray) (w : World) (e : Ending) (w' : World) : Prop :=
  (fromB a b s = true ∧ ∃ v, e = .returned (.tuple #[.int .u32 (nextOf s : Int), v, .int .i64 0]) ∧ OwnO w' w.heap.size v (numsOf s (cntOf s)) ∧ Below w.heap.size w w') ∨
  (fromB a b s = false ∧ e = .returned (.tuple #[.int .u32 0, .slice none 0 0, .int .i64 (if mayB a b = true then 90 else 2)]) ∧ Below w.heap.size w w')
set_option maxRecDepth 5000 in
set_option maxHeartbeats 8000000 in
theorem refFromBody_any (a b : Int) (s : ByteArray) (w : World) (hs : s.size ≤ 9223372036854775000) :
    Calls Try.prog 25 #[.agg #[.int .i64 a, .int .i64 b], .string s] w (RFPost a b s w) := by
  obtain ⟨N, hN⟩ : ∃ N, w.heap.size = N := ⟨_, rfl⟩
  have HN := Lib.hid hN
  have HNo : Hid (∀ w', mayB a b = true → fromB a b s = false → Below N w w' → RFPost a b s w (.returned (.tuple #[.int .u32 0, .slice none 0 0, .int .i64 90])) w') := fun w' h1 h2 hb => .inr ⟨h2, by rw [if_pos h1], by rw [hN]; exact hb⟩
  have HArg : Hid (∀ w', mayB a b = false → Below N w w' → RFPost a b s w (.returned (.tuple #[.int .u32 0, .slice none 0 0, .int .i64 2])) w') := fun w' h1 hb => .inr ⟨by unfold fromB; rw [h1]; rfl, by rw [h1]; rfl, by rw [hN]; exact hb⟩
  have HOk : Hid (∀ w' v, fromB a b s = true → OwnO w' N v (numsOf s (cntOf s)) → Below N w w' → RFPost a b s w (.returned (.tuple #[.int .u32 (nextOf s : Int), v, .int .i64 0])) w') := fun w' v h1 ho hb => .inl ⟨h1, v, rfl, by rw [hN]; exact ho, by rw [hN]; exact hb⟩
  obtain ⟨R, hR⟩ : ∃ R, RFPost a b s w = R := ⟨_, rfl⟩
  rw [hR] at HNo HArg HOk ⊢
  obtain ⟨q1, hq1⟩ : ∃ q, mayB a b = q := ⟨_, rfl⟩
  have H1 := Lib.hid hq1
  have hE := entI_bd a b
  obtain ⟨E, hE1⟩ : ∃ E, entI a b = E := ⟨_, rfl⟩
  rw [hE1] at hE
  have HE := Lib.hid hE1
  clear hN hR hq1 hE1
  go_enter Try.func25, Try.ntmps25
  go_upto_region 0 with fail
  with_reducible refine wp_region_list ?_
  refine wpList_boxB rfl _ _ rfl N HN.out #[.int .i64 a, .int .i64 b] rfl ?_
  intro w0 e0 b0 z0
  (try simp only [Act.put, nA, nB, nC])
  (with_reducible refine wpList_plain rfl ?_); intro K hK; go_simp; (with_reducible refine hK _ _ ?_); clear hK K; try simp only [Act.put, nA, nB, nC]
  (with_reducible refine wpList_plain rfl ?_); intro K hK; go_simp; (with_reducible refine hK _ _ ?_); clear hK K; try simp only [Act.put, nA, nB, nC]
  (with_reducible refine wpList_plain rfl ?_); intro K hK; go_simp; (with_reducible refine hK _ _ ?_); clear hK K; try simp only [Act.put, nA, nB, nC]
  have E0 := Lib.hid e0
  have B0 := Lib.hid b0
  have hz0 : N < w0.heap.size := heap_lt e0
  clear b0 z0
  have k0 := heap_cell e0 (o := 0)
  have k1 := heap_cell e0 (o := 1)
  clear e0
  go_upto_region 1 with fail
  with_reducible refine wp_region_list ?_
  (with_reducible refine wpList_plain rfl ?_); intro K hK; go_simp; (with_reducible refine hK _ _ ?_); clear hK K; try simp only [Act.put, nA, nB, nC]
  with_reducible refine wpList_plain rfl ?_
  intro K hK
  go_simp
  refine (MayFrame_any a b w0).mono ?_; rintro e w1 ⟨rfl, b1⟩; rw [H1.out]
  first | with_reducible refine hK _ _ ?_ | refine hK _ _ ?_
  clear hK K
  (try simp only [Act.put, nA, nB, nC])
  (with_reducible refine wpList_plain rfl ?_); intro K hK; go_simp; (with_reducible refine hK _ _ ?_); clear hK K; try simp only [Act.put, nA, nB, nC]
  have B1 : Hid (Below N w w1) := B0.out.trans (b1.mono (by omega))
  have e1 := heap_below E0.out b1 hz0
  have E1 := Lib.hid e1
  have hz1 : N < w1.heap.size := heap_lt e1
  clear b1 k0 k1 B0 E0 hz0
  cases q1
  case false =>
    have hf := Lib.hid (HArg.out w1 H1.out B1.out)
    clear e1
    go_wp2_with fail
    go_ret3
    exact hf.out
  case true =>
    have k0 := heap_cell e1 (o := 0)
    have k1 := heap_cell e1 (o := 1)
    clear e1
    obtain ⟨r, hr⟩ : ∃ r, s.size % 4 = r := ⟨_, rfl⟩
    have m4 : (s.size : Int).tmod 4 = (r : Int) := by rw [← hr]; exact (Int.ofNat_tmod s.size 4).symm
    have mw : IntKind.i64.wrap (r : Int) = (r : Int) := IntWalk.i64_in _ (by omega)
    have HRR := Lib.hid hr
    have hFail : Hid (¬ (8 ≤ s.size ∧ r = 0 ∧ (s.size : Int) ≤ 8 + 4 * E) → fromB a b s = false) := fun h => by
      rw [Bool.eq_false_iff]
      intro hf
      apply h
      unfold fromB bodyB at hf
      simp only [Bool.and_eq_true, decide_eq_true_eq, numsOf_len] at hf
      rw [HE.out] at hf
      omega
    clear hr
    by_cases h8 : s.size < 8
    case pos =>
      have i8 : (s.size : Int) < 8 := by omega
      have hf := Lib.hid (HNo.out w1 H1.out (hFail.out (by omega)) B1.out)
      clear h8 m4 mw
      go_upto_region 3 with fail
      with_reducible refine wp_region_list ?_
      (with_reducible refine wpList_plain rfl ?_); intro K hK; go_simp; (with_reducible refine hK _ _ ?_); clear hK K; try simp only [Act.put, nA, nB, nC]
      (with_reducible refine wpList_plain rfl ?_); intro K hK; go_simp; (with_reducible refine hK _ _ ?_); clear hK K; try simp only [Act.put, nA, nB, nC]
      (with_reducible refine wpList_plain rfl ?_); intro K hK; go_simp; (with_reducible refine hK _ _ ?_); clear hK K; try simp only [Act.put, nA, nB, nC]
      (with_reducible refine wpList_plain rfl ?_); intro K hK; go_simp; (with_reducible refine hK _ _ ?_); clear hK K; try simp only [Act.put, nA, nB, nC]
      (with_reducible refine wpList_step ?_); intro K hK; rw [if_neg (Bool.eq_false_iff.1 (by rfl))]; (with_reducible refine hK _ _ ?_); clear hK K; try simp only [Act.put, nA, nB, nC]
      (with_reducible refine wpList_step ?_); intro K hK; rw [if_neg (Bool.eq_false_iff.1 (by rfl))]; (with_reducible refine hK _ _ ?_); clear hK K; try simp only [Act.put, nA, nB, nC]
      (with_reducible refine wpList_step ?_); intro K hK; rw [if_neg (Bool.eq_false_iff.1 (by rfl))]; (with_reducible refine hK _ _ ?_); clear hK K; try simp only [Act.put, nA, nB, nC]
      (with_reducible refine wpList_step ?_); intro K hK; rw [if_neg (Bool.eq_false_iff.1 (by rfl))]; (with_reducible refine hK _ _ ?_); clear hK K; try simp only [Act.put, nA, nB, nC]
      (with_reducible refine wpList_plain rfl ?_); intro K hK; go_simp; (with_reducible refine hK _ _ ?_); clear hK K; try simp only [Act.put, nA, nB, nC]
      (with_reducible refine wpList_plain rfl ?_); intro K hK; go_simp; (with_reducible refine hK _ _ ?_); clear hK K; try simp only [Act.put, nA, nB, nC]
      (with_reducible refine wpList_step ?_); intro K hK; rw [if_neg (Bool.eq_false_iff.1 (by rfl))]; (with_reducible refine hK _ _ ?_); clear hK K; try simp only [Act.put, nA, nB, nC]
      (with_reducible refine wpList_step ?_); intro K hK; rw [if_neg (Bool.eq_false_iff.1 (by rfl))]; (with_reducible refine hK _ _ ?_); clear hK K; try simp only [Act.put, nA, nB, nC]
      (with_reducible refine wpList_step ?_); intro K hK; rw [if_neg (Bool.eq_false_iff.1 (by rfl))]; (with_reducible refine hK _ _ ?_); clear hK K; try simp only [Act.put, nA, nB, nC]
      (with_reducible refine wpList_step ?_); intro K hK; rw [if_neg (Bool.eq_false_iff.1 (by rfl))]; (with_reducible refine hK _ _ ?_); clear hK K; try simp only [Act.put, nA, nB, nC]
      (with_reducible refine wpList_step ?_); intro K hK; rw [if_neg (Bool.eq_false_iff.1 (by rfl))]; (with_reducible refine hK _ _ ?_); clear hK K; try simp only [Act.put, nA, nB, nC]
      (with_reducible refine wpList_step ?_); intro K hK; rw [if_neg (Bool.eq_false_iff.1 (by rfl))]; (with_reducible refine hK _ _ ?_); clear hK K; try simp only [Act.put, nA, nB, nC]
      (with_reducible refine wpList_step ?_); intro K hK; rw [if_neg (Bool.eq_false_iff.1 (by rfl))]; (with_reducible refine hK _ _ ?_); clear hK K; try simp only [Act.put, nA, nB, nC]
      (with_reducible refine wpList_plain rfl ?_); intro K hK; go_simp; (with_reducible refine hK _ _ ?_); clear hK K; try simp only [Act.put, nA, nB, nC]
      clear i8 k0 k1
      go_wp2_with fail
      go_ret3
      exact hf.out
    case neg =>
      have i8 : ¬ (s.size : Int) < 8 := by omega
      by_cases hr0 : r = 0
      case neg =>
        have n1 : ((r : Int) != 0) = true := by simp; omega
        have n2 : (r != 0) = true := by simp [hr0]
        have hf := Lib.hid (HNo.out w1 H1.out (hFail.out (by omega)) B1.out)
        clear h8 hr0
        go_upto_region 3 with fail
        with_reducible refine wp_region_list ?_
        (with_reducible refine wpList_plain rfl ?_); intro K hK; go_simp; (with_reducible refine hK _ _ ?_); clear hK K; try simp only [Act.put, nA, nB, nC]
        (with_reducible refine wpList_plain rfl ?_); intro K hK; go_simp; (with_reducible refine hK _ _ ?_); clear hK K; try simp only [Act.put, nA, nB, nC]
        (with_reducible refine wpList_plain rfl ?_); intro K hK; go_simp; (with_reducible refine hK _ _ ?_); clear hK K; try simp only [Act.put, nA, nB, nC]
        (with_reducible refine wpList_plain rfl ?_); intro K hK; go_simp; (with_reducible refine hK _ _ ?_); clear hK K; try simp only [Act.put, nA, nB, nC]
        (with_reducible refine wpList_step ?_); intro K hK; rw [if_pos (by rfl)]; go_simp; (with_reducible refine hK _ _ ?_); clear hK K; try simp only [Act.put, nA, nB, nC]
        (with_reducible refine wpList_step ?_); intro K hK; rw [if_pos (by rfl)]; go_simp; (with_reducible refine hK _ _ ?_); clear hK K; try simp only [Act.put, nA, nB, nC]
        (with_reducible refine wpList_step ?_); intro K hK; rw [if_pos (by rfl)]; go_simp; (with_reducible refine hK _ _ ?_); clear hK K; try simp only [Act.put, nA, nB, nC]
        (with_reducible refine wpList_step ?_); intro K hK; rw [if_pos (by rfl)]; go_simp; (with_reducible refine hK _ _ ?_); clear hK K; try simp only [Act.put, nA, nB, nC]
        (with_reducible refine wpList_plain rfl ?_); intro K hK; go_simp; (with_reducible refine hK _ _ ?_); clear hK K; try simp only [Act.put, nA, nB, nC]
        (with_reducible refine wpList_plain rfl ?_); intro K hK; go_simp; (with_reducible refine hK _ _ ?_); clear hK K; try simp only [Act.put, nA, nB, nC]
        (with_reducible refine wpList_step ?_); intro K hK; rw [if_neg (Bool.eq_false_iff.1 (by rfl))]; (with_reducible refine hK _ _ ?_); clear hK K; try simp only [Act.put, nA, nB, nC]
        (with_reducible refine wpList_step ?_); intro K hK; rw [if_neg (Bool.eq_false_iff.1 (by rfl))]; (with_reducible refine hK _ _ ?_); clear hK K; try simp only [Act.put, nA, nB, nC]
        (with_reducible refine wpList_step ?_); intro K hK; rw [if_neg (Bool.eq_false_iff.1 (by rfl))]; (with_reducible refine hK _ _ ?_); clear hK K; try simp only [Act.put, nA, nB, nC]
        (with_reducible refine wpList_step ?_); intro K hK; rw [if_neg (Bool.eq_false_iff.1 (by rfl))]; (with_reducible refine hK _ _ ?_); clear hK K; try simp only [Act.put, nA, nB, nC]
        (with_reducible refine wpList_step ?_); intro K hK; rw [if_neg (Bool.eq_false_iff.1 (by rfl))]; (with_reducible refine hK _ _ ?_); clear hK K; try simp only [Act.put, nA, nB, nC]
        (with_reducible refine wpList_step ?_); intro K hK; rw [if_neg (Bool.eq_false_iff.1 (by rfl))]; (with_reducible refine hK _ _ ?_); clear hK K; try simp only [Act.put, nA, nB, nC]
        (with_reducible refine wpList_step ?_); intro K hK; rw [if_neg (Bool.eq_false_iff.1 (by rfl))]; (with_reducible refine hK _ _ ?_); clear hK K; try simp only [Act.put, nA, nB, nC]
        (with_reducible refine wpList_plain rfl ?_); intro K hK; go_simp; (with_reducible refine hK _ _ ?_); clear hK K; try simp only [Act.put, nA, nB, nC]
        clear i8 k0 k1
        go_wp2_with fail
        go_ret3
        exact hf.out
      case pos =>
        have n1 : ((r : Int) != 0) = false := by simp [hr0]
        have n2 : (r != 0) = false := by simp [hr0]
        have w4 : IntKind.i64.wrap (4 * E) = 4 * E := IntWalk.i64_in _ (by omega)
        have w8 : IntKind.i64.wrap (8 + 4 * E) = 8 + 4 * E := IntWalk.i64_in _ (by omega)
        have HR0 := Lib.hid hr0
        clear hr0
        go_upto_region 3 with fail
        with_reducible refine wp_region_list ?_
        (with_reducible refine wpList_plain rfl ?_); intro K hK; go_simp; (with_reducible refine hK _ _ ?_); clear hK K; try simp only [Act.put, nA, nB, nC]
        (with_reducible refine wpList_plain rfl ?_); intro K hK; go_simp; (with_reducible refine hK _ _ ?_); clear hK K; try simp only [Act.put, nA, nB, nC]
        (with_reducible refine wpList_plain rfl ?_); intro K hK; go_simp; (with_reducible refine hK _ _ ?_); clear hK K; try simp only [Act.put, nA, nB, nC]
        (with_reducible refine wpList_plain rfl ?_); intro K hK; go_simp; (with_reducible refine hK _ _ ?_); clear hK K; try simp only [Act.put, nA, nB, nC]
        (with_reducible refine wpList_step ?_); intro K hK; rw [if_pos (by rfl)]; go_simp; (with_reducible refine hK _ _ ?_); clear hK K; try simp only [Act.put, nA, nB, nC]
        (with_reducible refine wpList_step ?_); intro K hK; rw [if_pos (by rfl)]; go_simp; (with_reducible refine hK _ _ ?_); clear hK K; try simp only [Act.put, nA, nB, nC]
        (with_reducible refine wpList_step ?_); intro K hK; rw [if_pos (by rfl)]; go_simp; (with_reducible refine hK _ _ ?_); clear hK K; try simp only [Act.put, nA, nB, nC]
        (with_reducible refine wpList_step ?_); intro K hK; rw [if_pos (by rfl)]; go_simp; (with_reducible refine hK _ _ ?_); clear hK K; try simp only [Act.put, nA, nB, nC]
        (with_reducible refine wpList_plain rfl ?_); intro K hK; go_simp; (with_reducible refine hK _ _ ?_); clear hK K; try simp only [Act.put, nA, nB, nC]
        (with_reducible refine wpList_plain rfl ?_); intro K hK; go_simp; (with_reducible refine hK _ _ ?_); clear hK K; try simp only [Act.put, nA, nB, nC]
        (with_reducible refine wpList_step ?_); intro K hK; rw [if_pos (by rfl)]; go_simp; (with_reducible refine hK _ _ ?_); clear hK K; try simp only [Act.put, nA, nB, nC]
        (with_reducible refine wpList_step ?_); intro K hK; rw [if_pos (by rfl)]; go_simp; (with_reducible refine hK _ _ ?_); clear hK K; try simp only [Act.put, nA, nB, nC]
        (with_reducible refine wpList_step ?_); intro K hK; rw [if_pos (by rfl)]; go_simp; (with_reducible refine hK _ _ ?_); clear hK K; try simp only [Act.put, nA, nB, nC]
        with_reducible refine wpList_step ?_
        intro K hK
        rw [if_pos (by rfl)]
        go_simp
        refine (refEntries_any a b w1).mono ?_; rintro e w2 ⟨rfl, b2⟩; rw [HE.out]
        first | with_reducible refine hK _ _ ?_ | refine hK _ _ ?_
        clear hK K
        (try simp only [Act.put, nA, nB, nC])
        have B2 : Hid (Below N w w2) := B1.out.trans (b2.mono (by omega))
        have E2 := Lib.hid (heap_below E1.out b2 hz1)
        have hz2 : N < w2.heap.size := heap_lt E2.out
        clear b2 k0 k1 B1 E1 hz1
        by_cases hbg : (s.size : Int) ≤ 8 + 4 * E
        case neg =>
          have g1 : decide (8 + 4 * E < (s.size : Int)) = true := decide_eq_true (by omega)
          have hf := Lib.hid (HNo.out w2 H1.out (hFail.out (by omega)) B2.out)
          clear h8 hbg
          (with_reducible refine wpList_step ?_); intro K hK; rw [if_pos (by rfl)]; go_simp; (with_reducible refine hK _ _ ?_); clear hK K; try simp only [Act.put, nA, nB, nC]
          (with_reducible refine wpList_step ?_); intro K hK; rw [if_pos (by rfl)]; go_simp; (with_reducible refine hK _ _ ?_); clear hK K; try simp only [Act.put, nA, nB, nC]
          (with_reducible refine wpList_step ?_); intro K hK; rw [if_pos (by rfl)]; go_simp; (with_reducible refine hK _ _ ?_); clear hK K; try simp only [Act.put, nA, nB, nC]
          (with_reducible refine wpList_plain rfl ?_); intro K hK; go_simp; (with_reducible refine hK _ _ ?_); clear hK K; try simp only [Act.put, nA, nB, nC]
          clear i8 g1
          go_wp2_with fail
          go_ret3
          exact hf.out
        case pos =>
          have g1 : decide (8 + 4 * E < (s.size : Int)) = false := decide_eq_false (by omega)
          (with_reducible refine wpList_step ?_); intro K hK; rw [if_pos (by rfl)]; go_simp; (with_reducible refine hK _ _ ?_); clear hK K; try simp only [Act.put, nA, nB, nC]
          (with_reducible refine wpList_step ?_); intro K hK; rw [if_pos (by rfl)]; go_simp; (with_reducible refine hK _ _ ?_); clear hK K; try simp only [Act.put, nA, nB, nC]
          (with_reducible refine wpList_step ?_); intro K hK; rw [if_pos (by rfl)]; go_simp; (with_reducible refine hK _ _ ?_); clear hK K; try simp only [Act.put, nA, nB, nC]
          (with_reducible refine wpList_plain rfl ?_); intro K hK; go_simp; (with_reducible refine hK _ _ ?_); clear hK K; try simp only [Act.put, nA, nB, nC]
          obtain ⟨nn, hnn⟩ : ∃ n, (s.size - 8) / 4 = n := ⟨_, rfl⟩
          have hsz : s.size = 8 + 4 * nn := by have := HRR.out; have := HR0.out; omega
          have hnb : nn ≤ 2038 := by omega
          have HSZ := Lib.hid hsz
          obtain ⟨hfr1, hfr2⟩ := from_ref (a := a) (b := b) (s := s) (by omega)
          have HF1 : Hid (fromB a b s = (bodyB a b (nextOf s) (numsOf s nn) && decide (bodyS a b (nextOf s) (numsOf s nn) = s))) := by
            show _ = _
            rw [hfr1, H1.out, HE.out, hnn]
            rw [decide_eq_true (show 8 ≤ s.size by omega), decide_eq_true (show s.size % 4 = 0 by omega), decide_eq_true hbg]
            rfl
          have HF2 : Hid (fromB a b s = true → cntOf s = nn) := fun h => by rw [hfr2 h, hnn]
          clear i8 g1 h8 hbg hsz hfr1 hfr2 hnn m4 mw n1 n2 w4 w8 hs hFail
          go_upto_region 7 with fail
          go_loopw [7, 8] (fun lv iv wr => ∃ (k o : Nat) (va : Option Addr) (vn vc : Nat), k ≤ nn ∧ Hid (o = 8 + 4 * k) ∧ o ≤ 8160 ∧ Hid (OwnO wr w2.heap.size (.slice va vn vc) (numsOf s k)) ∧ Hid (Below w2.heap.size w2 wr) ∧ lv = .slice va vn vc ∧ iv = .int .i64 (o : Int)) (fun _ iv _ => 9000 - (intOf iv).toNat)
          case atStart => exact ⟨0, 8, none, 0, 0, Nat.zero_le _, rfl, by omega, OwnO.nil _ _, Below.refl _ _, rfl, rfl⟩
          case round =>
            obtain ⟨k, o, va, vn, vc, hk, HO, hob, HV, HB, rfl, rfl⟩ := hrel
            by_cases hlt : k < nn
            case pos =>
              have ik : (o : Int) < (s.size : Int) := by have := HO.out; have := HSZ.out; omega
              have hk2 : decide (o < s.size) = true := decide_eq_true (by omega)
              obtain ⟨o4, ho4⟩ : ∃ x : Nat, x = o + 4 := ⟨_, rfl⟩
              have ew1 : (o : Int) + 4 = (o4 : Int) := by omega
              have ew2 : IntKind.i64.wrap (o4 : Int) = (o4 : Int) := IntWalk.i64_in _ (by omega)
              have hs4 : o4 ≤ s.size := by have := HO.out; have := HSZ.out; omega
              have hs5 : o ≤ o4 := by omega
              have HO4 := Lib.hid ho4
              have hsk : numsOf s (k + 1) = numsOf s k ++ [told (piece s o 4)] := by rw [numsOf_next, HO.out]
              obtain ⟨y, hy⟩ : ∃ y, told (piece s o 4) = y := ⟨_, rfl⟩
              have hyb : y < 4294967296 := by rw [← hy]; exact told4_lt s o
              have HNum : Hid (∀ W, Calls Try.prog 63 #[.string (s.extract o o4)] W fun e w' => e = .returned (.int .u32 (y : Int)) ∧ Below W.heap.size W w') := fun W => by
                have h := refNumber_at s o W (by omega)
                rw [hy, ← ho4] at h
                exact h
              rw [hy] at hsk
              have HSK := Lib.hid hsk
              have hk3 : k + 1 ≤ nn := by omega
              have hO5 : Hid (o4 = 8 + 4 * (k + 1)) := by show _ = _; have := HO.out; omega
              have ho5 : o4 ≤ 8160 := by have := HO.out; omega
              have hms : 9000 - o4 < 9000 - o := by omega
              clear ho4 hy hsk hlt
              go_upto_region 9 with fail
              with_reducible refine wp_region_list ?_
              (with_reducible refine wpList_plain rfl ?_); intro K hK; go_simp; (with_reducible refine hK _ _ ?_); clear hK K; try simp only [Act.put, nA, nB, nC]
              (with_reducible refine wpList_plain rfl ?_); intro K hK; go_simp; (with_reducible refine hK _ _ ?_); clear hK K; try simp only [Act.put, nA, nB, nC]
              (with_reducible refine wpList_plain rfl ?_); intro K hK; go_simp; (with_reducible refine hK _ _ ?_); clear hK K; try simp only [Act.put, nA, nB, nC]
              (with_reducible refine wpList_plain rfl ?_); intro K hK; go_simp; (with_reducible refine hK _ _ ?_); clear hK K; try simp only [Act.put, nA, nB, nC]
              (with_reducible refine wpList_plain rfl ?_); intro K hK; go_simp; (with_reducible refine hK _ _ ?_); clear hK K; try simp only [Act.put, nA, nB, nC]
              (with_reducible refine wpList_plain rfl ?_); intro K hK; go_simp; (with_reducible refine hK _ _ ?_); clear hK K; try simp only [Act.put, nA, nB, nC]
              with_reducible refine wpList_plain rfl ?_
              intro K hK
              go_simp
              refine (HNum.out wr).mono ?_; rintro e w3 ⟨rfl, b3⟩
              first | with_reducible refine hK _ _ ?_ | refine hK _ _ ?_
              clear hK K
              (try simp only [Act.put, nA, nB, nC])
              (with_reducible refine wpList_plain rfl ?_); intro K hK; go_simp; (with_reducible refine hK _ _ ?_); clear hK K; try simp only [Act.put, nA, nB, nC]
              have hbA : Below w3.heap.size w3 (w3.alloc (.cells #[.int .u32 (y : Int)] 27)) := (Below.refl _ _).alloc (Nat.le_refl _) _
              have hV3 := HV.out.below b3 (fun g hg => (HV.out.lt g hg).2)
              have hVA := hV3.below hbA (fun g hg => (hV3.lt g hg).2)
              have hNw : N ≤ w3.heap.size := by have h1 := HB.out.size; have := b3.size; omega
              refine wpList_appO _ rfl _ _ rfl w2.heap.size (.slice va vn vc) (numsOf s k) rfl hVA _ rfl [y] (src_one w3 y _) (by rw [numsOf_len]; simp only [List.length_singleton]; omega) (by have := hbA.size; have := HB.out.size; have := b3.size; omega) ?_
              intro v5 w5 o5 m5 n5
              rw [← HSK.out] at o5
              obtain ⟨va5, vc5, hv5, hx4, hx5, hx6⟩ := o5.shape
              clear hx4 hx5 hx6
              rw [numsOf_len] at hv5
              subst hv5
              (try simp only [Act.put, nA, nB, nC])
              (with_reducible refine wpList_plain rfl ?_); intro K hK; go_simp; (with_reducible refine hK _ _ ?_); clear hK K; try simp only [Act.put, nA, nB, nC]
              have O5 := Lib.hid o5
              have HB5 : Hid (Below w2.heap.size w2 w5) := (HB.out.trans (b3.mono HB.out.size)).trans ((hbA.mono (by have := HB.out.size; have := b3.size; omega)).trans (m5.below (n := w2.heap.size) (fun g hg e => by have := (HV.out.lt g e).1; omega) (by have := HB.out.size; have := b3.size; have := hbA.size; omega)))
              clear o5 m5 n5 hbA hV3 hVA b3 HV HB HNum ik hk2 hs4 hs5 HSK
              go_wp2_with fail
              exact ⟨⟨k + 1, o4, va5, k + 1, vc5, hk3, hO5, ho5, O5, HB5, rfl, rfl⟩, by simp only [intOf, Int.toNat_natCast]; exact hms⟩
            case neg =>
              have ik : ¬ (o : Int) < (s.size : Int) := by have := HO.out; have := HSZ.out; omega
              have hk2 : decide (o < s.size) = false := decide_eq_false (by have := HO.out; have := HSZ.out; omega)
              obtain rfl : k = nn := by omega
              clear hlt hk hob
              have hNr : N < wr.heap.size := Nat.lt_of_lt_of_le hz2 HB.out.size
              have HBN : Hid (Below N w wr) := B2.out.trans (HB.out.mono (by omega))
              have Er := heap_below E2.out HB.out hz2
              have c0 := heap_cell Er (o := 0)
              have c1 := heap_cell Er (o := 1)
              have HVN : Hid (OwnO wr N (.slice va vn vc) (numsOf s k)) := HV.out.mono (by omega)
              have HNum : Hid (∀ W, Calls Try.prog 63 #[.string (s.extract 0 4)] W fun e w' => e = .returned (.int .u32 (nextOf s : Int)) ∧ Below W.heap.size W w') := fun W => refNumber_at s 0 W (by have := HSZ.out; omega)
              obtain ⟨nx, hnx⟩ : ∃ x, nextOf s = x := ⟨_, rfl⟩
              have HNX := Lib.hid hnx
              have hnxb : nx < 4294967296 := by rw [← hnx]; exact told4_lt s 0
              obtain ⟨bS, hbS⟩ : ∃ x, bodyS a b nx (numsOf s k) = x := ⟨_, rfl⟩
              obtain ⟨bE, hbE⟩ : ∃ x, bodyE a b nx (numsOf s k) = x := ⟨_, rfl⟩
              have HBS := Lib.hid hbS
              have HBE := Lib.hid hbE
              have hBody : Hid (∀ W, URow W (.slice va vn vc) (numsOf s k) → Calls Try.prog 21 #[.agg #[.int .i64 a, .int .i64 b], .int .u32 (nx : Int), .slice va vn vc] W fun e w' => e = .returned (.tuple #[.string bS, .int .i64 bE]) ∧ Below W.heap.size W w') := fun W hW => by
                have h := refBody_any a b nx (.slice va vn vc) (numsOf s k) W hnxb hW
                unfold BodyPost at h
                rw [hbS, hbE] at h
                exact h
              rw [hnx] at HNum
              clear hnx hbS hbE HV HB Er
              have h04 : (4 : Int) ≤ (s.size : Int) := by have := HSZ.out; omega
              go_upto_region 10 with fail
              clear ik hk2
              refine wp_region_held_drew (S := fun W => W.cell? ⟨N, 0, none⟩ = some (.int .i64 a) ∧ W.cell? ⟨N, 1, none⟩ = some (.int .i64 b)) (by kernel_rfl) ⟨c0, c1⟩ (fun hHeld => ?_)
              refine' wpAnyH_take (i := 0) (oi := ⟨some 48, .load 23 (.tmp 2), 23, "ref.go:77", #[], none⟩) rfl (by kernel_rfl) (by kernel_rfl) (by kernel_rfl) (fun _ _ _ h => h) (Or.inl ⟨by rfl, _⟩) (by assumption) _
              rotate_left
              · (intro wS hSw; (try dsimp only at hSw); go_simp; try with_reducible rfl)
              try simp only [Act.put, nA, nB, nC]
              refine' wpAnyH_take (i := 1) (oi := ⟨some 49, .move (.tmp 1), 9, "ref.go:77", #[], none⟩) rfl (by kernel_rfl) (by kernel_rfl) (by kernel_rfl) (fun _ _ _ h => h) (Or.inl ⟨by rfl, _⟩) (by assumption) _
              rotate_left
              · (intro wS hSw; (try dsimp only at hSw); go_simp; try with_reducible rfl)
              try simp only [Act.put, nA, nB, nC]
              refine' wpAnyH_take (i := 2) (oi := ⟨some 50, .slice 9 (.tmp 49) none (some (.const (.int .i64 4))) none, 9, "ref.go:77", #[⟨1, .data⟩], none⟩) rfl (by kernel_rfl) (by kernel_rfl) (by kernel_rfl) (fun _ _ _ h => h) (Or.inl ⟨by rfl, _⟩) (by assumption) _
              rotate_left
              · (intro wS hSw; (try dsimp only at hSw); go_simp; try with_reducible rfl)
              try simp only [Act.put, nA, nB, nC]
              refine' wpAnyH_take (i := 4) (oi := ⟨some 52, .move (.tmp 7), 28, "ref.go:77", #[], none⟩) rfl (by kernel_rfl) (by kernel_rfl) (by kernel_rfl) (fun _ _ _ h => h) (Or.inl ⟨by rfl, _⟩) (by assumption) _
              rotate_left
              · (intro wS hSw; (try dsimp only at hSw); go_simp; try with_reducible rfl)
              try simp only [Act.put, nA, nB, nC]
              refine wpAnyH_ready (rs := [3]) (by kernel_rfl) (by simp) ?_
              refine AllReadyH.cons (o := ⟨some 51, .call ⟨.value (.func 63), #[.tmp 50], #[9]⟩, 27, "ref.go:77", #[⟨2, .data⟩], none⟩) rfl (fun K hK => ?_) AllReadyH.nil
              go_simp
              (refine (HNum.out _).mono ?_; rintro e w3 ⟨rfl, b3⟩)
              refine hK.out _ _ ?_ (fun hHeld => ?_)
              · exact ⟨(b3.cell (p := ⟨N, 0, none⟩) hNr).trans hHeld.1, (b3.cell (p := ⟨N, 1, none⟩) hNr).trans hHeld.2⟩
              clear hK K
              try simp only [Act.put, nA, nB, nC]
              have b3' : Below wr.heap.size wr w3 := (Below.refl _ _).drew.trans b3
              have hz3 : N < w3.heap.size := Nat.lt_of_lt_of_le hNr b3'.size
              have O3 := Lib.hid (HVN.out.below b3' (fun g hg => (HVN.out.lt g hg).2))
              have B3 : Hid (Below N w w3) := HBN.out.trans (b3'.mono (by omega))
              refine wpAnyH_ready (rs := [5]) (by kernel_rfl) (by simp) ?_
              refine AllReadyH.cons (o := ⟨some 53, .call ⟨.value (.func 21), #[.tmp 48, .tmp 51, .tmp 52], #[23, 27, 28]⟩, 29, "ref.go:77", #[⟨0, .data⟩, ⟨3, .data⟩, ⟨4, .data⟩, ⟨3, .chain⟩], none⟩) rfl (fun K hK => ?_) AllReadyH.nil
              go_simp
              (refine (hBody.out _ (O3.out.row (numsOf_all s k))).mono ?_; rintro e w4 ⟨rfl, b4⟩)
              refine hK.out _ _ ?_ (fun hHeld => ?_)
              · exact ⟨(b4.cell (p := ⟨N, 0, none⟩) hz3).trans hHeld.1, (b4.cell (p := ⟨N, 1, none⟩) hz3).trans hHeld.2⟩
              clear hK K
              try simp only [Act.put, nA, nB, nC]
              refine' wpAnyH_take (i := 6) (oi := ⟨some 47, .move (.tmp 53), 29, "ref.go:77", #[⟨5, .data⟩], none⟩) rfl (by kernel_rfl) (by kernel_rfl) (by kernel_rfl) (fun _ _ _ h => h) (Or.inl ⟨by rfl, _⟩) (by assumption) _
              rotate_left
              · (intro wS hSw; (try dsimp only at hSw); go_simp; try with_reducible rfl)
              try simp only [Act.put, nA, nB, nC]
              refine' wpAnyH_take (i := 7) (oi := ⟨some 54, .extract (.tmp 47) 0, 9, "ref.go:77", #[⟨6, .data⟩], none⟩) rfl (by kernel_rfl) (by kernel_rfl) (by kernel_rfl) (fun _ _ _ h => h) (Or.inl ⟨by rfl, _⟩) (by assumption) _
              rotate_left
              · (intro wS hSw; (try dsimp only at hSw); go_simp; try with_reducible rfl)
              try simp only [Act.put, nA, nB, nC]
              refine' wpAnyH_take (i := 8) (oi := { dst := Option.some 55, op := Op.extract (Operand.tmp 47) 1, type := 3, pos := "ref.go:77", after := #[{ on := 6, ground := Ground.data }, { on := 9, ground := Ground.gcOnly Departure.lateStores }], guard := Option.none }) rfl (by kernel_rfl) (by kernel_rfl) (by kernel_rfl) (fun _ _ _ h => h) (Or.inl ⟨by rfl, _⟩) (by assumption) _
              rotate_left
              · (intro wS hSw; (try dsimp only at hSw); go_simp; try with_reducible rfl)
              try simp only [Act.put, nA, nB, nC]
              refine' wpAnyH_take (i := 9) (oi := { dst := Option.some 9, op := Op.assign (Operand.tmp 54), type := 9, pos := "ref.go:77", after := #[{ on := 7, ground := Ground.data }, { on := 5, ground := Ground.chain }, { on := 0, ground := Ground.phase }, { on := 1, ground := Ground.phase }, { on := 2, ground := Ground.phase }, { on := 3, ground := Ground.phase }, { on := 4, ground := Ground.phase }, { on := 5, ground := Ground.phase }, { on := 6, ground := Ground.phase }, { on := 7, ground := Ground.phase }, { on := 8, ground := Ground.textOnly Departure.lateStores }], guard := Option.none }) rfl (by kernel_rfl) (by kernel_rfl) (by kernel_rfl) (fun _ _ _ h => h) (Or.inl ⟨by rfl, _⟩) (by assumption) _
              rotate_left
              · (intro wS hSw; (try dsimp only at hSw); go_simp; try with_reducible rfl)
              try simp only [Act.put, nA, nB, nC]
              refine' wpAnyH_take (i := 10) (oi := ⟨some 10, .assign (.tmp 55), 3, "ref.go:77", #[⟨8, .data⟩, ⟨9, .chain⟩, ⟨0, .phase⟩, ⟨1, .phase⟩, ⟨2, .phase⟩, ⟨3, .phase⟩, ⟨4, .phase⟩, ⟨5, .phase⟩, ⟨6, .phase⟩, ⟨7, .phase⟩, ⟨8, .phase⟩, ⟨9, .phase⟩], none⟩) rfl (by kernel_rfl) (by kernel_rfl) (by kernel_rfl) (fun _ _ _ h => h) (Or.inl ⟨by rfl, _⟩) (by assumption) _
              rotate_left
              · (intro wS hSw; (try dsimp only at hSw); go_simp; try with_reducible rfl)
              try simp only [Act.put, nA, nB, nC]
              refine wpAnyH_done (by kernel_rfl) ?_ _
              have O4 := Lib.hid (O3.out.below b4 (fun g hg => (O3.out.lt g hg).2))
              have B4 : Hid (Below N w w4) := B3.out.trans (b4.mono (by omega))
              have hN4 : N < w4.heap.size := Nat.lt_of_lt_of_le hz3 b4.size
              clear b3 b3' b4 O3 B3 hHeld hBody HVN HBN c0 c1 hNr hz3 HNum
              by_cases hbb : bodyB a b nx (numsOf s k) = true
              case neg =>
                have hbf : bodyB a b nx (numsOf s k) = false := by simpa using hbb
                have he2 : bE = 2 := by rw [← HBE.out]; exact (body_no hbf).2
                have hfF : fromB a b s = false := by rw [HF1.out, HNX.out, hbf]; rfl
                have hf := Lib.hid (HNo.out w4 H1.out hfF B4.out)
                subst he2
                clear hbb hbf hfF h04
                go_wp2_with fail
                go_ret3
                exact hf.out
              case pos =>
                have he0 : bE = 0 := by rw [← HBE.out]; exact (body_yes hbb).2
                subst he0
                by_cases hse : bS = s
                case neg =>
                  have hs1 : (bS.toList == s.toList) = false := by
                    rw [beq_eq_false_iff_ne]
                    intro h
                    apply hse
                    rw [Go.ByteArray.toList_eq, Go.ByteArray.toList_eq] at h
                    apply ByteArray.ext
                    exact Array.ext' h
                  have hfF : fromB a b s = false := by rw [HF1.out, HNX.out, HBS.out, hbb, decide_eq_false hse]; rfl
                  have hf := Lib.hid (HNo.out w4 H1.out hfF B4.out)
                  clear hbb hse hfF h04
                  go_wp2_with fail
                  go_ret3
                  exact hf.out
                case pos =>
                  have hs1 : (bS.toList == s.toList) = true := by rw [hse]; exact beq_self_eq_true _
                  have hfT : fromB a b s = true := by rw [HF1.out, HNX.out, HBS.out, hbb, decide_eq_true hse]; rfl
                  have HNum : Hid (∀ W, Calls Try.prog 63 #[.string (s.extract 0 4)] W fun e w' => e = .returned (.int .u32 (nx : Int)) ∧ Below W.heap.size W w') := fun W => by
                    have h := refNumber_at s 0 W (by omega)
                    have e : told (piece s 0 4) = nx := HNX.out
                    rw [e] at h
                    exact h
                  have HFT := Lib.hid hfT
                  clear hbb hse hfT
                  go_upto_region 13 with fail
                  with_reducible refine wp_region_list ?_
                  (with_reducible refine wpList_plain rfl ?_); intro K hK; go_simp; (with_reducible refine hK _ _ ?_); clear hK K; try simp only [Act.put, nA, nB, nC]
                  (with_reducible refine wpList_plain rfl ?_); intro K hK; go_simp; (with_reducible refine hK _ _ ?_); clear hK K; try simp only [Act.put, nA, nB, nC]
                  with_reducible refine wpList_plain rfl ?_
                  intro K hK
                  go_simp
                  refine (HNum.out w4).mono ?_; rintro e w5 ⟨rfl, b5⟩
                  first | with_reducible refine hK _ _ ?_ | refine hK _ _ ?_
                  clear hK K
                  (try simp only [Act.put, nA, nB, nC])
                  (with_reducible refine wpList_plain rfl ?_); intro K hK; go_simp; (with_reducible refine hK _ _ ?_); clear hK K; try simp only [Act.put, nA, nB, nC]
                  (with_reducible refine wpList_plain rfl ?_); intro K hK; go_simp; (with_reducible refine hK _ _ ?_); clear hK K; try simp only [Act.put, nA, nB, nC]
                  (with_reducible refine wpList_plain rfl ?_); intro K hK; go_simp; (with_reducible refine hK _ _ ?_); clear hK K; try simp only [Act.put, nA, nB, nC]
                  (with_reducible refine wpList_plain rfl ?_); intro K hK; go_simp; (with_reducible refine hK _ _ ?_); clear hK K; try simp only [Act.put, nA, nB, nC]
                  have hf : R (.returned (.tuple #[.int .u32 (nx : Int), .slice va vn vc, .int .i64 0])) w5 := by
                    have h := HOk.out w5 (.slice va vn vc) HFT.out (by rw [HF2.out HFT.out]; exact O4.out.below b5 (fun g hg => (O4.out.lt g hg).2)) (B4.out.trans (b5.mono (by omega)))
                    rw [HNX.out] at h
                    exact h
                  have HF := Lib.hid hf
                  clear hf b5 h04 hs1
                  go_wp2_with fail
                  go_ret3
                  exact HF.out
end Go.Proofs.Ytkngmnfgdlnddaa

