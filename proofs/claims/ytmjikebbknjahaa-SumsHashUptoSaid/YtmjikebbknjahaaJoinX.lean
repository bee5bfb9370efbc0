/-
  The walks of sums.Join and the reference's through, noughts, Join.
-/
import Derived.Test.YtmjikebbknjahaaJoinW
namespace Go.Proofs.Ytmjikebbknjahaa
open Go.RowKit Go.Lib Hw
set_option linter.unusedVariables false

theorem and1_i64 (n : Nat) (hn : n ≤ 9223372036854775807) : bits .and .i64 (n : Int) 1 = ((n % 2 : Nat) : Int) := by
  simp only [bits, IntKind.bits]
  have h1 : (BitVec.ofInt 64 (n : Int)) = BitVec.ofNat 64 n := by apply BitVec.eq_of_toNat_eq; simp
  have h2 : (BitVec.ofInt 64 1) = 1#64 := rfl
  rw [h1, h2]
  have h3 : (BitVec.ofNat 64 n &&& 1#64).toNat = n % 2 := by
    rw [BitVec.toNat_and, BitVec.toNat_ofNat]
    show n % 2 ^ 64 &&& 1 = n % 2
    rw [Nat.and_one_is_mod]; omega
  show IntKind.i64.wrap ((BitVec.ofNat 64 n &&& 1#64).toNat : Int) = _
  rw [h3]
  exact IntWalk.i64_in _ (by omega)
def joinV (a b : BitVec 32) (n : Nat) : BitVec 32 := crcN (8 * n) a ^^^ b

set_option maxHeartbeats 1000000 in
theorem Join_neg (a b n : Int) (w : World) (hn : n < 0) : Calls Try.prog 29 #[.int .u32 a, .int .u32 b, .int .i64 n] w fun e w' => e = .returned (.tuple #[.int .u32 0, .int .i64 2]) ∧ w = w' := by
  go_enter Try.func29, Try.ntmps29
  go_wp2_with fail
  go_ret2
  exact ⟨rfl, rfl⟩

set_option maxHeartbeats 2000000 in
theorem Join_pos (A B : BitVec 32) (n : Nat) (w : World) (hn : n ≤ 9223372036854775807) : Calls Try.prog 29 #[.int .u32 (toU A), .int .u32 (toU B), .int .i64 (n : Int)] w fun e w' => e = .returned (.tuple #[.int .u32 (toU (joinV A B n)), .int .i64 0]) ∧ Below w.heap.size w w' := by
  have hn0 : (0 : Int) ≤ n := by omega
  have hd0 : decide ((n : Int) < 0) = false := by simp
  go_enter Try.func29, Try.ntmps29
  go_upto_region 4 with (refine wpList_allocB rfl 90 rfl w.heap.size rfl _ zero_M ?_; intro w1 h1 hB1 hz1)
  have HO : Hid (MB w1 w.heap.size (rowU (matF (crcN 8)) 0)) := h1
  have HB := Lib.hid hB1
  clear h1 hB1 hz1
  try simp only [Act.put, List.setIfInBounds_toArray, List.set_cons_zero, List.set_cons_succ]
  go_wp2_with fail
  go_loopw [15] (fun i wr => ∃ (k : Nat), k ≤ 32 ∧ Hid (MB wr w.heap.size (rowU (matF (crcN 8)) k)) ∧ Hid (Below w.heap.size w wr) ∧ i = .int .i64 (k : Int)) (fun i _ => 32 - (intOf i).toNat)
  case atStart => exact ⟨0, by omega, HO, HB, rfl⟩
  case round =>
    clear HO HB
    obtain ⟨k, hk, HO, HB, rfl⟩ := hrel
    by_cases hlt : k < 32
    · go_wp2_with fail
      go_loopw [10, 20] (fun t i wr => ∃ (j : Nat) (X : BitVec 32), j ≤ 8 ∧ Hid (X = crcN j (1#32 <<< k)) ∧ Hid (MB wr w.heap.size (rowU (matF (crcN 8)) k)) ∧ Hid (Below w.heap.size w wr) ∧ i = .int .i64 (j : Int) ∧ t = .int .u32 (toU X)) (fun _ i _ => 8 - (intOf i).toNat)
      case atStart => exact ⟨0, 1#32 <<< k, by omega, rfl, HO, HB, rfl, by rw [shl1]⟩
      case round =>
        clear HO HB
        obtain ⟨j, Y, hj, HY, HO, HB, rfl, rfl⟩ := hrel
        by_cases hl8 : j < 8
        · have hy := toU_bd Y
          have ha : bits .and .u32 (toU Y) 1 = toU (Y &&& 1#32) := bits_and32 Y 1#32
          have ho := and_one_eq Y
          have hp : bits .xor .u32 (toU Y / 2) 3988292384 = toU ((Y >>> 1) ^^^ crcPoly) := by rw [toU_half, toU_poly, bits_xor32]
          cases hbit : Y.getLsbD 0
          · rw [hbit] at ho
            have hF : Hid (crcF Y = Y >>> 1) := by show crcF Y = _; unfold crcF; rw [hbit]; rfl
            clear hbit
            go_wp2_with fail
            refine ⟨⟨j + 1, Y >>> 1, by omega, by show _ = crcF (crcN j _); rw [← HY.out, hF.out], HO, HB, by go_num, by rw [toU_half]⟩, by simp [intOf]; omega⟩
          · rw [hbit] at ho
            have hF : Hid (crcF Y = (Y >>> 1) ^^^ crcPoly) := by show crcF Y = _; unfold crcF; rw [hbit]; rfl
            clear hbit
            go_wp2_with fail
            refine ⟨⟨j + 1, (Y >>> 1) ^^^ crcPoly, by omega, by show _ = crcF (crcN j _); rw [← HY.out, hF.out], HO, HB, by go_num, rfl⟩, by simp [intOf]; omega⟩
        · obtain rfl : j = 8 := by omega
          have c1 := MB.cell HO.out k _ rfl (by rw [rowU_length _ _ (matF_length _) (by omega)]; exact hlt)
          have f1 := heap_free HO.out k
          go_wp2_with fail
          refine ⟨⟨k + 1, by omega, ?_, HB.out.setCell (by exact Nat.le_refl _) _, by go_num⟩, by simp [intOf]; omega⟩
          have h1 := HO.out.set k Y
          rw [rowU_succ _ _ _ (matF_length _) hlt ((matF_get _ k hlt).trans HY.out.symm)] at h1
          exact h1
    · obtain rfl : k = 32 := by omega
      have HM : Hid (MB wr w.heap.size (matF (crcN 8))) := by have := HO.out; rw [rowU_all _ (matF_length _)] at this; exact this
      clear HO
      go_wp2_with fail
      rw [show ((32 : Nat) : Int) = 32 from rfl]
      go_loopw [0, 2, 12] (fun a q m wr => ∃ (E N b : Nat) (X : BitVec 32), N ≤ 9223372036854775807 ∧ Hid (crcN (E * N) X = crcN (8 * n) A) ∧ Hid (MB wr b (matF (crcN E))) ∧ Hid (Below w.heap.size w wr) ∧ a = .int .u32 (toU X) ∧ q = .int .i64 (N : Int) ∧ m = .pointer (some ⟨b, 0, none⟩)) (fun _ q _ _ => (intOf q).toNat)
      case atStart => exact ⟨8, n, w.heap.size, A, by omega, rfl, HM, HB, rfl, rfl, rfl⟩
      case round =>
        clear HM HB
        obtain ⟨E, N, b, X, hN, HT, HM, HB, rfl, rfl, rfl⟩ := hrel
        by_cases hp : 0 < N
        · have h1 := and1_i64 N hN
          have hbl := heap_lt HM.out
          have HM' := HM.out
          cases hodd : (N % 2 == 1)
          · have h2 : (((N % 2 : Nat) : Int) == 1) = false := by rw [beq_eq_false_iff_ne] at hodd ⊢; omega
            have HT2 : Hid (crcN (2 * E * (N / 2)) X = crcN (8 * n) A) := by
              show _ = _
              rw [← HT.out]
              have e : E * N = 2 * E * (N / 2) := by
                have : N = 2 * (N / 2) := by rw [beq_eq_false_iff_ne] at hodd; omega
                conv => lhs; rw [this]
                rw [← Nat.mul_assoc, Nat.mul_comm E 2]
              rw [e]
            clear hodd
            go_wp2_with (go_at_call 67; refine (twice_any _ _ _ HM' (crcN_lin E)).mono ?_; rintro e w3 ⟨rfl, hm3, hb3⟩)
            refine ⟨⟨2 * E, N / 2, wr.heap.size, X, by omega, HT2, by rw [← crc_twice]; exact hm3, HB.out.trans (hb3.mono HB.out.size), rfl, by go_num, rfl⟩, by simp [intOf]; omega⟩
          · have h2 : (((N % 2 : Nat) : Int) == 1) = true := by rw [beq_iff_eq] at hodd ⊢; omega
            have HT2 : Hid (crcN (2 * E * (N / 2)) (crcN E X) = crcN (8 * n) A) := by
              show _ = _
              rw [← HT.out, ← crcN_add]
              have e : E * N = 2 * E * (N / 2) + E := by
                have : N = 2 * (N / 2) + 1 := by rw [beq_iff_eq] at hodd; omega
                conv => lhs; rw [this]
                rw [Nat.mul_add, Nat.mul_one, ← Nat.mul_assoc, Nat.mul_comm E 2]
              rw [e]
            have HT3 := Lib.hid (thr_all (crcN_lin E) X)
            clear hodd
            go_wp2_with (first
              | (go_at_call 66; refine (on_any _ _ _ _ HM' (matF_length _)).mono ?_; rintro e w2 ⟨rfl, hb2⟩; rw [HT3.out]; have HM2 := MB.below HM' hb2 hbl; have hz2 := hb2.size)
              | (go_at_call 67; refine (twice_any _ _ _ HM2 (crcN_lin E)).mono ?_; rintro e w3 ⟨rfl, hm3, hb3⟩))
            refine ⟨⟨2 * E, N / 2, w2.heap.size, crcN E X, by omega, HT2, by rw [← crc_twice]; exact hm3, (HB.out.trans (hb2.mono HB.out.size)).trans (hb3.mono (Nat.le_trans HB.out.size hz2)), rfl, by go_num, rfl⟩, by simp [intOf]; omega⟩
        · obtain rfl : N = 0 := by omega
          have hx := bits_xor32 X B
          go_wp2_with fail
          go_ret2
          refine ⟨?_, HB.out⟩
          have := HT.out
          rw [Nat.mul_zero] at this
          rw [joinV, ← this]; rfl

set_option maxHeartbeats 1000000 in
theorem through_any (v : Value) (Bs : Nat) (m : List (BitVec 32)) (V : BitVec 32) (w : World) (hv : OwnU w Bs v m) (hl : m.length = 32) :
    Calls Try.prog 68 #[v, .int .u32 (toU V)] w fun e w' => e = .returned (.int .u32 (toU (thr m V 32))) ∧ w = w' := by
  obtain ⟨g, cap, rfl, _, _⟩ := hv.form (by omega)
  rw [hl] at hv
  have HV := Lib.hid hv
  clear hv
  rw [hl]
  go_enter Try.func68, Try.ntmps68
  go_wp2_with fail
  go_loop [5, 6] (fun t i => ∃ (k : Nat) (X : BitVec 32), k ≤ 32 ∧ Hid (X = thr m V k) ∧ i = .int .i64 (k : Int) ∧ t = .int .u32 (toU X)) (fun _ i => 32 - (intOf i).toNat)
  case atStart => exact ⟨0, 0#32, by omega, rfl, rfl, rfl⟩
  case round =>
    obtain ⟨k, X, hk, HX, rfl, rfl⟩ := hrel
    by_cases hlt : k < 32
    · have ck := OwnU.cell HV.out k _ rfl (by omega)
      obtain ⟨M, hM⟩ : ∃ M, m.getD k 0 = M := ⟨_, rfl⟩
      rw [hM] at ck
      have HMk := Lib.hid hM
      clear hM
      have hxb := toU_bd V
      have hb := bits_and32 (V >>> k) 1#32
      rw [toU_shift] at hb
      have ha : bits .and .u32 (toU V / 2 ^ k) 1 = toU ((V >>> k) &&& 1#32) := hb
      have hbit := bit_at V k
      have hx := bits_xor32 X M
      clear hb
      cases hv : V.getLsbD k
      · rw [hv] at hbit
        have Hv := Lib.hid hv
        clear hv
        go_wp2_with fail
        refine ⟨⟨k + 1, X, by omega, ?_, by go_num, rfl⟩, by simp [intOf]; omega⟩
        show _ = thr m V (k + 1)
        simp only [thr]
        rw [Hv.out, HX.out]; rfl
      · rw [hv] at hbit
        have Hv := Lib.hid hv
        clear hv
        go_wp2_with fail
        refine ⟨⟨k + 1, X ^^^ M, by omega, ?_, by go_num, rfl⟩, by simp [intOf]; omega⟩
        show _ = thr m V (k + 1)
        simp only [thr]
        rw [Hv.out, ← HX.out, HMk.out]; rfl
    · obtain rfl : k = 32 := by omega
      go_wp2_with fail
      go_ret
      exact ⟨by rw [HX.out]; rfl, rfl⟩

/-- a list of 32 registers that the call made -/
def NPost (w : World) (f : BitVec 32 → BitVec 32) (e : Ending) (w' : World) : Prop := ∃ v, e = .returned v ∧ OwnU w' w.heap.size v (matF f) ∧ Below w.heap.size w w'
theorem matF_take_succ (f : BitVec 32 → BitVec 32) (k : Nat) (hk : k < 32) (x : BitVec 32) (hx : x = f (1#32 <<< k)) : (matF f).take (k + 1) = (matF f).take k ++ [x] := by
  have hl : k < (matF f).length := by rw [matF_length]; exact hk
  rw [List.take_succ_eq_append_getElem hl, hx, ← matF_get f k hk]
  simp [List.getD, List.getElem?_eq_getElem hl]
theorem bit0 (X : BitVec 32) : crcBit X 0#32 = crcF X := by rw [crcBit_eq _ _ (.inl rfl), BitVec.xor_zero]

theorem nstep (n : Nat) (x : BitVec 32) (T : BitVec 32) (hT : T = crcN (8 * (n / 2)) (crcN (8 * (n / 2)) x)) : (n % 2 = 0 → T = crcN (8 * n) x) ∧ (n % 2 = 1 → crcN 8 T = crcN (8 * n) x) := by
  subst hT
  rw [← crcN_add]
  constructor
  · intro h
    have e : 8 * (n / 2) + 8 * (n / 2) = 8 * n := by omega
    rw [e]
  · intro h
    rw [← crcN_add]
    have e : 8 + (8 * (n / 2) + 8 * (n / 2)) = 8 * n := by omega
    rw [e]

set_option maxHeartbeats 4000000 in
theorem noughts_any (n : Nat) : ∀ (w : World), n ≤ 9223372036854775807 → Calls Try.prog 69 #[.int .i64 (n : Int)] w (NPost w (crcN (8 * n))) := by
  induction n using Nat.strongRecOn with
  | ind n ih =>
    intro w hn
    have HI := Lib.hid ih
    clear ih
    obtain ⟨c, hc⟩ : ∃ c, (if 0 < n then 8 else 0) = c := ⟨_, rfl⟩
    have hc8 : c ≤ 8 := by rw [← hc]; split <;> omega
    have HC := Lib.hid hc
    clear hc
    go_enter Try.func69, Try.ntmps69
    go_wp2_with fail
    go_loopw [3, 4] (fun v i wr => ∃ (k : Nat), k ≤ 32 ∧ Hid (OwnU wr w.heap.size v ((matF (crcN c)).take k)) ∧ Hid (Below w.heap.size w wr) ∧ i = .int .i64 (k : Int)) (fun _ i _ => 32 - (intOf i).toNat)
    case atStart => exact ⟨0, by omega, OwnU.nil _ _, Below.refl _ _, rfl⟩
    case round =>
      obtain ⟨k, hk, HV, HB, rfl⟩ := hrel
      by_cases hlt : k < 32
      · have hlk : decide ((k : Int) < 32) = true := by simp; omega
        go_wp2_with fail
        rw [shl1]
        go_loopw [5, 6] (fun t i wi => ∃ (j : Nat) (X : BitVec 32), j ≤ c ∧ Hid (X = crcN j (1#32 <<< k)) ∧ Hid (OwnU wi w.heap.size u3 ((matF (crcN c)).take k)) ∧ Hid (Below w.heap.size w wi) ∧ i = .int .i64 (j : Int) ∧ t = .int .u32 (toU X)) (fun _ i _ => c - (intOf i).toNat)
        case atStart => exact ⟨0, 1#32 <<< k, by omega, rfl, HV, HB, rfl, rfl⟩
        case round =>
          clear HV HB
          obtain ⟨j, Y, hj, HY, HV, HB, rfl, rfl⟩ := hrel
          by_cases hjc : j < c
          · have hn0 : 0 < n := by have := HC.out; split at this <;> omega
            have hj8 : j < 8 := by omega
            have hd1 : decide ((j : Int) < 8) = true := by simp; omega
            have hd2 : decide ((0 : Int) < n) = true := by simp; omega
            go_wp2_with (go_at_call 73; refine (bit_any _ _ _ (toU_bd Y) (.inl rfl)).mono ?_; rintro e w' ⟨rfl, rfl⟩)
            refine ⟨⟨j + 1, crcF Y, by omega, by show _ = crcF (crcN j _); rw [← HY.out], HV, HB, by go_num, by rw [ofInt_toU]; exact congrArg (fun z => Value.int .u32 (toU z)) (bit0 Y)⟩, by simp [intOf]; omega⟩
          · obtain rfl : j = c := by omega
            have hz := HB.out.size
            have hl : ((matF (crcN j)).take k).length ≤ 1000000 := by rw [List.length_take, matF_length]; omega
            have hfin := matF_take_succ (crcN j) k hlt Y HY.out
            obtain ⟨xs, hxs⟩ : ∃ xs, (matF (crcN j)).take k = xs := ⟨_, rfl⟩
            rw [hxs] at HV hl hfin
            have Hfin := Lib.hid hfin
            clear hfin hxs
            by_cases hn0 : 0 < n
            · obtain rfl : j = 8 := by have := HC.out; rw [if_pos hn0] at this; omega
              go_wp2_with (at_builtin; refine wpList_appU wr 25 Y rfl _ _ rfl w.heap.size u3 xs rfl HV.out _ rfl hl hz ?_; intro v2 w2 hv2 hb2)
              refine ⟨⟨k + 1, by omega, by rw [Hfin.out]; exact hv2, HB.out.trans hb2, by go_num⟩, by simp [intOf]; omega⟩
            · obtain rfl : j = 0 := by have := HC.out; rw [if_neg hn0] at this; omega
              have hd2 : decide ((0 : Int) < n) = false := by simp; omega
              go_wp2_with (at_builtin; refine wpList_appU wr 25 Y rfl _ _ rfl w.heap.size u3 xs rfl HV.out _ rfl hl hz ?_; intro v2 w2 hv2 hb2)
              refine ⟨⟨k + 1, by omega, by rw [Hfin.out]; exact hv2, HB.out.trans hb2, by go_num⟩, by simp [intOf]; omega⟩
      · obtain rfl : k = 32 := by omega
        have HV' : Hid (OwnU wr w.heap.size u3 (matF (crcN c))) := by have := HV.out; rw [List.take_of_length_le (by rw [matF_length]; omega)] at this; exact this
        clear HV
        rw [show ((32 : Nat) : Int) = 32 from rfl]
        by_cases hn1 : n ≤ 1
        · have Hce : Hid (c = 8 * n) := by have := HC.out; show _ = _; split at this <;> omega
          go_wp2_with fail
          go_ret
          refine ⟨_, rfl, ?_, HB.out⟩
          rw [← Hce.out]
          exact HV'.out
        · have hn0 : 0 < n := by omega
          obtain rfl : c = 8 := by have := HC.out; rw [if_pos hn0] at this; omega
          have hq : n / 2 < n := by omega
          have hd3 : decide ((n : Int) ≤ 1) = false := by simp; omega
          go_wp2_with (go_at_call 69; refine (HI.out (n / 2) hq _ (by omega)).mono ?_; rintro e w2 ⟨v2, rfl, hv2, hb2⟩)
          have HL := Lib.hid (OwnU.below HV'.out hb2 (fun g hg => (HV'.out.lt g hg).2))
          have HH := Lib.hid hv2
          have HB2 := Lib.hid (HB.out.trans (hb2.mono HB.out.size))
          clear hv2 hb2 HV' HB
          go_loopw [8, 9] (fun v i wr => ∃ (k : Nat), k ≤ 32 ∧ Hid (OwnU wr w2.heap.size v ((matF (crcN (8 * n))).take k)) ∧ Hid (Below w2.heap.size w2 wr) ∧ i = .int .i64 (k : Int)) (fun _ i _ => 32 - (intOf i).toNat)
          case atStart => exact ⟨0, by omega, OwnU.nil _ _, Below.refl _ _, rfl⟩
          case round =>
            obtain ⟨k, hk, HV, HB, rfl⟩ := hrel
            by_cases hlt : k < 32
            · have hl2 := HL.out.below HB.out (fun g hg => (HL.out.lt g hg).2)
              have hh2 := HH.out.below HB.out (fun g hg => (HH.out.lt g hg).2)
              have HL2 := Lib.hid hl2
              have HH2 := Lib.hid hh2
              clear hl2 hh2
              have hz := HB.out.size
              have hl : ((matF (crcN (8 * n))).take k).length ≤ 1000000 := by rw [List.length_take, matF_length]; omega
              obtain ⟨T, hT⟩ : ∃ T, crcN (8 * (n / 2)) (crcN (8 * (n / 2)) (1#32 <<< k)) = T := ⟨_, rfl⟩
              obtain ⟨hT0, hT1⟩ := nstep n (1#32 <<< k) T hT.symm
              have hT' := hT
              by_cases hp : n % 2 = 1
              · have hd1 : ((n : Int) % 2 == 1) = true := by rw [beq_iff_eq]; omega
                have hfin := matF_take_succ (crcN (8 * n)) k hlt _ (hT1 hp)
                obtain ⟨xs, hxs⟩ : ∃ xs, (matF (crcN (8 * n))).take k = xs := ⟨_, rfl⟩
                rw [hxs] at HV hl hfin
                have Hfin := Lib.hid hfin
                have HT := Lib.hid hT'
                clear hfin hxs hT0 hT1 hT hT' hp
                set_option maxRecDepth 100000 in
                go_wp2_with (first
                  | (go_at_call 68; (try rw [shl1]); (with_reducible refine (through_any _ _ _ _ _ HH2.out (matF_length _)).mono ?_); rintro e w' ⟨rfl, rfl⟩; rw [thr_all (crcN_lin _)]; (try rw [HT.out]))
                  | (go_at_call 68; (with_reducible refine (through_any _ _ _ _ _ HL2.out (matF_length _)).mono ?_); rintro e w' ⟨rfl, rfl⟩; rw [thr_all (crcN_lin _)])
                  | (at_builtin; refine wpList_appU wr 25 (crcN 8 T) rfl _ _ rfl w2.heap.size u8 xs rfl HV.out _ rfl hl hz ?_; intro v3 w3 hv3 hb3))
                exact ⟨⟨k + 1, by omega, by rw [Hfin.out]; exact hv3, HB.out.trans hb3, by go_num⟩, by simp [intOf]; omega⟩
              · have hd1 : ((n : Int) % 2 == 1) = false := by rw [beq_eq_false_iff_ne]; omega
                have hfin := matF_take_succ (crcN (8 * n)) k hlt _ (hT0 (by omega))
                obtain ⟨xs, hxs⟩ : ∃ xs, (matF (crcN (8 * n))).take k = xs := ⟨_, rfl⟩
                rw [hxs] at HV hl hfin
                have Hfin := Lib.hid hfin
                have HT := Lib.hid hT'
                clear hfin hxs hT0 hT1 hT hT' hp
                set_option maxRecDepth 100000 in
                go_wp2_with (first
                  | (go_at_call 68; (try rw [shl1]); (with_reducible refine (through_any _ _ _ _ _ HH2.out (matF_length _)).mono ?_); rintro e w' ⟨rfl, rfl⟩; rw [thr_all (crcN_lin _)]; (try rw [HT.out]))
                  | (at_builtin; refine wpList_appU wr 25 T rfl _ _ rfl w2.heap.size u8 xs rfl HV.out _ rfl hl hz ?_; intro v3 w3 hv3 hb3))
                exact ⟨⟨k + 1, by omega, by rw [Hfin.out]; exact hv3, HB.out.trans hb3, by go_num⟩, by simp [intOf]; omega⟩
            · obtain rfl : k = 32 := by omega
              go_wp2_with fail
              go_ret
              refine ⟨_, rfl, ?_, HB2.out.trans (HB.out.mono HB2.out.size)⟩
              have := HV.out
              rw [List.take_of_length_le (by rw [matF_length]; omega)] at this
              exact this.mono HB2.out.size

set_option maxHeartbeats 1000000 in
theorem refJoin_neg (a b n : Int) (w : World) (hn : n < 0) : Calls Try.prog 30 #[.int .u32 a, .int .u32 b, .int .i64 n] w fun e w' => e = .returned (.tuple #[.int .u32 0, .int .i64 2]) ∧ w = w' := by
  go_enter Try.func30, Try.ntmps30
  go_wp2_with fail
  go_ret2
  exact ⟨rfl, rfl⟩
set_option maxHeartbeats 1000000 in
theorem refJoin_pos (A B : BitVec 32) (n : Nat) (w : World) (hn : n ≤ 9223372036854775807) : Calls Try.prog 30 #[.int .u32 (toU A), .int .u32 (toU B), .int .i64 (n : Int)] w fun e w' => e = .returned (.tuple #[.int .u32 (toU (joinV A B n)), .int .i64 0]) ∧ Below w.heap.size w w' := by
  have hn0 : (0 : Int) ≤ n := by omega
  have hx := bits_xor32 (crcN (8 * n) A) B
  go_enter Try.func30, Try.ntmps30
  go_wp2_with (first
    | (go_at_call 69; refine (noughts_any n _ hn).mono ?_; rintro e w2 ⟨v2, rfl, hv2, hb2⟩)
    | (go_at_call 68; refine (through_any _ _ _ _ _ hv2 (matF_length _)).mono ?_; rintro e w' ⟨rfl, rfl⟩; rw [thr_all (crcN_lin _)]))
  go_ret2
  exact ⟨rfl, hb2⟩
end Go.Proofs.Ytmjikebbknjahaa
