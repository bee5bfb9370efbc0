/-
  The walk of the law PageTurned.
-/
import Derived.Test.YtfhfeaipdmcekaaPageTurnP
import Derived.Test.YtfhfeaipdmcekaaRowB
import Derived.Deep.CutRange
import Derived.StillTailTactics
import Derived.Deep.DeepCutAuto
namespace Go.Proofs.Ytfhfeaipdmcekaa
open Go.RowKit Go.Lib Hw
set_option linter.unusedVariables false

theorem part_any (j : Nat) (w : World) : Calls Try.prog 22 #[.int .i64 (j : Int)] w fun e w' => e = .returned (.int .i64 (partN j : Int)) ∧ w = w' := by
  go_enter Try.func22, Try.ntmps22
  by_cases h1 : j < 28
  · have d1 : decide ((j : Int) < 28) = true := by simp; omega
    have hp : partN j = 0 := by unfold partN; rw [if_pos h1]
    clear h1
    go_wp2
    go_ret
    exact ⟨by rw [hp]; rfl, rfl⟩
  · have d1 : decide ((j : Int) < 28) = false := by simp; omega
    by_cases h2 : j < 32
    · have d2 : decide ((j : Int) < 32) = true := by simp; omega
      have hp : partN j = 1 := by unfold partN; rw [if_neg h1, if_pos h2]
      clear h1 h2
      go_wp2
      go_ret
      exact ⟨by rw [hp]; rfl, rfl⟩
    · have d2 : decide ((j : Int) < 32) = false := by simp; omega
      have hp : partN j = 2 := by unfold partN; rw [if_neg h1, if_neg h2]
      clear h1 h2
      go_wp2
      go_ret
      exact ⟨by rw [hp]; rfl, rfl⟩

theorem part_int (x : Int) (j : Nat) (h : x = j) (w : World) : Calls Try.prog 22 #[.int .i64 x] w fun e w' => e = .returned (.int .i64 (partN j : Int)) ∧ w = w' := by
  subst h; exact part_any j w
theorem xor_u8 (x y : Int) : ∃ b : UInt8, bits .xor .u8 x y = (b.toNat : Int) := by
  have h : ∃ n : Int, bits .xor .u8 x y = IntKind.u8.wrap n := ⟨_, rfl⟩
  obtain ⟨n, hn⟩ := h
  rw [IntKind.wrap_u8] at hn
  refine ⟨UInt8.ofNat (n % 256).toNat, ?_⟩
  rw [hn, UInt8.toNat_ofNat']
  omega
theorem Near.refl (i : Nat) (l : List UInt8) : Near i l l := ⟨rfl, fun _ _ => rfl⟩
theorem Near.set {i : Nat} {x y : List UInt8} (h : Near i x y) (q : Nat) (hq : q < 4) (hp : partN (i + q) = partN i) (b : UInt8) : Near i (x.set (i + q) b) y := by
  refine ⟨by rw [List.length_set]; exact h.1, fun j hj => ?_⟩
  rw [List.getElem?_set_ne (by intro e; apply hj; rw [← e]; exact ⟨by omega, by omega, hp⟩)]
  exact h.2 j hj

/-- the block of a Turn -/
structure TN (w W : World) (a b k n r : Int) (s : ByteArray) (at_ m : Int) : Prop where
  f : W.heap[w.heap.size]? = some (.cells #[.int .i64 a, .int .i64 b, .int .u8 k, .int .u32 n, .int .u64 r, .string s, .int .i64 at_, .int .u32 m] 42 (0, 0))
  bel : Below w.heap.size w W
section
variable {w W W' : World} {a b k n r at_ m : Int} {s : ByteArray}
theorem TN.start (w : World) (a b k n r : Int) (s : ByteArray) (at_ m : Int) : TN w (w.alloc (.cells #[.int .i64 a, .int .i64 b, .int .u8 k, .int .u32 n, .int .u64 r, .string s, .int .i64 at_, .int .u32 m] 42)) a b k n r s at_ m :=
  ⟨heap_new _ _, (Below.refl _ _).alloc (Nat.le_refl _) _⟩
theorem TN.size (h : TN w W a b k n r s at_ m) : w.heap.size < W.heap.size := heap_lt h.f
theorem TN.drew (h : TN w W a b k n r s at_ m) : TN w W.drew a b k n r s at_ m := ⟨h.f, h.bel.drew⟩
theorem TN.alloc (h : TN w W a b k n r s at_ m) (o : Obj) : TN w (W.alloc o) a b k n r s at_ m := ⟨heap_alloc h.f, h.bel.alloc (by have := h.size; omega) _⟩
theorem TN.below {B : Nat} (h : TN w W a b k n r s at_ m) (hb : Below B W W') (hB : w.heap.size < B) : TN w W' a b k n r s at_ m := ⟨heap_below h.f hb hB, h.bel.trans (hb.mono (by omega))⟩
theorem TN.setOther (h : TN w W a b k n r s at_ m) {p : Addr} (hp : w.heap.size < p.block) (v : Value) : TN w (W.setCell p v) a b k n r s at_ m := ⟨heap_setOther h.f (by omega) v, h.bel.setCell (by omega) _⟩
theorem TN.cells (h : TN w W a b k n r s at_ m) : w.heap.size < W.heap.size ∧ W.cell? ⟨w.heap.size, 0, none⟩ = some (.int .i64 a) ∧ W.cell? ⟨w.heap.size, 1, none⟩ = some (.int .i64 b) ∧ W.cell? ⟨w.heap.size, 2, none⟩ = some (.int .u8 k) ∧ W.cell? ⟨w.heap.size, 3, none⟩ = some (.int .u32 n) ∧ W.cell? ⟨w.heap.size, 4, none⟩ = some (.int .u64 r) ∧ W.cell? ⟨w.heap.size, 5, none⟩ = some (.string s) ∧ W.cell? ⟨w.heap.size, 6, none⟩ = some (.int .i64 at_) ∧ W.cell? ⟨w.heap.size, 7, none⟩ = some (.int .u32 m) :=
  ⟨h.size, by rw [heap_cell h.f]; rfl, by rw [heap_cell h.f]; rfl, by rw [heap_cell h.f]; rfl, by rw [heap_cell h.f]; rfl, by rw [heap_cell h.f]; rfl, by rw [heap_cell h.f]; rfl, by rw [heap_cell h.f]; rfl, by rw [heap_cell h.f]; rfl⟩
end

set_option maxHeartbeats 4000000 in
theorem PageTurned_walk (v0 : Value) (w : World) (h0 : ∃ a b k n r s t m, v0 = .agg #[.int .i64 a, .int .i64 b, .int .u8 k, .int .u32 n, .int .u64 r, .string s, .int .i64 t, .int .u32 m] ∧
      (-9223372036854775808 ≤ a ∧ a ≤ 9223372036854775807) ∧ (0 ≤ k ∧ k < 256) ∧ (0 ≤ n ∧ n < 4294967296) ∧ (0 ≤ r ∧ r < 18446744073709551616) ∧ s.size ≤ 9223372036854775807 ∧ (-9223372036854775808 ≤ t ∧ t ≤ 9223372036854775807) ∧ (0 ≤ m ∧ m < 4294967296)) :
    Calls Try.prog 7 #[v0] w fun e w' => e = .returned (.bool true) ∧ Below w.heap.size w w' := by
  obtain ⟨a, b, k, n, r, s, t, m, rfl, ha, hk, hn, hr, hs, ht, hm⟩ := h0
  have T0 := Lib.hid (TN.start w a b k n r s t m)
  have HW1 := Lib.hid (Write_any a b k n r s)
  obtain ⟨S, hS⟩ : ∃ S, writeS a b k n r s = S := ⟨_, rfl⟩
  obtain ⟨c, hc⟩ : ∃ c, checkI a b k n r s.size = c := ⟨_, rfl⟩
  have hc2 := hc
  rw [hS, hc] at HW1
  go_enter Try.func7, Try.ntmps7
  go_wp2_with fail
  refine (HW1.out _ ha hk hn hr hs).mono ?_
  rintro e w1 ⟨rfl, hb1⟩
  have T1 := Lib.hid (T0.out.below hb1 (by simp only [World.size_alloc]; omega))
  clear hb1 T0
  by_cases hc0 : c = 0
  · have hSz : (1024 : Int) ≤ S.size ∧ (S.size : Int) ≤ 8192 := by
      rw [hc0] at hc
      have hz := checkI_zero hc
      have hp := mayB_page hz.1
      have hl : s.data.toList.length = s.size := by rw [Array.length_toList]; rfl
      rw [← hS, writeS, if_pos hc, bstr_size, form_length (by rw [hl]; omega)]
      omega
    subst hc0
    have HS := Lib.hid hS
    have HC := Lib.hid hc
    clear hS hc hc2
    have d1 : decide ((S.size : Int) < 4) = false := by simp; omega
    have d2 : ((S.size : Int) - 3 == 0) = false := by simp; omega
    have d3 : ((S.size : Int) - 3 = 0) = False := by simp; omega
    have d4 : IntKind.i64.wrap ((S.size : Int) - 3) = (S.size : Int) - 3 := IntWalk.i64_in _ (by omega)
    obtain ⟨z, hz⟩ : ∃ z, t.tmod ((S.size : Int) - 3) = z := ⟨_, rfl⟩
    have hzb : -((S.size : Int) - 3) < z ∧ z < (S.size : Int) - 3 := by
      rw [← hz]
      have h1 := Int.tmod_lt_of_pos t (b := (S.size : Int) - 3) (by omega)
      have h2 := Int.lt_tmod_of_pos t (b := (S.size : Int) - 3) (by omega)
      omega
    obtain ⟨u, f0, f1, f2, f3, f4, f5, f6, f7⟩ := T1.out.cells
    go_upto_if 33 with fail
    go_cut [5] from 34 to 38 (fun v wx => Hid (∃ i : Nat, v = .int .i64 (i : Int) ∧ Hid (i + 3 < S.size) ∧ wx = w1))
    case first =>
      by_cases hneg : z < 0
      · have d5 : decide (z < 0) = true := by simpa using hneg
        have d6 : IntKind.i64.wrap (IntKind.i64.wrap (z + (S.size : Int)) - 3) = z + (S.size : Int) - 3 := by rw [IntWalk.i64_in (z + (S.size : Int)) (by omega), IntWalk.i64_in _ (by omega)]
        obtain ⟨i, hi⟩ : ∃ i : Nat, z + (S.size : Int) - 3 = (i : Int) := ⟨(z + (S.size : Int) - 3).toNat, by omega⟩
        have hi3 : i + 3 < S.size := by omega
        go_wp2_with fail
        go_meet
        exact Lib.hid ⟨i, rfl, hi3, rfl⟩
      · have d5 : decide (z < 0) = false := by simpa using hneg
        obtain ⟨i, rfl⟩ : ∃ i : Nat, z = (i : Int) := ⟨z.toNat, by omega⟩
        go_wp2_with fail
        go_meet
        exact Lib.hid ⟨i, rfl, by show _ < _; omega, rfl⟩
    case rest =>
    obtain ⟨i, rfl, Hi, rfl⟩ := hcut.out
    clear d2 d3 d4 hz hzb d1 f0 f1 f2 f3 f4 f5 f6 f7
    have hcv := conv_str S wc
    go_upto_region 8 with fail
    obtain ⟨W2, hW2⟩ : ∃ W2, bytesWorld wc 5 S = W2 := ⟨_, rfl⟩
    have hbc := Below.conv S wc wc.heap.size (Nat.le_refl _)
    have hrc := RowB.conv S wc
    rw [hW2] at hbc hrc
    have T2 := Lib.hid (T1.out.below hbc T1.out.size)
    have R2 := Lib.hid hrc
    have hp0 := T1.out.size
    rw [hW2]
    obtain ⟨p, hp⟩ : ∃ p, wc.heap.size = p := ⟨_, rfl⟩
    obtain ⟨cap, hcap⟩ : ∃ cap, grownCap wc S.size 0 5 = cap := ⟨_, rfl⟩
    rw [hp] at hp0 R2
    rw [hp, hcap]
    clear hp hcap hbc hrc hcv hW2 T1
    go_wp2_with fail
    go_loopw [7] (fun kk wr => ∃ (q : Nat) (L : List UInt8), q ≤ 4 ∧ Hid (TN w wr a b k n r s t m) ∧ Hid (RowB wr p L) ∧ Hid (Near i L S.data.toList) ∧ kk = .int .i64 (q : Int)) (fun kk _ => 4 - (intOf kk).toNat)
    case atStart => exact ⟨0, _, by omega, T2, R2, Near.refl _ _, rfl⟩
    case round =>
      obtain ⟨q, L, hq, TL, RL, NL, rfl⟩ := hrel
      by_cases hlt : q < 4
      · have d5 : decide ((q : Int) < 4) = true := by simp; omega
        have hi3 := Hi.out
        have hl : L.length = S.size := by have := NL.out.1; rw [this, Array.length_toList]; rfl
        have w1 : IntKind.i64.wrap ((i : Int) + (q : Int)) = ((i + q : Nat) : Int) := by rw [IntWalk.i64_in _ (by omega)]; omega
        have w2 : IntKind.i64.wrap (8 * (q : Int)) = ((8 * q : Nat) : Int) := by rw [IntWalk.i64_in _ (by omega)]; omega
        have hjl : i + q < L.length := by omega
        have j1 : ((i + q : Nat) : Int) < (S.size : Int) := by omega
        obtain ⟨b0, hb0⟩ : ∃ b0 : UInt8, L[i + q] = b0 := ⟨_, rfl⟩
        have e0 : wr.cell? ⟨p, i + q, none⟩ = some (.int .u8 (b0.toNat : Int)) := by rw [RL.out.cell _ hjl, hb0]; rfl
        have e1 : wr.frozen? ⟨p, i + q, none⟩ = false := RL.out.free _ hjl
        obtain ⟨u1, f0, f1, f2, f3, f4, f5, f6, f7⟩ := TL.out.cells
        obtain ⟨pi, hpi⟩ : ∃ x, partN i = x := ⟨_, rfl⟩
        obtain ⟨pq, hpq⟩ : ∃ x, partN (i + q) = x := ⟨_, rfl⟩
        clear hb0 hl hi3
        by_cases hpp : pq = pi
        · have d6 : ((pq : Int) == (pi : Int)) = true := by rw [hpp]; simp
          have hset : partN (i + q) = partN i := by rw [hpi, hpq, hpp]
          clear hpp
          go_upto_region 12 with (go_at_call 22; refine (part_any _ _).mono ?_; rintro e w3 ⟨rfl, rfl⟩; first | rw [hpq] | rw [hpi])
          have j2 : (i : Int) + (q : Int) < (S.size : Int) := by omega
          have j3 : 0 ≤ (i : Int) + (q : Int) := by omega
          have j4 : ((i : Int) + (q : Int)).toNat = i + q := by omega
          obtain ⟨b1, hb1⟩ := xor_u8 (b0.toNat : Int) (IntKind.u8.wrap (m / 2 ^ min (IntKind.u64.wrap (8 * (q : Int))).toNat 32))
          set_option maxRecDepth 100000 in go_still_tail 19, (by kernel_rfl)
          change wpList _ _ _ _ _ wr.drew
          go_wp2_with fail
          go_roundw
          case rel => exact ⟨q + 1, L.set (i + q) b1, by omega, TL.out.drew.setOther hp0 _, RL.out.drew.set (i + q) hjl b1, NL.out.set q hlt hset b1, by go_num⟩
          case measure => simp [intOf]; omega
        · have d6 : ((pq : Int) == (pi : Int)) = false := by rw [beq_eq_false_iff_ne]; omega
          clear hpp
          go_wp2_with (go_at_call 22; refine (part_any _ _).mono ?_; rintro e w3 ⟨rfl, rfl⟩; first | rw [hpq] | rw [hpi])
          go_roundw
          case rel => exact ⟨q + 1, L, by omega, TL, RL, NL, by go_num⟩
          case measure => simp [intOf]; omega
      · have d5 : decide ((q : Int) < 4) = false := by simp; omega
        have hl : L.length = S.size := by have := NL.out.1; rw [this, Array.length_toList]; rfl
        have hcv := conv_row RL.out cap
        rw [hl] at hcv
        obtain ⟨S2, hS2⟩ : ∃ S2, bstr L = S2 := ⟨_, rfl⟩
        have hS2' : (⟨L.toArray⟩ : ByteArray) = S2 := hS2
        rw [hS2'] at hcv
        have hz2 : S2.size ≤ 9223372036854775807 := by rw [← hS2, bstr_size]; omega
        obtain ⟨k1, n1, r1, c1, t1, hV1, hc1, hv1, hv1'⟩ := readV_form a b S2
        obtain ⟨e1, e2, e3, e4, e5⟩ := read_write hk hn hr HC.out
        rw [HS.out] at e1 e2 e3 e4 e5
        have hgood : Hid (S2 = S → k1 = k ∧ n1 = n ∧ r1 = r ∧ t1 = s ∧ c1 = 0) := by
          intro he
          rw [he] at hc1 hv1
          have z1 : c1 = 0 := by rw [hc1, e1]
          obtain ⟨f1, f2, f3, f4⟩ := hv1 z1
          exact ⟨by rw [f1, e2], by rw [f2, e3], by rw [f3, e4], by rw [f4, e5], z1⟩
        have hbad : Hid (S2 ≠ S → c1 = 52) := by
          intro hne
          rw [hc1, ← hS2]
          refine turned_refused (i := i) (x := S.data.toList) (by rw [bstr_self]; exact e1) NL.out ?_
          intro he
          exact hne (by rw [← hS2, he, bstr_self])
        have HR := Lib.hid (Read_any a b S2)
        rw [hV1] at HR
        have hS2 := Lib.hid hS2
        clear hV1 hc1 hv1 hv1' e1 e2 e3 e4 e5 hS2'
        obtain ⟨u1, f0, f1, f2, f3, f4, f5, f6, f7⟩ := TL.out.cells
        have HL := Lib.hid hl
        clear hl
        go_wp2_with fail
        refine (HR.out _ ha hz2).mono ?_
        rintro e w3 ⟨rfl, hb3⟩
        have T3 := Lib.hid ((TL.out.below hb3 u1).alloc (.cells #[.int .u8 k1, .int .u32 n1, .int .u64 r1, .string t1] 28))
        have hT3 := (TL.out.below hb3 u1).cells
        have R3 := Lib.hid ((RL.out.below hb3 RL.out.lt).alloc (.cells #[.int .u8 k1, .int .u32 n1, .int .u64 r1, .string t1] 28))
        have P3 := heap_new w3 (.cells #[.int .u8 k1, .int .u32 n1, .int .u64 r1, .string t1] 28)
        have hcv2 := conv_row R3.out cap
        rw [HL.out] at hcv2
        have hS3 : (⟨L.toArray⟩ : ByteArray) = S2 := hS2.out
        rw [hS3] at hcv2
        clear hb3 f0 f1 f2 f3 f4 f5 f6 f7 u1 hcv hS3
        obtain ⟨u1, f0, f1, f2, f3, f4, f5, f6, f7⟩ := hT3
        have B3 := Lib.hid T3.out.bel
        clear T3 R3 P3 RL TL
        by_cases heq : S2 = S
        · obtain ⟨rfl, rfl, rfl, rfl, rfl⟩ := hgood.out heq
          have g1 := beq_str_true heq
          clear heq hgood hbad
          go_wp2_with fail
          refine (awake_any _).mono ?_
          rintro e w5 ⟨rfl, hb5⟩
          go_wp2_with fail
          go_ret
          exact ⟨rfl, B3.out.trans (hb5.mono (by simp only [World.size_alloc]; omega))⟩
        · obtain rfl := hbad.out heq
          have g1 := beq_str_false heq
          clear heq hgood hbad
          go_wp2_with fail
          refine (awake_any _).mono ?_
          rintro e w5 ⟨rfl, hb5⟩
          go_wp2_with fail
          go_ret
          exact ⟨rfl, B3.out.trans (hb5.mono (by simp only [World.size_alloc]; omega))⟩
  · have d0 : (c != 0) = true := by rw [bne_iff_ne]; exact hc0
    clear hc0 hc hc2 hS
    go_wp2_with fail
    refine (awake_any _).mono ?_
    rintro e w5 ⟨rfl, hb5⟩
    go_wp2_with fail
    go_ret
    exact ⟨rfl, T1.out.bel.trans (hb5.mono (by have := T1.out.size; omega))⟩
end Go.Proofs.Ytfhfeaipdmcekaa
