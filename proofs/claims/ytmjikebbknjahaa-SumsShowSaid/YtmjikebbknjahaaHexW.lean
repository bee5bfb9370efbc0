/-
  The walk of sums.Read.
-/
import Derived.Test.YtmjikebbknjahaaHexP
import Derived.Test.YtmjikebbknjahaaIdxW
import Derived.Test.YtmjikebbknjahaaPartsW
import Derived.Deep.RegionHeld
namespace Go.Proofs.Ytmjikebbknjahaa
open Go.RowKit Go.Lib Hw
set_option linter.unusedVariables false

def readRD (n : Int) (L : List UInt8) : List UInt8 := bif wideB n then readD n.toNat L else zeros32
def readRE (n : Int) (L : List UInt8) : Int := bif wideB n then readE n.toNat L else 2
theorem readRD_length (n : Int) (L : List UInt8) : (readRD n L).length = 32 := by
  unfold readRD
  cases h : wideB n
  · rfl
  · have := wideB_yes h
    exact readD_length _ _ (by omega)
theorem un_any (a : UInt8) (w : World) : Calls Try.prog 77 #[.string ⟨#[48, 49, 50, 51, 52, 53, 54, 55, 56, 57, 97, 98, 99, 100, 101, 102]⟩, .int .u8 (a.toNat : Int)] w fun e w' => e = .returned (.int .i64 (un a)) ∧ w = w' := index_any _ a w

set_option maxHeartbeats 4000000 in
theorem Read_any (n : Int) (s : ByteArray) (w : World) (hs : s.size ≤ 9223372036854775807) :
    Calls Try.prog 59 #[.int .i64 n, .string s] w fun e w' => e = .returned (.tuple #[dv (readRD n s.data.toList), .int .i64 (readRE n s.data.toList)]) ∧ Below w.heap.size w w' := by
  cases hw : wideB n
  · have e1 : readRD n s.data.toList = zeros32 := by unfold readRD; rw [hw]; rfl
    have e2 : readRE n s.data.toList = 2 := by unfold readRE; rw [hw]; rfl
    rw [e1, e2]
    have HW := Lib.hid hw
    clear hw e1 e2
    go_enter Try.func59, Try.ntmps59
    go_upto_region 2 with (first
      | (refine wpList_allocD rfl rfl w.heap.size rfl ?_; intro w1 hd1 hb1 hz1)
      | (refine wpList_allocD rfl rfl (w.heap.size + 1) hz1 ?_; intro w2 hd2 hb2 hz2))
    have HD1 := Lib.hid (hd1.below hb2 (by omega))
    have HD2 := Lib.hid hd2
    have HB := Lib.hid (hb1.trans (hb2.mono (by omega)))
    clear hd1 hb1 hz1 hd2 hb2 hz2
    go_wp2_with (first
      | (go_at_call 71; refine (wide_b _ _).mono ?_; rintro e w3 ⟨rfl, rfl⟩; rw [HW.out])
      | (refine wpList_loadD rfl _ rfl (w.heap.size + 1) rfl zeros32 rfl HD2.out ?_)
      | (refine wpList_storeD rfl _ _ rfl w.heap.size rfl zeros32 zeros32 rfl rfl rfl HD1.out ?_; intro w6 hd6 hb6 hk6 hz6))
    refine bodyPost_ret (v := .tuple #[dv zeros32, .int .i64 2]) ?_ rfl ⟨rfl, HB.out.trans hb6⟩
    exact results_DE Try.results59 rfl rfl rfl hd6
  · have hb := wideB_yes hw
    have e1 : readRD n s.data.toList = readD n.toNat s.data.toList := by unfold readRD; rw [hw]; rfl
    have e2 : readRE n s.data.toList = readE n.toNat s.data.toList := by unfold readRE; rw [hw]; rfl
    rw [e1, e2]
    obtain ⟨m, rfl⟩ : ∃ m : Nat, n = m := ⟨n.toNat, by omega⟩
    rw [Int.toNat_natCast]
    have hm : m ≤ 32 := by omega
    have HW := Lib.hid hw
    clear hw e1 e2 hb
    obtain ⟨D, hD⟩ : ∃ D, readD m s.data.toList = D := ⟨_, rfl⟩
    obtain ⟨E, hE⟩ : ∃ E, readE m s.data.toList = E := ⟨_, rfl⟩
    rw [hD, hE]
    have HD0 := Lib.hid hD
    have HE0 := Lib.hid hE
    clear hD hE
    have w0 : IntKind.i64.wrap (2 * (m : Int)) = 2 * (m : Int) := IntWalk.i64_in _ (by omega)
    go_enter Try.func59, Try.ntmps59
    go_upto_region 2 with (first
      | (refine wpList_allocD rfl rfl w.heap.size rfl ?_; intro w1 hd1 hb1 hz1)
      | (refine wpList_allocD rfl rfl (w.heap.size + 1) hz1 ?_; intro w2 hd2 hb2 hz2))
    have HD1 := Lib.hid (hd1.below hb2 (by omega))
    have HD2 := Lib.hid hd2
    have HB := Lib.hid (hb1.trans (hb2.mono (by omega)))
    clear hd1 hb1 hz1 hd2 hb2 hz2
    go_upto_region 4 with (go_at_call 71; refine (wide_b _ _).mono ?_; rintro e w3 ⟨rfl, rfl⟩; rw [HW.out])
    by_cases hlen : s.size = 2 * m
    · obtain ⟨R, hR⟩ : ∃ R, decL s.data.toList = R := ⟨_, rfl⟩
      have e3 : readV m s.data.toList = R := by rw [readV_long (by rw [data_len]; exact hlen)]; exact hR
      have hD2 : D = R.elim zeros32 padL := by rw [← HD0.out, readD, e3]
      have hE2 : E = R.elim 21 (fun _ => 0) := by rw [← HE0.out, readE, e3]
      clear HD0 HE0
      have HD0 := Lib.hid hD2
      have HE0 := Lib.hid hE2
      have HR := Lib.hid hR
      clear hD2 hE2 e3 hR
      have d0 : ((s.size : Int) != 2 * (m : Int)) = false := by rw [bne_eq_false_iff_eq]; omega
      go_wp2_with fail
      have hi0 : Hid (R = (decL (s.data.toList.drop 0)).map (fun l => [] ++ l)) := by
        show R = _
        rw [List.drop_zero, HR.out]
        cases R <;> simp
      go_loopw [7, 8, 9, 21] (fun _ _ _ i wr => ∃ (k : Nat) (acc : List UInt8), k ≤ m ∧ Hid (acc.length = k) ∧ Hid (R = (decL (s.data.toList.drop (2 * k))).map (fun l => acc ++ l)) ∧ Hid (DB wr w.heap.size zeros32) ∧ Hid (DB wr (w.heap.size + 1) (padL acc)) ∧ Hid (Below w.heap.size w wr) ∧ i = .int .i64 (k : Int)) (fun _ _ _ i _ => m - (intOf i).toNat)
      case atStart => exact ⟨0, [], by omega, (rfl : ([] : List UInt8).length = 0), hi0, HD1, HD2, HB, rfl⟩
      case round =>
        clear hi0 HD1 HD2 HB
        obtain ⟨k, acc, hk, Ha, HP, HD1, HD2, HB, rfl⟩ := hrel
        by_cases hlt : k < m
        · have hl0 := data_len s
          obtain ⟨a, ha⟩ : ∃ a, s[2 * k]'(by omega) = a := ⟨_, rfl⟩
          obtain ⟨b, hb⟩ : ∃ b, s[2 * k + 1]'(by omega) = b := ⟨_, rfl⟩
          have hdr : s.data.toList.drop (2 * k) = a :: b :: s.data.toList.drop (2 * (k + 1)) := by
            rw [List.drop_eq_getElem_cons (by omega : 2 * k < s.data.toList.length), List.drop_eq_getElem_cons (by omega : 2 * k + 1 < s.data.toList.length), ← ha, ← hb]
            rfl
          have w1' : IntKind.i64.wrap (2 * (k : Int)) = 2 * (k : Int) := IntWalk.i64_in _ (by omega)
          have w2' : IntKind.i64.wrap (2 * (k : Int) + 1) = 2 * (k : Int) + 1 := IntWalk.i64_in _ (by omega)
          have n1 : (2 * (k : Int)).toNat = 2 * k := by omega
          have n2 : (2 * (k : Int) + 1).toNat = 2 * k + 1 := by omega
          have l1 : 2 * (k : Int) < (s.size : Int) := by omega
          have l2 : 2 * (k : Int) + 1 < (s.size : Int) := by omega
          have l3 : 2 * k < s.size := by omega
          have l7 : 2 * (k : Int) + 1 < 2 * (m : Int) := by omega
          have l8 : 2 * (k : Int) < 2 * (m : Int) := by omega
          have l5 : (0 : Int) ≤ 2 * (k : Int) := by omega
          have l6 : (0 : Int) ≤ 2 * (k : Int) + 1 := by omega
          have l4 : 2 * k + 1 < s.size := by omega
          have hk32 : (k : Int) < 32 := by omega
          obtain ⟨u, hu⟩ : ∃ u, un a = u := ⟨_, rfl⟩
          obtain ⟨v, hv⟩ : ∃ v, un b = v := ⟨_, rfl⟩
          have hpair : pairB a b = bif decide (u < 0) || decide (v < 0) then none else some (UInt8.ofNat (16 * u.toNat + v.toNat)) := by rw [pairB, hu, hv]
          have Hdr := Lib.hid hdr
          have Hu := Lib.hid hu
          have Hv := Lib.hid hv
          have Hp := Lib.hid hpair
          have gu := un_ge a
          have gv := un_ge b
          rw [hu] at gu
          rw [hv] at gv
          have su : ∀ p : Nat, u = (p : Int) → p < 16 := fun p h => (un_some (hu.trans h)).1
          have sv : ∀ p : Nat, v = (p : Int) → p < 16 := fun p h => (un_some (hv.trans h)).1
          have Su := Lib.hid su
          have Sv := Lib.hid sv
          clear hdr hu hv hpair hl0 su sv
          go_upto_region 9 with fail
          refine wp_region_held_drew (S := fun _ => True) (by kernel_rfl) trivial (fun hHeld => ?_)
          refine' wpAnyH_take (i := 0) (oi := { dst := Option.some 24, op := Op.move (Operand.tmp 1), type := 9, pos := "text.go:106", after := #[], guard := Option.none }) rfl (by kernel_rfl) (by kernel_rfl) (by kernel_rfl) (fun _ _ _ h => h) (Or.inl ⟨by rfl, _⟩) (by assumption) _
          rotate_left
          · (intro wS hSw; (try dsimp only at hSw); go_simp; try with_reducible rfl)
          try simp only [Act.put, List.setIfInBounds_toArray, List.set_cons_zero, List.set_cons_succ]
          refine' wpAnyH_take (i := 1) (oi := { dst := Option.some 25, op := Op.move (Operand.tmp 7), type := 3, pos := "text.go:106", after := #[], guard := Option.none }) rfl (by kernel_rfl) (by kernel_rfl) (by kernel_rfl) (fun _ _ _ h => h) (Or.inl ⟨by rfl, _⟩) (by assumption) _
          rotate_left
          · (intro wS hSw; (try dsimp only at hSw); go_simp; try with_reducible rfl)
          try simp only [Act.put, List.setIfInBounds_toArray, List.set_cons_zero, List.set_cons_succ]
          refine' wpAnyH_take (i := 2) (oi := { dst := Option.some 26, op := Op.binOp BinOp.mul 3 (Operand.const (Value.int IntKind.i64 2)) (Operand.tmp 25) 3, type := 3, pos := "text.go:106", after := #[{ on := 1, ground := Ground.data }], guard := Option.none }) rfl (by kernel_rfl) (by kernel_rfl) (by kernel_rfl) (fun _ _ _ h => h) (Or.inl ⟨by rfl, _⟩) (by assumption) _
          rotate_left
          · (intro wS hSw; (try dsimp only at hSw); go_simp; try with_reducible rfl)
          try simp only [Act.put, List.setIfInBounds_toArray, List.set_cons_zero, List.set_cons_succ]
          refine' wpAnyH_take (i := 3) (oi := { dst := Option.some 27, op := Op.index 9 (Operand.tmp 24) (Operand.tmp 26), type := 5, pos := "text.go:106", after := #[{ on := 0, ground := Ground.data }, { on := 2, ground := Ground.data }], guard := Option.none }) rfl (by kernel_rfl) (by kernel_rfl) (by kernel_rfl) (fun _ _ _ h => h) (Or.inl ⟨by rfl, _⟩) (by assumption) _
          rotate_left
          · (intro wS hSw; (try dsimp only at hSw); go_simp; try with_reducible rfl)
          try simp only [Act.put, List.setIfInBounds_toArray, List.set_cons_zero, List.set_cons_succ]
          refine' wpAnyH_take (i := 5) (oi := { dst := Option.some 29, op := Op.move (Operand.tmp 1), type := 9, pos := "text.go:106", after := #[], guard := Option.none }) rfl (by kernel_rfl) (by kernel_rfl) (by kernel_rfl) (fun _ _ _ h => h) (Or.inl ⟨by rfl, _⟩) (by assumption) _
          rotate_left
          · (intro wS hSw; (try dsimp only at hSw); go_simp; try with_reducible rfl)
          try simp only [Act.put, List.setIfInBounds_toArray, List.set_cons_zero, List.set_cons_succ]
          refine' wpAnyH_take (i := 6) (oi := { dst := Option.some 30, op := Op.move (Operand.tmp 7), type := 3, pos := "text.go:106", after := #[], guard := Option.none }) rfl (by kernel_rfl) (by kernel_rfl) (by kernel_rfl) (fun _ _ _ h => h) (Or.inl ⟨by rfl, _⟩) (by assumption) _
          rotate_left
          · (intro wS hSw; (try dsimp only at hSw); go_simp; try with_reducible rfl)
          try simp only [Act.put, List.setIfInBounds_toArray, List.set_cons_zero, List.set_cons_succ]
          refine' wpAnyH_take (i := 7) (oi := { dst := Option.some 31, op := Op.binOp BinOp.mul 3 (Operand.const (Value.int IntKind.i64 2)) (Operand.tmp 30) 3, type := 3, pos := "text.go:106", after := #[{ on := 6, ground := Ground.data }], guard := Option.none }) rfl (by kernel_rfl) (by kernel_rfl) (by kernel_rfl) (fun _ _ _ h => h) (Or.inl ⟨by rfl, _⟩) (by assumption) _
          rotate_left
          · (intro wS hSw; (try dsimp only at hSw); go_simp; try with_reducible rfl)
          try simp only [Act.put, List.setIfInBounds_toArray, List.set_cons_zero, List.set_cons_succ]
          refine' wpAnyH_take (i := 8) (oi := { dst := Option.some 32, op := Op.binOp BinOp.add 3 (Operand.tmp 31) (Operand.const (Value.int IntKind.i64 1)) 3, type := 3, pos := "text.go:106", after := #[{ on := 7, ground := Ground.data }], guard := Option.none }) rfl (by kernel_rfl) (by kernel_rfl) (by kernel_rfl) (fun _ _ _ h => h) (Or.inl ⟨by rfl, _⟩) (by assumption) _
          rotate_left
          · (intro wS hSw; (try dsimp only at hSw); go_simp; try with_reducible rfl)
          try simp only [Act.put, List.setIfInBounds_toArray, List.set_cons_zero, List.set_cons_succ]
          refine' wpAnyH_take (i := 9) (oi := { dst := Option.some 33, op := Op.index 9 (Operand.tmp 29) (Operand.tmp 32), type := 5, pos := "text.go:106", after := #[{ on := 5, ground := Ground.data }, { on := 8, ground := Ground.data }], guard := Option.none }) rfl (by kernel_rfl) (by kernel_rfl) (by kernel_rfl) (fun _ _ _ h => h) (Or.inl ⟨by rfl, _⟩) (by assumption) _
          rotate_left
          · (intro wS hSw; (try dsimp only at hSw); go_simp; try with_reducible rfl)
          try simp only [Act.put, List.setIfInBounds_toArray, List.set_cons_zero, List.set_cons_succ]
          refine wpAnyH_ready (rs := [4]) (by kernel_rfl) (by simp) ?_
          refine AllReadyH.cons (o := { dst := Option.some 28, op := Op.call { callee := Callee.value (Operand.func 77), args := #[Operand.const (Value.string { data := #[48, 49, 50, 51, 52, 53, 54, 55, 56, 57, 97, 98, 99, 100, 101, 102] }), Operand.tmp 27], argTypes := #[9, 5] }, type := 3, pos := "text.go:106", after := #[{ on := 3, ground := Ground.data }], guard := Option.none }) rfl (fun K hK => ?_) AllReadyH.nil
          go_simp
          (go_at_call 77; refine (un_any a _).mono ?_; rintro e w' ⟨rfl, rfl⟩; rw [Hu.out])
          refine hK.out _ _ ?_ (fun hHeld => ?_)
          · trivial
          clear hK K
          try simp only [Act.put, List.setIfInBounds_toArray, List.set_cons_zero, List.set_cons_succ]
          refine wpAnyH_ready (rs := [10]) (by kernel_rfl) (by simp) ?_
          refine AllReadyH.cons (o := { dst := Option.some 34, op := Op.call { callee := Callee.value (Operand.func 77), args := #[Operand.const (Value.string { data := #[48, 49, 50, 51, 52, 53, 54, 55, 56, 57, 97, 98, 99, 100, 101, 102] }), Operand.tmp 33], argTypes := #[9, 5] }, type := 3, pos := "text.go:106", after := #[{ on := 9, ground := Ground.data }, { on := 4, ground := Ground.chain }], guard := Option.none }) rfl (fun K hK => ?_) AllReadyH.nil
          go_simp
          (go_at_call 77; refine (un_any b _).mono ?_; rintro e w' ⟨rfl, rfl⟩; rw [Hv.out])
          refine hK.out _ _ ?_ (fun hHeld => ?_)
          · trivial
          clear hK K
          try simp only [Act.put, List.setIfInBounds_toArray, List.set_cons_zero, List.set_cons_succ]
          refine' wpAnyH_take (i := 11) (oi := { dst := Option.some 8, op := Op.assign (Operand.tmp 28), type := 3, pos := "text.go:106", after := #[{ on := 4, ground := Ground.data }, { on := 10, ground := Ground.chain }, { on := 0, ground := Ground.phase }, { on := 1, ground := Ground.phase }, { on := 2, ground := Ground.phase }, { on := 3, ground := Ground.phase }, { on := 4, ground := Ground.phase }, { on := 5, ground := Ground.textOnly Departure.lateStores }, { on := 6, ground := Ground.textOnly Departure.lateStores }, { on := 7, ground := Ground.textOnly Departure.lateStores }, { on := 8, ground := Ground.textOnly Departure.lateStores }, { on := 9, ground := Ground.textOnly Departure.lateStores }, { on := 10, ground := Ground.textOnly Departure.lateStoresUnsure }], guard := Option.none }) rfl (by kernel_rfl) (by kernel_rfl) (by kernel_rfl) (fun _ _ _ h => h) (Or.inl ⟨by rfl, _⟩) (by assumption) _
          rotate_left
          · (intro wS hSw; (try dsimp only at hSw); go_simp; try with_reducible rfl)
          try simp only [Act.put, List.setIfInBounds_toArray, List.set_cons_zero, List.set_cons_succ]
          refine' wpAnyH_take (i := 12) (oi := { dst := Option.some 9, op := Op.assign (Operand.tmp 34), type := 3, pos := "text.go:106", after := #[{ on := 10, ground := Ground.data }, { on := 11, ground := Ground.chain }, { on := 0, ground := Ground.phase }, { on := 1, ground := Ground.phase }, { on := 2, ground := Ground.phase }, { on := 3, ground := Ground.phase }, { on := 4, ground := Ground.phase }, { on := 5, ground := Ground.phase }, { on := 6, ground := Ground.phase }, { on := 7, ground := Ground.phase }, { on := 8, ground := Ground.phase }, { on := 9, ground := Ground.phase }, { on := 10, ground := Ground.phase }, { on := 11, ground := Ground.phase }], guard := Option.none }) rfl (by kernel_rfl) (by kernel_rfl) (by kernel_rfl) (fun _ _ _ h => h) (Or.inl ⟨by rfl, _⟩) (by assumption) _
          rotate_left
          · (intro wS hSw; (try dsimp only at hSw); go_simp; try with_reducible rfl)
          try simp only [Act.put, List.setIfInBounds_toArray, List.set_cons_zero, List.set_cons_succ]
          refine wpAnyH_done (by kernel_rfl) ?_ _
          clear ha hb l1 l2 l3 l4 n1 n2
          by_cases hbad : u < 0 ∨ v < 0
          · have hR0 : R = none := by
              have h1 : pairB a b = none := by
                rw [Hp.out]
                rcases hbad with h | h
                · rw [decide_eq_true h]; rfl
                · rw [decide_eq_true h, Bool.or_true]; rfl
              rw [HP.out, Hdr.out, decL, h1]
              rfl
            subst hR0
            obtain rfl : D = zeros32 := HD0.out
            obtain rfl : E = 21 := HE0.out
            have key : decide (u < 0) = true ∨ (decide (u < 0) = false ∧ decide (v < 0) = true) := by
              by_cases h : u < 0
              · exact .inl (decide_eq_true h)
              · exact .inr ⟨decide_eq_false h, decide_eq_true (hbad.resolve_left h)⟩
            clear hbad HD0 HE0 HP HR Hp Hdr gu gv
            rcases key with k1 | ⟨k1, k2⟩ <;>
            · go_wp2_with (first
                | (refine wpList_buildD rfl rfl ?_)
                | (refine wpList_storeD rfl _ _ rfl w.heap.size rfl zeros32 zeros32 rfl rfl rfl HD1.out ?_; intro w6 hd6 hb6 hk6 hz6))
              refine bodyPost_ret (v := .tuple #[dv zeros32, .int .i64 21]) ?_ rfl ⟨rfl, (HB.out.drew).trans hb6⟩
              exact results_DE Try.results59 rfl rfl rfl hd6
          · obtain ⟨p, rfl⟩ : ∃ p : Nat, u = p := ⟨u.toNat, by omega⟩
            obtain ⟨q, rfl⟩ : ∃ q : Nat, v = q := ⟨v.toNat, by omega⟩
            have hp := Su.out p rfl
            have hq := Sv.out q rfl
            obtain ⟨N, hN⟩ : ∃ N, 16 * p + q = N := ⟨_, rfl⟩
            have hx := pair_bits hp hq
            rw [hN] at hx
            have hNb : N < 256 := by omega
            have hpb : pairB a b = some (UInt8.ofNat N) := by
              rw [Hp.out, decide_eq_false (by omega), decide_eq_false (by omega), Int.toNat_natCast, Int.toNat_natCast, hN]; rfl
            obtain ⟨x, hxx⟩ : ∃ x, UInt8.ofNat N = x := ⟨_, rfl⟩
            have hxN : (x.toNat : Int) = (N : Int) := by rw [← hxx, UInt8.toNat_ofNat']; omega
            rw [hxx] at hpb
            have HP2 : Hid (R = (decL (s.data.toList.drop (2 * (k + 1)))).map (fun l => (acc ++ [x]) ++ l)) := by
              show R = _
              rw [HP.out, Hdr.out, decL, hpb]
              cases decL (s.data.toList.drop (2 * (k + 1))) <;> simp
            have hla : acc.length < 32 := by have := Ha.out; omega
            obtain ⟨old, c1⟩ : ∃ old : Value, wr.cell? ⟨w.heap.size + 1, k, none⟩ = some old := ⟨_, HD2.out.cell k (by rw [padL_length acc (by omega)]; omega)⟩
            have f1 := HD2.out.free k
            have hset := padL_set acc x hla
            rw [Ha.out] at hset
            have Hset := Lib.hid hset
            have HxN := Lib.hid hxN
            have hx2 : bits .or .i64 (wrap64 ((p : Int) * 16)) (q : Int) % 256 = (x.toNat : Int) := by rw [IntWalk.wrap64_in _ (by omega), hx, hxN]; omega
            clear hN hxx hpb hla hset hxN hx HP Hp Hdr Su Sv gu gv hbad hp hq
            go_wp2_with fail
            have h1 := HD2.out.set k x
            rw [Hset.out] at h1
            refine ⟨⟨k + 1, acc ++ [x], by omega, ?_, HP2, heap_setOther HD1.out (by show w.heap.size ≠ w.heap.size + 1; omega) _, h1, (HB.out.setCell (by show w.heap.size ≤ w.heap.size + 1; omega) _).drew, by go_num⟩, by simp [intOf]; omega⟩
            show (acc ++ [x]).length = k + 1
            rw [List.length_append, Ha.out]; rfl
        · obtain rfl : k = m := by omega
          have hR1 : R = some acc := by
            rw [HP.out, List.drop_of_length_le (by rw [data_len]; omega)]
            simp [decL]
          subst hR1
          obtain rfl : D = padL acc := HD0.out
          obtain rfl : E = 0 := HE0.out
          have hpl : (padL acc).length = 32 := padL_length acc (by rw [Ha.out]; exact hm)
          have Hpl := Lib.hid hpl
          clear HD0 HE0 HP HR hpl
          go_wp2_with (first
            | (refine wpList_loadD rfl _ rfl (w.heap.size + 1) rfl (padL acc) Hpl.out HD2.out ?_)
            | (refine wpList_storeD rfl _ _ rfl w.heap.size rfl zeros32 (padL acc) rfl Hpl.out rfl HD1.out ?_; intro w6 hd6 hb6 hk6 hz6))
          refine bodyPost_ret (v := .tuple #[dv (padL acc), .int .i64 0]) ?_ rfl ⟨rfl, HB.out.trans hb6⟩
          exact results_DE Try.results59 rfl rfl Hpl.out hd6
    · have e3 := readV_short (m := m) (L := s.data.toList) (by rw [data_len]; exact hlen)
      obtain rfl : D = zeros32 := by rw [← HD0.out]; unfold readD; rw [e3]; rfl
      obtain rfl : E = 21 := by rw [← HE0.out]; unfold readE; rw [e3]; rfl
      have d0 : ((s.size : Int) != 2 * (m : Int)) = true := by rw [bne_iff_ne]; omega
      clear e3 hlen HD0 HE0
      go_wp2_with (first
        | (refine wpList_loadD rfl _ rfl (w.heap.size + 1) rfl zeros32 rfl HD2.out ?_)
        | (refine wpList_storeD rfl _ _ rfl w.heap.size rfl zeros32 zeros32 rfl rfl rfl HD1.out ?_; intro w6 hd6 hb6 hk6 hz6))
      refine bodyPost_ret (v := .tuple #[dv zeros32, .int .i64 21]) ?_ rfl ⟨rfl, HB.out.trans hb6⟩
      exact results_DE Try.results59 rfl rfl rfl hd6
end Go.Proofs.Ytmjikebbknjahaa
