/-
  The walk of the reference's Read.
-/
import Derived.Test.YtmjikebbknjahaaHexW
import Derived.Test.YtmjikebbknjahaaPartsV
import Derived.Test.YtmjikebbknjahaaSameW
import Derived.BigQuiet
namespace Go.Proofs.Ytmjikebbknjahaa
open Go.RowKit Go.Lib Hw
set_option linter.unusedVariables false

theorem hexd_inj {p q : Nat} (hp : p < 16) (hq : q < 16) (h : hexd p = hexd q) : p = q := by
  have h1 := un_hexd ⟨p, hp⟩
  have h2 := un_hexd ⟨q, hq⟩
  simp only at h1 h2
  rw [h, h2] at h1
  omega
/-- what the reference's inner loop has found below k -/
def innerB (a b : UInt8) : Nat → UInt8
  | 0 => 0
  | k + 1 => bif (hexd (k / 16) == a) && (hexd (k % 16) == b) then UInt8.ofNat k else innerB a b k
def refB (a b : UInt8) : UInt8 := innerB a b 256
theorem innerB_hex2 (c : UInt8) : ∀ k, k ≤ 256 → innerB (hexd (c.toNat / 16)) (hexd (c.toNat % 16)) k = if c.toNat < k then c else 0
  | 0, _ => by rw [if_neg (by omega)]; rfl
  | k + 1, hk => by
    have hc := c.toNat_lt
    rw [innerB, innerB_hex2 c k (by omega)]
    by_cases h : k = c.toNat
    · subst h
      simp
    · have h1 : ((hexd (k / 16) == hexd (c.toNat / 16)) && (hexd (k % 16) == hexd (c.toNat % 16))) = false := by
        rw [Bool.and_eq_false_iff, beq_eq_false_iff_ne, beq_eq_false_iff_ne]
        by_cases h2 : k / 16 = c.toNat / 16
        · right
          intro h3
          have := hexd_inj (by omega) (by omega) h3
          omega
        · left
          intro h3
          exact h2 (hexd_inj (by omega) (by omega) h3)
      rw [h1, cond_false]
      by_cases h4 : c.toNat < k
      · rw [if_pos h4, if_pos (by omega)]
      · rw [if_neg h4, if_neg (by omega)]
theorem refB_hex2 (c : UInt8) : refB (hexd (c.toNat / 16)) (hexd (c.toNat % 16)) = c := by
  have hc := c.toNat_lt
  rw [refB, innerB_hex2 c 256 (by omega), if_pos (by omega)]
def refPre (L : List UInt8) (i : Nat) : List UInt8 := (List.range i).map (fun k => refB (L.getD (2 * k) 0) (L.getD (2 * k + 1) 0))
theorem refPre_length (L : List UInt8) (i : Nat) : (refPre L i).length = i := by simp [refPre]
theorem refPre_succ (L : List UInt8) (i : Nat) : refPre L (i + 1) = refPre L i ++ [refB (L.getD (2 * i) 0) (L.getD (2 * i + 1) 0)] := by
  unfold refPre
  rw [List.range_succ, List.map_append]
  rfl
theorem hexL_get : ∀ (l : List UInt8) (k : Nat) (h : k < l.length), (hexL l).getD (2 * k) 0 = hexd (l[k].toNat / 16) ∧ (hexL l).getD (2 * k + 1) 0 = hexd (l[k].toNat % 16)
  | c :: l, 0, h => ⟨rfl, rfl⟩
  | c :: l, k + 1, h => by
    have h1 := hexL_get l k (by simpa using h)
    have e1 : hexL (c :: l) = hexd (c.toNat / 16) :: hexd (c.toNat % 16) :: hexL l := rfl
    have e2 : 2 * (k + 1) = 2 * k + 1 + 1 := by omega
    rw [e1, e2]
    simpa using h1
theorem refPre_hexL (l : List UInt8) : ∀ k, k ≤ l.length → refPre (hexL l) k = l.take k
  | 0, _ => rfl
  | k + 1, h => by
    have h1 := hexL_get l k (by omega)
    rw [refPre_succ, refPre_hexL l k (by omega), h1.1, h1.2, refB_hex2, List.take_add_one, List.getElem?_eq_getElem (by omega)]
    rfl
theorem padL_set0 (l : List UInt8) (h : l.length < 32) : (padL l).set l.length 0 = padL l := by
  rw [padL_set l 0 h]
  unfold padL
  obtain ⟨m, hm⟩ : ∃ m, 32 - l.length = m + 1 := ⟨31 - l.length, by omega⟩
  have e2 : 32 - (l ++ [0]).length = m := by rw [List.length_append, List.length_singleton]; omega
  rw [hm, e2, List.replicate_succ, List.append_assoc]
  rfl
theorem lay_pad (acc : List UInt8) (m : Nat) (h : acc.length ≤ m) (hm : m ≤ 32) : lay32 (padL acc) m = padL acc := by
  unfold lay32 padL
  rw [List.take_append, List.take_of_length_le h, List.take_replicate, List.append_assoc, List.replicate_append_replicate]
  congr 2
  omega
theorem fit_pad (acc : List UInt8) (m : Nat) (h : acc.length ≤ m) (hm : m ≤ 32) (hw : wideB (m : Int) = true) : fitB (m : Int) (padL acc) = true := by
  unfold fitB cutL
  rw [hw, cond_true, cond_true, Int.toNat_natCast, lay_pad acc m h hm]
  exact beq_self_eq_true _
/-- what the reference's Read makes of what its loops have laid -/
theorem ref_read (L acc : List UInt8) (m K : Nat) (hm : m ≤ 32) (hK : K ≤ m) (hL : 2 * K ≤ L.length) (hacc : acc = refPre L K) (hend : K < m → L.length ≤ 2 * K + 1) :
    (hexL ((padL acc).take m) = L ∧ readV m L = some acc ∧ acc.length = m) ∨ (hexL ((padL acc).take m) ≠ L ∧ readV m L = none) := by
  have hal : acc.length = K := by rw [hacc, refPre_length]
  have hpl := padL_length acc (by omega)
  cases hr : readV m L with
  | none =>
    right
    refine ⟨fun h => ?_, rfl⟩
    have h1 := readV_hexL ((padL acc).take m)
    rw [h, List.length_take, hpl, Nat.min_eq_left hm, hr] at h1
    cases h1
  | some l =>
    left
    obtain ⟨h1, h2⟩ := readV_some hr
    have h3 := hexL_length l
    rw [← h1] at h3
    have hKm : K = m := by
      rcases Nat.lt_or_ge K m with h | h
      · have := hend h; omega
      · omega
    have h4 : acc = l := by rw [hacc, h1, refPre_hexL l K (by omega), List.take_of_length_le (by omega)]
    subst h4
    refine ⟨?_, rfl, h2⟩
    rw [h1]
    congr 1
    unfold padL
    rw [List.take_append, List.take_of_length_le (by omega), h2, Nat.sub_self]
    simp

set_option maxHeartbeats 4000000 in
theorem refRead_any (n : Int) (s : ByteArray) (w : World) (hs : s.size ≤ 4611686018427387904) :
    Calls Try.prog 60 #[.int .i64 n, .string s] w fun e w' => e = .returned (.tuple #[dv (readRD n s.data.toList), .int .i64 (readRE n s.data.toList)]) ∧ Below w.heap.size w w' := by
  cases hw : wideB n
  · have e1 : readRD n s.data.toList = zeros32 := by unfold readRD; rw [hw]; rfl
    have e2 : readRE n s.data.toList = 2 := by unfold readRE; rw [hw]; rfl
    rw [e1, e2]
    have HW := Lib.hid hw
    clear hw e1 e2
    go_enter Try.func60, Try.ntmps60
    go_upto_region 1 with (refine wpList_allocD rfl rfl w.heap.size rfl ?_; intro w1 hd1 hb1 hz1)
    have HD1 := Lib.hid hd1
    have HB1 := Lib.hid hb1
    clear hd1 hb1
    go_wp2_with (first
      | (go_at_call 72; refine (may_any _ _).mono ?_; rintro e w3 ⟨rfl, rfl⟩; rw [HW.out])
      | (refine wpList_buildD rfl rfl ?_)
      | (refine wpList_storeD rfl _ _ rfl w.heap.size rfl zeros32 zeros32 rfl rfl rfl HD1.out ?_; intro w6 hd6 hb6 hk6 hz6))
    refine bodyPost_ret (v := .tuple #[dv zeros32, .int .i64 2]) ?_ rfl ⟨rfl, HB1.out.trans hb6⟩
    exact results_DE Try.results60 rfl rfl rfl hd6
  · have hb := wideB_yes hw
    have e1 : readRD n s.data.toList = readD n.toNat s.data.toList := by unfold readRD; rw [hw]; rfl
    have e2 : readRE n s.data.toList = readE n.toNat s.data.toList := by unfold readRE; rw [hw]; rfl
    rw [e1, e2]
    obtain ⟨m, rfl⟩ : ∃ m : Nat, n = m := ⟨n.toNat, by omega⟩
    rw [Int.toNat_natCast]
    have hm : m ≤ 32 := by omega
    have HW := Lib.hid hw
    clear hw e1 e2 hb
    obtain ⟨D, hD⟩ : ∃ D, readD m s.data.toList = D := ⟨_, rfl⟩
    obtain ⟨E, hE⟩ : ∃ E, readE m s.data.toList = E := ⟨_, rfl⟩
    rw [hD, hE]
    have HD0 := Lib.hid hD
    have HE0 := Lib.hid hE
    clear hD hE
    go_enter Try.func60, Try.ntmps60
    go_upto_region 4 with (first
      | (refine wpList_allocD rfl rfl w.heap.size rfl ?_; intro w1 hd1 hb1 hz1)
      | (go_at_call 72; refine (may_any _ _).mono ?_; rintro e w3 ⟨rfl, rfl⟩; rw [HW.out])
      | (refine wpList_allocD rfl rfl (w.heap.size + 1) hz1 ?_; intro w2 hd2 hb2 hz2))
    have HD1 := Lib.hid (hd1.below hb2 (by omega))
    have HD2 := Lib.hid hd2
    have HB := Lib.hid (hb1.trans (hb2.mono (by omega)))
    clear hd1 hb1 hz1 hd2 hb2 hz2
    go_wp2_with fail
    go_loopw [7, 8] (fun i _ wr => ∃ (k : Nat) (acc : List UInt8), k ≤ m ∧ Hid (2 * k ≤ s.size) ∧ Hid (acc = refPre s.data.toList k) ∧ Hid (DB wr w.heap.size zeros32) ∧ Hid (DB wr (w.heap.size + 1) (padL acc)) ∧ Hid (Below w.heap.size w wr) ∧ i = .int .i64 (k : Int)) (fun i _ _ => m - (intOf i).toNat)
    case atStart => exact ⟨0, [], by omega, (Nat.zero_le _ : 2 * 0 ≤ s.size), (rfl : [] = refPre s.data.toList 0), HD1, HD2, HB, rfl⟩
    case round =>
      clear HD1 HD2 HB
      obtain ⟨k, acc, hk, Hk2, Ha, HD1, HD2, HB, rfl⟩ := hrel
      have w1' : IntKind.i64.wrap (2 * (k : Int)) = 2 * (k : Int) := IntWalk.i64_in _ (by omega)
      have w2' : IntKind.i64.wrap (2 * (k : Int) + 1) = 2 * (k : Int) + 1 := IntWalk.i64_in _ (by omega)
      by_cases hgo : k < m ∧ 2 * k + 1 < s.size
      · obtain ⟨hlt, hlt2⟩ := hgo
        have d1 : decide (k < m) = true := decide_eq_true hlt
        have d2 : decide (2 * (k : Int) + 1 < (s.size : Int)) = true := decide_eq_true (by omega)
        have d3 : decide (2 * k + 1 < s.size) = true := decide_eq_true hlt2
        have hl0 := data_len s
        have l3 : 2 * k < s.size := by omega
        obtain ⟨a, ha⟩ : ∃ a, s[2 * k]'l3 = a := ⟨_, rfl⟩
        obtain ⟨b, hb⟩ : ∃ b, s[2 * k + 1]'hlt2 = b := ⟨_, rfl⟩
        have hga : s.data.toList.getD (2 * k) 0 = a := by rw [List.getD_eq_getElem?_getD, List.getElem?_eq_getElem (by omega), ← ha]; rfl
        have hgb : s.data.toList.getD (2 * k + 1) 0 = b := by rw [List.getD_eq_getElem?_getD, List.getElem?_eq_getElem (by omega), ← hb]; rfl
        have hal : acc.length = k := by rw [Ha.out, refPre_length]
        have n1 : (2 * (k : Int)).toNat = 2 * k := by omega
        have n2 : (2 * (k : Int) + 1).toNat = 2 * k + 1 := by omega
        have l1 : 2 * (k : Int) < (s.size : Int) := by omega
        have l5 : (0 : Int) ≤ 2 * (k : Int) := by omega
        have l6 : (0 : Int) ≤ 2 * (k : Int) + 1 := by omega
        have hk32 : (k : Int) < 32 := by omega
        have l2 : 2 * (k : Int) + 1 < (s.size : Int) := by omega
        have Hga := Lib.hid hga
        have Hgb := Lib.hid hgb
        have Hal := Lib.hid hal
        have hst : Hid (DB wr (w.heap.size + 1) ((padL acc).set k (innerB a b 0))) := by
          have h := padL_set0 acc (by omega)
          rw [hal] at h
          show DB _ _ ((padL acc).set k 0)
          rw [h]
          exact HD2.out
        clear hga hgb hl0 hal
        go_wp2_with fail
        go_loopw [8] (fun j wi => ∃ (q : Nat), q ≤ 256 ∧ Hid (DB wi w.heap.size zeros32) ∧ Hid (DB wi (w.heap.size + 1) ((padL acc).set k (innerB a b q))) ∧ Hid (Below w.heap.size w wi) ∧ j = .int .i64 (q : Int)) (fun j _ => 256 - (intOf j).toNat)
        case atStart => exact ⟨0, by omega, HD1, hst, HB, rfl⟩
        case round =>
          clear hst HD1 HD2 HB
          obtain ⟨q, hq, HD1, HD2, HB, rfl⟩ := hrel
          by_cases hql : q < 256
          · have e1 : decide (q < 256) = true := decide_eq_true hql
            have e2 : decide ((q : Int) < 256) = true := decide_eq_true (by omega)
            obtain ⟨p1, hp1⟩ : ∃ p, q / 16 = p := ⟨_, rfl⟩
            obtain ⟨p2, hp2⟩ : ∃ p, q % 16 = p := ⟨_, rfl⟩
            have v1 : IntKind.u8.wrap (q : Int) = (q : Int) := by rw [IntKind.wrap_u8]; omega
            have v2 : IntKind.u8.wrap ((q : Int) / 16) = (p1 : Int) := by rw [IntKind.wrap_u8]; omega
            have v2' : IntKind.u8.wrap ((q : Int).tdiv 16) = (p1 : Int) := by rw [Int.tdiv_eq_ediv_of_nonneg (by omega), IntKind.wrap_u8]; omega
            have v3 : (q : Int).tmod 16 = (p2 : Int) := by rw [Int.tmod_eq_emod_of_nonneg (by omega)]; omega
            have b1 : p1 < 16 := by omega
            have b2 : p2 < 16 := by omega
            obtain ⟨x1, hx1⟩ : ∃ x, hexd p1 = x := ⟨_, rfl⟩
            obtain ⟨x2, hx2⟩ : ∃ x, hexd p2 = x := ⟨_, rfl⟩
            have D1 : ∀ W, Calls Try.prog 78 #[.int .u8 (p1 : Int)] W fun e w' => e = .returned (.int .u8 (x1.toNat : Int)) ∧ w' = W := fun W => by rw [← hx1]; exact (digit_any p1 W b1).mono (fun e w' h => ⟨h.1, h.2.symm⟩)
            have D2 : ∀ W, Calls Try.prog 78 #[.int .u8 (p2 : Int)] W fun e w' => e = .returned (.int .u8 (x2.toNat : Int)) ∧ w' = W := fun W => by rw [← hx2]; exact (digit_any p2 W b2).mono (fun e w' h => ⟨h.1, h.2.symm⟩)
            have HD1' := Lib.hid D1
            have HD2' := Lib.hid D2
            have hin : innerB a b (q + 1) = bif (x1 == a) && (x2 == b) then UInt8.ofNat q else innerB a b q := by rw [innerB, hp1, hp2, hx1, hx2]
            have Hin := Lib.hid hin
            clear D1 D2 hp1 hp2 hx1 hx2 hin
            set_option maxRecDepth 5000 in
            go_upto_region 10 with fail
            by_cases hm1 : x1 = a
            · have g1 : ((x1.toNat : Int) == (a.toNat : Int)) = true := by rw [hm1]; exact beq_self_eq_true _
              by_cases hm2 : x2 = b
              · have g2 : ((x2.toNat : Int) == (b.toNat : Int)) = true := by rw [hm2]; exact beq_self_eq_true _
                have hnx : Hid (innerB a b (q + 1) = UInt8.ofNat q) := by show _ = _; rw [Hin.out, hm1, hm2]; simp
                have hlk : ((padL acc).set k (innerB a b q)).length = 32 := by rw [List.length_set]; exact padL_length acc (by rw [Hal.out]; omega)
                obtain ⟨old, c1⟩ : ∃ old : Value, wr.cell? ⟨w.heap.size + 1, k, none⟩ = some old := ⟨_, HD2.out.cell k (by rw [hlk]; omega)⟩
                have f1 := HD2.out.free k
                clear hm1 hm2 hlk
                go_quiet ((go_at_call 78; first | with_reducible exact Calls.quiet_of_same (HD1'.out _) | with_reducible exact Calls.quiet_of_same (HD2'.out _)))
                set_option maxRecDepth 5000 in
                go_wp2_with fail
                have hset := DB.set (w := wr.drewN nq) HD2.out k (UInt8.ofNat q)
                have hqv : ((UInt8.ofNat q).toNat : Int) = (q : Int) := by rw [UInt8.toNat_ofNat']; omega
                rw [hqv, List.set_set, ← hnx.out] at hset
                refine ⟨⟨q + 1, by omega, ?_, hset, (below_drewN HB.out).setCell (by show w.heap.size ≤ w.heap.size + 1; omega) _, by go_num⟩, by simp [intOf]; omega⟩
                exact heap_setOther (w := wr.drewN nq) HD1.out (by show w.heap.size ≠ w.heap.size + 1; omega) _
              · have g2 : ((x2.toNat : Int) == (b.toNat : Int)) = false := by
                  rw [beq_eq_false_iff_ne]
                  intro h
                  exact hm2 (UInt8.toNat_inj.1 (by omega))
                have hnx : Hid (innerB a b (q + 1) = innerB a b q) := by show _ = _; rw [Hin.out, beq_eq_false_iff_ne.2 hm2, Bool.and_false, cond_false]
                clear hm1 hm2
                go_quiet ((go_at_call 78; first | with_reducible exact Calls.quiet_of_same (HD1'.out _) | with_reducible exact Calls.quiet_of_same (HD2'.out _)))
                set_option maxRecDepth 5000 in
                go_wp2_with fail
                exact ⟨⟨q + 1, by omega, HD1.out, by rw [hnx.out]; exact HD2.out, below_drewN HB.out, by go_num⟩, by simp [intOf]; omega⟩
            · have g1 : ((x1.toNat : Int) == (a.toNat : Int)) = false := by
                rw [beq_eq_false_iff_ne]
                intro h
                exact hm1 (UInt8.toNat_inj.1 (by omega))
              have hnx : Hid (innerB a b (q + 1) = innerB a b q) := by show _ = _; rw [Hin.out, beq_eq_false_iff_ne.2 hm1, Bool.false_and, cond_false]
              clear hm1
              go_quiet ((go_at_call 78; first | with_reducible exact Calls.quiet_of_same (HD1'.out _) | with_reducible exact Calls.quiet_of_same (HD2'.out _)))
              set_option maxRecDepth 5000 in
              go_wp2_with fail
              exact ⟨⟨q + 1, by omega, HD1.out, by rw [hnx.out]; exact HD2.out, below_drewN HB.out, by go_num⟩, by simp [intOf]; omega⟩
          · obtain rfl : q = 256 := by omega
            have e1 : decide (256 < 256) = false := rfl
            set_option maxRecDepth 5000 in
            go_wp2_with fail
            have hb2 := HD2.out
            have h5 := padL_set acc (refB a b) (by rw [Hal.out]; omega)
            rw [Hal.out] at h5
            have h6 : DB wr (w.heap.size + 1) ((padL acc).set k (refB a b)) := hb2
            rw [h5] at h6
            refine ⟨⟨k + 1, acc ++ [refB a b], by omega, ?_, ?_, HD1.out, h6, HB.out, by go_num⟩, by simp [intOf]; omega⟩
            · show 2 * (k + 1) ≤ s.size
              omega
            · show acc ++ [refB a b] = refPre s.data.toList (k + 1)
              rw [refPre_succ, Hga.out, Hgb.out, ← Ha.out]
      · have key : (decide (k < m) = false) ∨ (decide (k < m) = true ∧ decide (2 * (k : Int) + 1 < (s.size : Int)) = false ∧ decide (2 * k + 1 < s.size) = false) := by
          by_cases h : k < m
          · exact .inr ⟨decide_eq_true h, decide_eq_false (by omega), decide_eq_false (by omega)⟩
          · exact .inl (decide_eq_false h)
        have hend : k < m → s.data.toList.length ≤ 2 * k + 1 := fun h => by
          rw [data_len]
          have h2 : ¬ 2 * k + 1 < s.size := fun h3 => hgo ⟨h, h3⟩
          omega
        have hr := ref_read s.data.toList acc m k hm hk (by rw [data_len]; exact Hk2.out) Ha.out hend
        have hal : acc.length = k := by rw [Ha.out, refPre_length]
        have hfit := fit_pad acc m (by omega) hm HW.out
        have hpl := padL_length acc (by omega)
        have Hpl := Lib.hid hpl
        have hsB : showB (m : Int) (padL acc) = ⟨(hexL ((padL acc).take m)).toArray⟩ := by unfold showB; rw [hfit, cond_true, Int.toNat_natCast]
        obtain ⟨T, hT⟩ : ∃ T, showB (m : Int) (padL acc) = T := ⟨_, rfl⟩
        have HT := Lib.hid hT
        have fin : (T = s ∧ D = padL acc ∧ E = 0) ∨ (T ≠ s ∧ D = zeros32 ∧ E = 21) := by
          have hD := HD0.out
          have hE := HE0.out
          rw [hT] at hsB
          rcases hr with ⟨h1, h2, h3⟩ | ⟨h1, h2⟩
          · left
            refine ⟨?_, ?_, ?_⟩
            · rw [hsB, h1]
            · rw [← hD, readD, h2]; rfl
            · rw [← hE, readE, h2]; rfl
          · right
            refine ⟨fun h => h1 ?_, ?_, ?_⟩
            · rw [← h, hsB]
            · rw [← hD, readD, h2]; rfl
            · rw [← hE, readE, h2]; rfl
        clear hr hend hgo hal hfit hpl hsB hT HD0 HE0 Ha Hk2
        rcases key with k1 | ⟨k1, k2, k3⟩ <;>
        · rcases fin with ⟨f1, rfl, rfl⟩ | ⟨f1, rfl, rfl⟩
          · have g1 : (T.toList == s.toList) = true := by rw [f1]; exact beq_self_eq_true _
            clear f1
            set_option maxRecDepth 5000 in
            go_wp2_with (first
              | (refine wpList_loadD rfl _ rfl (w.heap.size + 1) rfl (padL acc) Hpl.out HD2.out ?_; (try simp only [Act.put, List.setIfInBounds_toArray, List.set_cons_zero, List.set_cons_succ]))
              | (go_at_call 62; refine (refShow_any (m : Int) (padL acc) _ Hpl.out).mono ?_; rintro e w5 ⟨rfl, hb5⟩; rw [HT.out]; have HE1 := Lib.hid (HD1.out.below hb5 (heap_lt HD1.out)); have HE2 := Lib.hid (HD2.out.below hb5 (heap_lt HD2.out)))
              | (refine wpList_loadD rfl _ rfl (w.heap.size + 1) rfl (padL acc) Hpl.out HE2.out ?_; (try simp only [Act.put, List.setIfInBounds_toArray, List.set_cons_zero, List.set_cons_succ]))
              | (refine wpList_buildD rfl rfl ?_)
              | (refine wpList_storeD rfl _ _ rfl w.heap.size rfl zeros32 (padL acc) rfl Hpl.out rfl HE1.out ?_; intro w6 hd6 hb6 hk6 hz6))
            refine bodyPost_ret (v := .tuple #[dv (padL acc), .int .i64 0]) ?_ rfl ⟨rfl, (HB.out.trans (hb5.mono HB.out.size)).trans hb6⟩
            exact results_DE Try.results60 rfl rfl Hpl.out hd6
          · have g1 := bne_bytes f1
            clear f1
            set_option maxRecDepth 5000 in
            go_wp2_with (first
              | (refine wpList_loadD rfl _ rfl (w.heap.size + 1) rfl (padL acc) Hpl.out HD2.out ?_; (try simp only [Act.put, List.setIfInBounds_toArray, List.set_cons_zero, List.set_cons_succ]))
              | (go_at_call 62; refine (refShow_any (m : Int) (padL acc) _ Hpl.out).mono ?_; rintro e w5 ⟨rfl, hb5⟩; rw [HT.out]; have HE1 := Lib.hid (HD1.out.below hb5 (heap_lt HD1.out)); have HE2 := Lib.hid (HD2.out.below hb5 (heap_lt HD2.out)))
              | (refine wpList_loadD rfl _ rfl (w.heap.size + 1) rfl (padL acc) Hpl.out HE2.out ?_; (try simp only [Act.put, List.setIfInBounds_toArray, List.set_cons_zero, List.set_cons_succ]))
              | (refine wpList_buildD rfl rfl ?_)
              | (refine wpList_storeD rfl _ _ rfl w.heap.size rfl zeros32 zeros32 rfl rfl rfl HE1.out ?_; intro w6 hd6 hb6 hk6 hz6))
            refine bodyPost_ret (v := .tuple #[dv zeros32, .int .i64 21]) ?_ rfl ⟨rfl, (HB.out.trans (hb5.mono HB.out.size)).trans hb6⟩
            exact results_DE Try.results60 rfl rfl rfl hd6
end Go.Proofs.Ytmjikebbknjahaa
