/-
  The walk of the law SumsHash.
-/
import Derived.Test.YtmjikebbknjahaaHashI
import Derived.BigQuiet
namespace Go.Proofs.Ytmjikebbknjahaa
open Go.RowKit Go.Lib Hw
set_option linter.unusedVariables false

structure ActV where
  o : Int
  n : Int
  k : Int
  pv : Value
  ps : List ByteArray
def okInt (n : Int) : Prop := -9223372036854775808 ≤ n ∧ n ≤ 9223372036854775807
def cost (a : ActV) : Nat := (flat a.ps).length + a.ps.length
def ActRow (w : World) (v : Value) (acts : List ActV) : Prop :=
  ∃ ad c, v = .slice ad acts.length c ∧ (0 < acts.length → ∃ b o, ad = some ⟨b, o, none⟩ ∧ ∀ i (h : i < acts.length), w.cell? ⟨b, o + i * 4, none⟩ = some (.int .i64 acts[i].o) ∧ w.cell? ⟨b, o + i * 4 + 1, none⟩ = some (.int .i64 acts[i].n) ∧
    w.cell? ⟨b, o + i * 4 + 2, none⟩ = some (.int .i64 acts[i].k) ∧ w.cell? ⟨b, o + i * 4 + 3, none⟩ = some acts[i].pv ∧ StrRow w acts[i].pv acts[i].ps ∧ okInt acts[i].o ∧ okInt acts[i].n ∧ okInt acts[i].k)
def IsActs (w : World) (v : Value) : Prop := ∃ acts, ActRow w v acts ∧ acts.length ≤ 9223372036854775807 ∧ (acts.map cost).sum ≤ 1048576
theorem sum_take (acts : List ActV) (k : Nat) (h : k < acts.length) : ((acts.take (k + 1)).map cost).sum = ((acts.take k).map cost).sum + cost acts[k] := by
  rw [List.take_add_one, List.getElem?_eq_getElem h, List.map_append, List.sum_append]
  simp
theorem sum_take_le (acts : List ActV) (k : Nat) : ((acts.take k).map cost).sum ≤ (acts.map cost).sum := by
  conv => rhs; rw [← List.take_append_drop k acts]
  rw [List.map_append, List.sum_append]
  omega
theorem zero_PA (w : World) : (zeroValue 65).run Try.prog w = .ok (.agg ([.pointer none, .pointer none, .pointer none, .pointer none] : List Value).toArray) w := by kernel_rfl
theorem zero_S4 (w : World) : (zeroValue 66).run Try.prog w = .ok (.agg ([.string ⟨#[]⟩, .string ⟨#[]⟩, .string ⟨#[]⟩, .string ⟨#[]⟩] : List Value).toArray) w := by kernel_rfl

theorem neD_same (l : List UInt8) (hl : l.length = 32) : ∀ w, (binOp .neq 39 (dv l) (dv l)).run Try.prog w = .ok (.bool false) w := fun w => by
  show (binOp .neq _ (.agg (l.map bv).toArray) (.agg (l.map bv).toArray)).run _ _ = _
  rw [run_neq_struct]
  have h := run_equalIn_bytes w 9998 39 5 32 Try.underlying39 Try.underlying5 (fun w => size_u8 w) l l hl hl
  have e : (fun b : UInt8 => bv b) = bv := rfl
  rw [show (Op.equalIn 10000 39 (.agg (l.map bv).toArray) (.agg (l.map bv).toArray)).run Try.prog w = .ok (l == l) w from h, show (l == l) = true from beq_self_eq_true l]
  rfl
theorem HSumD_any (B p : Nat) (rv : Value) (l : List UInt8) (w : World) (hw : Hid (HashB w B p rv l l.length)) (hs : l.length ≤ 1000000000000000000) :
    Calls Try.prog 52 #[.pointer (some ⟨p, 0, none⟩)] w fun e w' => e = .returned (dv (sha256 l)) ∧ Below w.heap.size w w' := HSum_any B p rv l w hw hs
theorem Len_q (B p : Nat) (rv : Value) (l : List UInt8) (n : Int) (w : World) (h : HashB w B p rv l n) : Calls Try.prog 53 #[.pointer (some ⟨p, 0, none⟩)] w fun e w' => e = .returned (.int .i64 n) ∧ w' = w := (Len_any B p rv l n w h).mono (fun _ _ h => ⟨h.1, h.2.symm⟩)

set_option maxHeartbeats 16000000 in
theorem SumsHash_walk (v0 : Value) (w : World) (h0 : IsActs w v0) :
    Calls Try.prog 16 #[v0] w fun e w' => e = .returned (.bool true) ∧ Below w.heap.size w w' := by
  obtain ⟨acts, ⟨ad, c, rfl, hac⟩, hal, hsum⟩ := h0
  have HAC := Lib.hid hac
  clear hac
  go_enter Try.func16, Try.ntmps16
  go_upto_region 3 with (first
    | (refine wpList_allocB rfl 65 rfl w.heap.size rfl _ zero_PA ?_; intro w1 h1 hB1 hz1)
    | (refine wpList_allocB rfl 66 rfl (w.heap.size + 1) hz1 _ zero_S4 ?_; intro w2 h2 hB2 hz2))
  have T0 : Hid (HI w (fun i => i < 0) (fun _ => 0) (fun _ => .slice none 0 0) (fun _ => []) (fun _ => ⟨#[]⟩) w2) := by
    refine ⟨⟨_, heap_below h1 hB2 (by omega), rfl, fun i hi hk => by omega⟩, ⟨_, h2, rfl, fun i hi => ?_⟩, fun i hi hk => by omega, fun i hi hk => by omega, fun i j hi hj hk => by omega, fun i j hi hj hk => by omega, fun i j hi hj hk => by omega, by omega, hB1.trans (hB2.mono (by omega))⟩
    match i, hi with
    | 0, _ => rfl
    | 1, _ => rfl
    | 2, _ => rfl
    | 3, _ => rfl
  clear h1 hB1 hz1 h2 hB2 hz2
  go_wp2_with fail
  go_loopw [5] (fun i wr => ∃ (k : Nat) (p : Nat → Nat) (rv : Nat → Value) (l : Nat → List UInt8), k ≤ 4 ∧ Hid (HI w (fun i => i < k) p rv l (fun _ => ⟨#[]⟩) wr) ∧ Hid (∀ i, i < k → l i = []) ∧ i = .int .i64 (k : Int)) (fun i _ => 4 - (intOf i).toNat)
  case atStart => exact ⟨0, _, _, _, by omega, T0, fun i hi => by omega, rfl⟩
  case round =>
    clear T0
    obtain ⟨k, p, rv, l, hk, TI, HL, rfl⟩ := hrel
    by_cases hlt : k < 4
    · have dk : decide (k < 4) = true := decide_eq_true hlt
      have dk2 : decide ((k : Int) < 4) = true := decide_eq_true (by omega)
      have ik : (k : Int) < 4 := by omega
      go_upto_region 6 with fail
      go_wp2_with (go_at_call 49; refine (New_any _).mono ?_; rintro e w3 ⟨q, rfl, hq1, hq2, hq3, hb3⟩; obtain ⟨old, r3⟩ := (TI.out.below hb3).oldP k hlt; have f3 := (TI.out.below hb3).freeP k; have T4 := Lib.hid ((TI.out.put k hlt hb3 hq3 hq1 (Nat.le_refl _)).weak (ok' := fun i => i < k + 1) (fun i _ h => by omega)); have r4 := T4.out.cellP k hlt (by omega))
      have HL4 : Hid (∀ i, i < k + 1 → upd l k [] i = []) := fun i hi => by
        by_cases hik : i = k
        · rw [hik, upd_at]
        · rw [upd_ne _ _ hik]; exact HL.out i (by omega)
      exact ⟨⟨k + 1, _, _, _, by omega, T4, HL4, by go_num⟩, by simp [intOf]; omega⟩
    · obtain rfl : k = 4 := by omega
      have dk : decide (4 < 4) = false := rfl
      have T5 : Hid (HI w (fun _ => True) p rv l (fun _ => ⟨#[]⟩) wr) := TI.out.weak (fun i hi _ => hi)
      have HT5 : Hid (∀ i, i < 4 → ((fun _ => ⟨#[]⟩ : Nat → ByteArray) i).data.toList = l i) := fun i hi => (HL.out i hi).symm
      have HN5 : Hid (∀ i, i < 4 → (l i).length ≤ ((acts.take 0).map cost).sum) := fun i hi => by rw [HL.out i hi]; exact Nat.zero_le _
      clear TI HL
      go_wp2_with fail
      go_loopw [6] (fun i wr => ∃ (k : Nat) (p : Nat → Nat) (rv : Nat → Value) (l : Nat → List UInt8) (t : Nat → ByteArray), k ≤ acts.length ∧ Hid (HI w (fun _ => True) p rv l t wr) ∧ Hid (∀ i, i < 4 → (t i).data.toList = l i) ∧ Hid (∀ i, i < 4 → (l i).length ≤ ((acts.take k).map cost).sum) ∧ i = .int .i64 (k : Int)) (fun i _ => acts.length - (intOf i).toNat)
      case atStart => exact ⟨0, _, _, _, _, Nat.zero_le _, T5, HT5, HN5, rfl⟩
      case round =>
        clear T5 HT5 HN5
        clear l p rv
        obtain ⟨k, p, rv, l, t, hk, TI, HT, HN, rfl⟩ := hrel
        by_cases hlt : k < acts.length
        · have dk : decide (k < acts.length) = true := decide_eq_true hlt
          have dk2 : decide ((k : Int) < (acts.length : Int)) = true := decide_eq_true (by omega)
          have ik : (k : Int) < (acts.length : Int) := by omega
          obtain ⟨b, o, rfl, hcs⟩ := HAC.out (by omega)
          obtain ⟨c0, c1, c2, c3, hps, ko, kn, kk⟩ := hcs k hlt
          have hst := sum_take acts k hlt
          have hsl := sum_take_le acts (k + 1)
          obtain ⟨A, hA⟩ : ∃ A, acts[k] = A := ⟨_, rfl⟩
          rw [hA] at c0 c1 c2 c3 hps ko kn kk hst
          have hbw := World.block_lt_of_cell? _ _ c0
          obtain ⟨pa, pc, hpv, _⟩ := strRow_form hps
          have r0 := cellB TI.out.bel hbw c0
          have r1 := cellB TI.out.bel hbw c1
          have r2 := cellB TI.out.bel hbw c2
          have r3 := cellB TI.out.bel hbw c3
          rw [hpv] at r3
          clear c0 c1 c2 c3 hcs hA
          have Hps := Lib.hid (hps.below' TI.out.bel)
          go_upto_region 13 with fail
          have hbig := TI.out.big
          have hpw : ∀ i, i < 4 → p i < wr.heap.size := fun i hi => (TI.out.h i hi trivial).lt.1
          have hrw : ∀ i, i < 4 → ∀ g, (rv i).ownBlock = some g → g < wr.heap.size := fun i hi => (TI.out.h i hi trivial).lt.2
          refine wp_name (fun W => Hid (HI w (fun _ => True) p rv l t W) ∧ Hid (W.heap[wr.heap.size]? = some (.cells #[.int .i64 A.o, .int .i64 A.n, .int .i64 A.k, .slice pa A.ps.length pc] 69 (0, 0))) ∧ wr.heap.size < W.heap.size) ⟨TI.out.below ((Below.refl _ _).alloc (Nat.le_refl _) _), heap_new _ _, by simp⟩ (fun w3 hq => ?_)
          obtain ⟨T3, A3, hz3⟩ := hq
          clear TI r0 r1 r2 r3
          rw [hpv] at hps
          have Hps := Lib.hid hps
          have HP := Lib.hid hpw
          have HR := Lib.hid hrw
          clear hpw hrw hps hpv
          obtain ⟨ab, hab⟩ : ∃ x, wr.heap.size = x := ⟨_, rfl⟩
          rw [hab] at A3 hz3 hbig HP HR ⊢
          clear hab
          have r0 : w3.cell? ⟨ab, 0, none⟩ = some (.int .i64 A.o) := by rw [heap_cell A3.out]; rfl
          have r1 : w3.cell? ⟨ab, 1, none⟩ = some (.int .i64 A.n) := by rw [heap_cell A3.out]; rfl
          have r2 : w3.cell? ⟨ab, 2, none⟩ = some (.int .i64 A.k) := by rw [heap_cell A3.out]; rfl
          have r3 : w3.cell? ⟨ab, 3, none⟩ = some (.slice pa A.ps.length pc) := by rw [heap_cell A3.out]; rfl
          go_upto_region 14 with (go_at_call 50; refine (pick_any _ 4 _ (by omega) (by omega) ko).mono ?_; rintro e w3 ⟨on, hon, rfl, rfl⟩)
          go_upto_region 15 with (go_at_call 50; refine (pick_any _ 4 _ (by omega) (by omega) kn).mono ?_; rintro e w3 ⟨qo, hqo, rfl, rfl⟩)
          go_upto_region 16 with (go_at_call 50; refine (pick_any _ 5 _ (by omega) (by omega) kk).mono ?_; rintro e w3 ⟨kd, hkd, rfl, rfl⟩)
          have hcost : cost A = (flat A.ps).length + A.ps.length := rfl
          have h16 : A.ps.length * 16 ≤ 140737488355240 := by omega
          have hfl : (flat A.ps).length ≤ 140737488355328 := by omega
          have hpl9 : A.ps.length ≤ 9223372036854775807 := by omega
          have hpl15 : A.ps.length ≤ 1000000000000000 := by omega
          have hlen : ∀ i, i < 4 → (l i).length ≤ 1048576 := fun i hi => by have := HN.out i hi; omega
          have hsz : ∀ i, i < 4 → (t i).size = (l i).length := fun i hi => by rw [← HT.out i hi]; exact Array.length_toList.symm
          have HLn := Lib.hid hlen
          have HSz := Lib.hid hsz
          have hwr9 : (l on).length + (flat A.ps).length ≤ 9223372036854775807 := by have := hlen on hon; omega
          have HST := Lib.hid hst
          have HSL := Lib.hid hsl
          clear hlen hsz hst hsl hcost
          have ion : (on : Int) < (4 : Int) := by omega
          have iqo : (qo : Int) < (4 : Int) := by omega
          have HN2 : Hid (∀ i, i < 4 → (l i).length ≤ ((acts.take (k + 1)).map cost).sum) := fun i hi => by
            have h1 := HST.out
            have h2 := HN.out i hi
            omega
          obtain rfl | rfl | rfl | rfl | rfl : kd = 0 ∨ kd = 1 ∨ kd = 2 ∨ kd = 3 ∨ kd = 4 := by omega
          · go_upto_region 18 with (go_at_call 24; refine (lent_any _ A.ps _ (Hps.out.below' T3.out.bel) h16).mono ?_; rintro e w4 ⟨g, cap, rfl, hO4, hb4⟩)
            have T4 := Lib.hid (T3.out.below hb4)
            have A4 := Lib.hid (heap_below A3.out hb4 hz3)
            have hg := hO4.lt g rfl
            have r4 := T4.out.cellP on hon trivial
            have O4 := Lib.hid hO4
            have hz4 := hb4.size
            have B3 := Lib.hid hb4
            clear r0 r1 r2 r3 T3 A3 hO4 hb4
            have hdis : ∀ x, (Value.slice (some ⟨g, 0, none⟩) A.ps.length cap).ownBlock = some x → ¬ (x = p on ∨ (rv on).ownBlock = some x) := fun x hx hh => by
              have h1 := (O4.out.lt g rfl).1
              have h2 := HP.out on hon
              have h3 := HR.out on hon
              obtain rfl : g = x := Option.some.inj hx
              rcases hh with h | h
              · omega
              · have := h3 _ h; omega
            have HD := Lib.hid hdis
            have RO4 : Hid (StrRow w4 (.slice (some ⟨g, 0, none⟩) A.ps.length cap) A.ps) := by
              have h := O4.out.row A.ps.length (by simp [marks])
              rw [List.take_append_of_le_length (Nat.le_refl _), List.take_length] at h
              exact h
            clear hdis
            have hBz : w.heap.size + 2 ≤ w4.heap.size := by omega
            go_upto_region 19 with (go_at_call 51; refine (Write_any (w.heap.size + 2) (p on) (rv on) (l on) _ A.ps _ (Lib.hid (T4.out.h on hon trivial)) RO4 HD hBz hpl9 hwr9).mono ?_; intro e w5 hW5; obtain ⟨rfl, hm5, rv3, T5'⟩ := T4.out.write on hon trivial hW5)
            have hgp : ∀ x, (Value.slice (some ⟨g, 0, none⟩) (A.ps.length + 5) cap).ownBlock = some x → ¬ (x = p on ∨ (rv on).ownBlock = some x) := fun x hx => HD.out x hx
            have hap : ¬ (ab = p on ∨ (rv on).ownBlock = some ab) := fun h => by
              have h2 := HP.out on hon
              have h3 := HR.out on hon
              rcases h with h | h
              · omega
              · have := h3 _ h; omega
            have T5 := Lib.hid T5'
            have A5 := Lib.hid (hm5.heap A4.out hap)
            have O5 := Lib.hid (O4.out.mod hm5 hgp)
            have hz5 := hm5.size
            have r5 : w5.cell? ⟨ab, 3, none⟩ = some (.slice pa A.ps.length pc) := by rw [heap_cell A5.out]; rfl
            have R5' := Lib.hid (Hps.out.below' T5.out.bel)
            clear hgp hap T5' hm5 hW5 T4 A4 O4 RO4 HD r4
            go_upto_region 21 with (go_at_call 28; refine (kept_any g cap w3.heap.size _ A.ps _ O5.out R5'.out hpl15).mono ?_; rintro e w6 ⟨rfl, hb6⟩)
            have T6 := T5.out.below hb6
            have A6 := heap_below A5.out hb6 (heap_lt A5.out)
            have R6 := Hps.out.below' T6.bel
            have hnewT : Hid (∀ i, i < 4 → (upd t on (t on ++ ⟨(flat A.ps).toArray⟩) i).data.toList = upd l on (l on ++ flat A.ps) i) := fun i hi => by
              by_cases hio : i = on
              · subst hio
                rw [upd_at, upd_at, ByteArray.data_append, Array.toList_append, HT.out i hi]
              · rw [upd_ne _ _ hio, upd_ne _ _ hio]
                exact HT.out i hi
            have hnewL : Hid (∀ i, i < 4 → (upd l on (l on ++ flat A.ps) i).length ≤ ((acts.take (k + 1)).map cost).sum) := fun i hi => by
              have h1 := HST.out
              have h2 := HN.out i hi
              have h3 := HN.out on hon
              have h4 : cost A = (flat A.ps).length + A.ps.length := rfl
              by_cases hio : i = on
              · rw [hio, upd_at, List.length_append]; omega
              · rw [upd_ne _ _ hio]; omega
            have T4 := Lib.hid T6.drew
            have A4 : Hid (w6.drew.heap[ab]? = _) := A6
            have R5 : Hid (StrRow w6.drew (.slice pa A.ps.length pc) A.ps) := R6
            have r4 := T4.out.cellS on hon
            have r6 : w6.drew.cell? ⟨ab, 3, none⟩ = some (.slice pa A.ps.length pc) := by rw [heap_cell A4.out]; rfl
            have nab : ab ≠ (⟨w.heap.size + 1, on, none⟩ : Addr).block := by show ab ≠ w.heap.size + 1; omega
            have hadd : (9223372036854775807 < (t on).size + (flat A.ps).length) = False := eq_false (by rw [HSz.out on hon]; omega)
            clear T5 A5 O5 R5' r5 hb6 T6 A6 R6 Hps HP HR
            refine wp_region_held_drew (S := fun W => W.cell? ⟨ab, 3, none⟩ = some (.slice pa A.ps.length pc)) (by kernel_rfl) r6 (fun hHeld => ?_)
            refine' wpAnyH_take (i := 0) (oi := { dst := Option.some 58, op := Op.move (Operand.tmp 8), type := 3, pos := "law.go:157", after := #[], guard := Option.none }) rfl (by kernel_rfl) (by kernel_rfl) (by kernel_rfl) (fun _ _ _ h => h) (Or.inl ⟨by rfl, _⟩) (by assumption) _
            rotate_left
            · (intro wS hSw; (try dsimp only at hSw); go_simp; try with_reducible rfl)
            try simp only [Act.put, List.setIfInBounds_toArray, List.set_cons_zero, List.set_cons_succ]
            refine' wpAnyH_take (i := 1) (oi := { dst := Option.some 59, op := Op.move (Operand.tmp 8), type := 3, pos := "law.go:157", after := #[], guard := Option.none }) rfl (by kernel_rfl) (by kernel_rfl) (by kernel_rfl) (fun _ _ _ h => h) (Or.inl ⟨by rfl, _⟩) (by assumption) _
            rotate_left
            · (intro wS hSw; (try dsimp only at hSw); go_simp; try with_reducible rfl)
            try simp only [Act.put, List.setIfInBounds_toArray, List.set_cons_zero, List.set_cons_succ]
            refine' wpAnyH_take (i := 2) (oi := { dst := Option.some 60, op := Op.indexAddr 66 (Operand.tmp 4) (Operand.tmp 59), type := 0, pos := "law.go:157", after := #[{ on := 1, ground := Ground.data }], guard := Option.none }) rfl (by kernel_rfl) (by kernel_rfl) (by kernel_rfl) (fun _ _ _ h => h) (Or.inl ⟨by rfl, _⟩) (by assumption) _
            rotate_left
            · (intro wS hSw; (try dsimp only at hSw); go_simp; try with_reducible rfl)
            try simp only [Act.put, List.setIfInBounds_toArray, List.set_cons_zero, List.set_cons_succ]
            refine' wpAnyH_take (i := 4) (oi := { dst := Option.some 62, op := Op.fieldAddr 69 (Operand.tmp 7) 3, type := 0, pos := "law.go:157", after := #[], guard := Option.none }) rfl (by kernel_rfl) (by kernel_rfl) (by kernel_rfl) (fun _ _ _ h => h) (Or.inl ⟨by rfl, _⟩) (by assumption) _
            rotate_left
            · (intro wS hSw; (try dsimp only at hSw); go_simp; try with_reducible rfl)
            try simp only [Act.put, List.setIfInBounds_toArray, List.set_cons_zero, List.set_cons_succ]
            refine' wpAnyH_take (i := 5) (oi := { dst := Option.some 63, op := Op.load 23 (Operand.tmp 62), type := 23, pos := "law.go:157", after := #[{ on := 4, ground := Ground.data }], guard := Option.none }) rfl (by kernel_rfl) (by kernel_rfl) (by kernel_rfl) (fun _ _ _ h => h) (Or.inl ⟨by rfl, _⟩) (by assumption) _
            rotate_left
            · (intro wS hSw; (try dsimp only at hSw); go_simp; try with_reducible rfl)
            try simp only [Act.put, List.setIfInBounds_toArray, List.set_cons_zero, List.set_cons_succ]
            refine wpAnyH_ready (rs := [3, 6]) (by kernel_rfl) (by simp) ?_
            refine AllReadyH.cons (o := { dst := Option.some 61, op := Op.load 9 (Operand.tmp 60), type := 9, pos := "law.go:157", after := #[{ on := 2, ground := Ground.data }], guard := Option.none }) rfl (fun K hK => ?_) (AllReadyH.cons (o := { dst := Option.some 64, op := Op.call { callee := Callee.value (Operand.func 27), args := #[Operand.tmp 63], argTypes := #[23] }, type := 9, pos := "law.go:157", after := #[{ on := 5, ground := Ground.data }], guard := Option.none }) rfl (fun K hK => ?_) AllReadyH.nil)
            · go_simp
              refine hK.out _ _ ?_ (fun hHeld => ?_)
              · exact hHeld
              clear hK K
              try simp only [Act.put, List.setIfInBounds_toArray, List.set_cons_zero, List.set_cons_succ]
              refine wpAnyH_ready (rs := [6]) (by kernel_rfl) (by simp) ?_
              refine AllReadyH.cons (o := { dst := Option.some 64, op := Op.call { callee := Callee.value (Operand.func 27), args := #[Operand.tmp 63], argTypes := #[23] }, type := 9, pos := "law.go:157", after := #[{ on := 5, ground := Ground.data }], guard := Option.none }) rfl (fun K hK => ?_) AllReadyH.nil
              go_simp
              (go_at_call 27; refine (joined_any _ A.ps _ R5.out hfl hpl9).mono ?_; rintro e w5 ⟨rfl, hb5⟩; have T5 := Lib.hid (T4.out.below hb5); have r5 := T5.out.cellS on hon; have a5 := Lib.hid (heap_below A4.out hb5 (heap_lt A4.out)))
              refine hK.out _ _ ?_ (fun hHeld => ?_)
              · (show World.cell? _ _ = _; rw [heap_cell a5.out]; rfl)
              clear hK K
              try simp only [Act.put, List.setIfInBounds_toArray, List.set_cons_zero, List.set_cons_succ]
              refine' wpAnyH_take (i := 7) (oi := { dst := Option.some 65, op := Op.binOp BinOp.add 9 (Operand.tmp 61) (Operand.tmp 64) 9, type := 9, pos := "law.go:157", after := #[{ on := 3, ground := Ground.data }, { on := 6, ground := Ground.data }], guard := Option.none }) rfl (by kernel_rfl) (by kernel_rfl) (by kernel_rfl) (fun _ _ _ h => h) (Or.inl ⟨by rfl, _⟩) (by assumption) _
              rotate_left
              · (intro wS hSw; (try dsimp only at hSw); go_simp; try with_reducible rfl)
              try simp only [Act.put, List.setIfInBounds_toArray, List.set_cons_zero, List.set_cons_succ]
              refine' wpAnyH_take (i := 8) (oi := { dst := Option.some 66, op := Op.indexAddr 66 (Operand.tmp 4) (Operand.tmp 58), type := 0, pos := "law.go:157", after := #[{ on := 0, ground := Ground.data }, { on := 0, ground := Ground.phase }, { on := 1, ground := Ground.phase }, { on := 2, ground := Ground.phase }, { on := 3, ground := Ground.phase }, { on := 4, ground := Ground.phase }, { on := 5, ground := Ground.phase }, { on := 6, ground := Ground.phase }, { on := 7, ground := Ground.phase }], guard := Option.none }) rfl (by kernel_rfl) (by kernel_rfl) (by kernel_rfl) (fun _ _ _ h => h) (Or.inl ⟨by rfl, _⟩) (by assumption) _
              rotate_left
              · (intro wS hSw; (try dsimp only at hSw); go_simp; try with_reducible rfl)
              try simp only [Act.put, List.setIfInBounds_toArray, List.set_cons_zero, List.set_cons_succ]
              have f5 := T5.out.freeS on
              have T6 := Lib.hid (T5.out.str on hon (t on ++ ⟨(flat A.ps).toArray⟩))
              have a6 := heap_setOther (a := ⟨w.heap.size + 1, on, none⟩) a5.out nab (.string (t on ++ ⟨(flat A.ps).toArray⟩))
              refine wpAnyH_ready (rs := [9]) (by kernel_rfl) (by simp) ?_
              refine AllReadyH.cons (o := { dst := Option.none, op := Op.store 9 (Operand.tmp 66) (Operand.tmp 65), type := 0, pos := "law.go:157", after := #[{ on := 8, ground := Ground.data }, { on := 7, ground := Ground.data }, { on := 6, ground := Ground.chain }, { on := 0, ground := Ground.phase }, { on := 1, ground := Ground.phase }, { on := 2, ground := Ground.phase }, { on := 3, ground := Ground.phase }, { on := 4, ground := Ground.phase }, { on := 5, ground := Ground.phase }, { on := 6, ground := Ground.phase }, { on := 7, ground := Ground.phase }], guard := Option.none }) rfl (fun K hK => ?_) AllReadyH.nil
              go_simp
              refine hK.out _ _ ?_ (fun hHeld => ?_)
              · (show World.cell? _ _ = _; rw [heap_cell a6]; rfl)
              clear hK K
              try simp only [Act.put, List.setIfInBounds_toArray, List.set_cons_zero, List.set_cons_succ]
              refine wpAnyH_done (by kernel_rfl) ?_ _
              clear a6 a5 hb5 nab
              set_option maxRecDepth 5000 in
              go_wp2_with fail
              exact ⟨⟨k + 1, p, upd rv on rv3, upd l on (l on ++ flat A.ps), _, by omega, T6, hnewT, hnewL, by go_num⟩, by simp [intOf]; omega⟩
            · go_simp
              (go_at_call 27; refine (joined_any _ A.ps _ R5.out hfl hpl9).mono ?_; rintro e w5 ⟨rfl, hb5⟩; have T5 := Lib.hid (T4.out.below hb5); have r5 := T5.out.cellS on hon; have a5 := Lib.hid (heap_below A4.out hb5 (heap_lt A4.out)))
              refine hK.out _ _ ?_ (fun hHeld => ?_)
              · (show World.cell? _ _ = _; rw [heap_cell a5.out]; rfl)
              clear hK K
              try simp only [Act.put, List.setIfInBounds_toArray, List.set_cons_zero, List.set_cons_succ]
              refine wpAnyH_ready (rs := [3]) (by kernel_rfl) (by simp) ?_
              refine AllReadyH.cons (o := { dst := Option.some 61, op := Op.load 9 (Operand.tmp 60), type := 9, pos := "law.go:157", after := #[{ on := 2, ground := Ground.data }], guard := Option.none }) rfl (fun K hK => ?_) AllReadyH.nil
              go_simp
              refine hK.out _ _ ?_ (fun hHeld => ?_)
              · exact hHeld
              clear hK K
              try simp only [Act.put, List.setIfInBounds_toArray, List.set_cons_zero, List.set_cons_succ]
              refine' wpAnyH_take (i := 7) (oi := { dst := Option.some 65, op := Op.binOp BinOp.add 9 (Operand.tmp 61) (Operand.tmp 64) 9, type := 9, pos := "law.go:157", after := #[{ on := 3, ground := Ground.data }, { on := 6, ground := Ground.data }], guard := Option.none }) rfl (by kernel_rfl) (by kernel_rfl) (by kernel_rfl) (fun _ _ _ h => h) (Or.inl ⟨by rfl, _⟩) (by assumption) _
              rotate_left
              · (intro wS hSw; (try dsimp only at hSw); go_simp; try with_reducible rfl)
              try simp only [Act.put, List.setIfInBounds_toArray, List.set_cons_zero, List.set_cons_succ]
              refine' wpAnyH_take (i := 8) (oi := { dst := Option.some 66, op := Op.indexAddr 66 (Operand.tmp 4) (Operand.tmp 58), type := 0, pos := "law.go:157", after := #[{ on := 0, ground := Ground.data }, { on := 0, ground := Ground.phase }, { on := 1, ground := Ground.phase }, { on := 2, ground := Ground.phase }, { on := 3, ground := Ground.phase }, { on := 4, ground := Ground.phase }, { on := 5, ground := Ground.phase }, { on := 6, ground := Ground.phase }, { on := 7, ground := Ground.phase }], guard := Option.none }) rfl (by kernel_rfl) (by kernel_rfl) (by kernel_rfl) (fun _ _ _ h => h) (Or.inl ⟨by rfl, _⟩) (by assumption) _
              rotate_left
              · (intro wS hSw; (try dsimp only at hSw); go_simp; try with_reducible rfl)
              try simp only [Act.put, List.setIfInBounds_toArray, List.set_cons_zero, List.set_cons_succ]
              have f5 := T5.out.freeS on
              have T6 := Lib.hid (T5.out.str on hon (t on ++ ⟨(flat A.ps).toArray⟩))
              have a6 := heap_setOther (a := ⟨w.heap.size + 1, on, none⟩) a5.out nab (.string (t on ++ ⟨(flat A.ps).toArray⟩))
              refine wpAnyH_ready (rs := [9]) (by kernel_rfl) (by simp) ?_
              refine AllReadyH.cons (o := { dst := Option.none, op := Op.store 9 (Operand.tmp 66) (Operand.tmp 65), type := 0, pos := "law.go:157", after := #[{ on := 8, ground := Ground.data }, { on := 7, ground := Ground.data }, { on := 6, ground := Ground.chain }, { on := 0, ground := Ground.phase }, { on := 1, ground := Ground.phase }, { on := 2, ground := Ground.phase }, { on := 3, ground := Ground.phase }, { on := 4, ground := Ground.phase }, { on := 5, ground := Ground.phase }, { on := 6, ground := Ground.phase }, { on := 7, ground := Ground.phase }], guard := Option.none }) rfl (fun K hK => ?_) AllReadyH.nil
              go_simp
              refine hK.out _ _ ?_ (fun hHeld => ?_)
              · (show World.cell? _ _ = _; rw [heap_cell a6]; rfl)
              clear hK K
              try simp only [Act.put, List.setIfInBounds_toArray, List.set_cons_zero, List.set_cons_succ]
              refine wpAnyH_done (by kernel_rfl) ?_ _
              clear a6 a5 hb5 nab
              set_option maxRecDepth 5000 in
              go_wp2_with fail
              exact ⟨⟨k + 1, p, upd rv on rv3, upd l on (l on ++ flat A.ps), _, by omega, T6, hnewT, hnewL, by go_num⟩, by simp [intOf]; omega⟩
          · have D4 : Hid (HI w (fun _ => True) p rv l t w3.drew) := T3.out.drew
            have r4 := D4.out.cellP on hon trivial
            have r5 := D4.out.cellS on hon
            have hl18 : (l on).length ≤ 1000000000000000000 := by have := HLn.out on hon; omega
            have hts : (t on).size ≤ 140737488355200 := by have := HLn.out on hon; have := HSz.out on hon; omega
            have hD32 := sha256_length (l on)
            obtain ⟨D, hD⟩ : ∃ D, sha256 (l on) = D := ⟨_, rfl⟩
            rw [hD] at hD32
            have HD := Lib.hid hD
            have heg := eqGuardD D D
            have hng := neGuardD D D
            have heq := eqD_same D hD32
            have hneq := neD_same D hD32
            clear hD hD32
            go_upto_region 23 with fail
            refine wp_region_held_drew (S := fun W => W.cell? ⟨w.heap.size, on, none⟩ = some (.pointer (some ⟨p on, 0, none⟩)) ∧ W.cell? ⟨w.heap.size + 1, on, none⟩ = some (.string (t on))) (by kernel_rfl) ⟨r4, r5⟩ (fun hHeld => ?_)
            refine' wpAnyH_take (i := 0) (oi := { dst := Option.some 69, op := Op.move (Operand.tmp 8), type := 3, pos := "law.go:159", after := #[], guard := Option.none }) rfl (by kernel_rfl) (by kernel_rfl) (by kernel_rfl) (fun _ _ _ h => h) (Or.inl ⟨by rfl, _⟩) (by assumption) _
            rotate_left
            · (intro wS hSw; (try dsimp only at hSw); go_simp; try with_reducible rfl)
            try simp only [Act.put, List.setIfInBounds_toArray, List.set_cons_zero, List.set_cons_succ]
            refine' wpAnyH_take (i := 1) (oi := { dst := Option.some 70, op := Op.indexAddr 65 (Operand.tmp 3) (Operand.tmp 69), type := 0, pos := "law.go:159", after := #[{ on := 0, ground := Ground.data }], guard := Option.none }) rfl (by kernel_rfl) (by kernel_rfl) (by kernel_rfl) (fun _ _ _ h => h) (Or.inl ⟨by rfl, _⟩) (by assumption) _
            rotate_left
            · (intro wS hSw; (try dsimp only at hSw); go_simp; try with_reducible rfl)
            try simp only [Act.put, List.setIfInBounds_toArray, List.set_cons_zero, List.set_cons_succ]
            refine' wpAnyH_take (i := 2) (oi := { dst := Option.some 71, op := Op.load 64 (Operand.tmp 70), type := 64, pos := "law.go:159", after := #[{ on := 1, ground := Ground.data }], guard := Option.none }) rfl (by kernel_rfl) (by kernel_rfl) (by kernel_rfl) (fun _ _ _ h => h) (Or.inl ⟨by rfl, _⟩) (by assumption) _
            rotate_left
            · (intro wS hSw; (try dsimp only at hSw); go_simp; try with_reducible rfl)
            try simp only [Act.put, List.setIfInBounds_toArray, List.set_cons_zero, List.set_cons_succ]
            refine' wpAnyH_take (i := 4) (oi := { dst := Option.some 73, op := Op.move (Operand.tmp 8), type := 3, pos := "law.go:159", after := #[], guard := Option.none }) rfl (by kernel_rfl) (by kernel_rfl) (by kernel_rfl) (fun _ _ _ h => h) (Or.inl ⟨by rfl, _⟩) (by assumption) _
            rotate_left
            · (intro wS hSw; (try dsimp only at hSw); go_simp; try with_reducible rfl)
            try simp only [Act.put, List.setIfInBounds_toArray, List.set_cons_zero, List.set_cons_succ]
            refine' wpAnyH_take (i := 5) (oi := { dst := Option.some 74, op := Op.indexAddr 66 (Operand.tmp 4) (Operand.tmp 73), type := 0, pos := "law.go:159", after := #[{ on := 4, ground := Ground.data }], guard := Option.none }) rfl (by kernel_rfl) (by kernel_rfl) (by kernel_rfl) (fun _ _ _ h => h) (Or.inl ⟨by rfl, _⟩) (by assumption) _
            rotate_left
            · (intro wS hSw; (try dsimp only at hSw); go_simp; try with_reducible rfl)
            try simp only [Act.put, List.setIfInBounds_toArray, List.set_cons_zero, List.set_cons_succ]
            refine' wpAnyH_take (i := 6) (oi := { dst := Option.some 75, op := Op.load 9 (Operand.tmp 74), type := 9, pos := "law.go:159", after := #[{ on := 5, ground := Ground.data }], guard := Option.none }) rfl (by kernel_rfl) (by kernel_rfl) (by kernel_rfl) (fun _ _ _ h => h) (Or.inl ⟨by rfl, _⟩) (by assumption) _
            rotate_left
            · (intro wS hSw; (try dsimp only at hSw); go_simp; try with_reducible rfl)
            try simp only [Act.put, List.setIfInBounds_toArray, List.set_cons_zero, List.set_cons_succ]
            refine wpAnyH_ready (rs := [3]) (by kernel_rfl) (by simp) ?_
            refine AllReadyH.cons (o := { dst := Option.some 72, op := Op.call { callee := Callee.value (Operand.func 52), args := #[Operand.tmp 71], argTypes := #[64] }, type := 39, pos := "law.go:159", after := #[{ on := 2, ground := Ground.data }], guard := Option.none }) rfl (fun K hK => ?_) AllReadyH.nil
            go_simp
            (go_at_call 52; refine (HSumD_any _ _ _ _ _ (Lib.hid (D4.out.h on hon trivial)) hl18).mono ?_; rintro e w4 ⟨rfl, hb4⟩; rw [HD.out]; have D5 := Lib.hid (D4.out.below hb4))
            refine hK.out _ _ ?_ (fun hHeld => ?_)
            · exact ⟨D5.out.cellP on hon trivial, D5.out.cellS on hon⟩
            clear hK K
            try simp only [Act.put, List.setIfInBounds_toArray, List.set_cons_zero, List.set_cons_succ]
            refine wpAnyH_ready (rs := [7]) (by kernel_rfl) (by simp) ?_
            refine AllReadyH.cons (o := { dst := Option.some 76, op := Op.call { callee := Callee.value (Operand.func 32), args := #[Operand.tmp 75], argTypes := #[9] }, type := 39, pos := "law.go:159", after := #[{ on := 6, ground := Ground.data }, { on := 3, ground := Ground.chain }], guard := Option.none }) rfl (fun K hK => ?_) AllReadyH.nil
            go_simp
            (go_at_call 32; refine (refSum_any _ _ hts).mono ?_; rintro e w5 ⟨rfl, hb5⟩; rw [HT.out on hon, HD.out]; have D6 := Lib.hid (D5.out.below hb5))
            refine hK.out _ _ ?_ (fun hHeld => ?_)
            · exact ⟨D6.out.cellP on hon trivial, D6.out.cellS on hon⟩
            clear hK K
            try simp only [Act.put, List.setIfInBounds_toArray, List.set_cons_zero, List.set_cons_succ]
            refine' wpAnyH_take (i := 8) (oi := { dst := Option.some 77, op := Op.binOp BinOp.neq 39 (Operand.tmp 72) (Operand.tmp 76) 39, type := 4, pos := "law.go:159", after := #[{ on := 3, ground := Ground.data }, { on := 7, ground := Ground.data }], guard := Option.none }) rfl (by kernel_rfl) (by kernel_rfl) (by kernel_rfl) (fun _ _ _ h => h) (Or.inl ⟨by rfl, _⟩) (by assumption) _
            rotate_left
            · (intro wS hSw; (try dsimp only at hSw); go_simp; try with_reducible rfl)
            try simp only [Act.put, List.setIfInBounds_toArray, List.set_cons_zero, List.set_cons_succ]
            refine wpAnyH_done (by kernel_rfl) ?_ _
            clear r4 r5 hHeld heg hng heq hneq
            set_option maxRecDepth 5000 in
            go_wp2_with fail
            exact ⟨⟨k + 1, p, rv, l, t, by omega, D6, HT, HN2, by go_num⟩, by simp [intOf]; omega⟩
          · have D4 : Hid (HI w (fun _ => True) p rv l t w3) := T3
            have r4 := D4.out.cellP on hon trivial
            have r5 := D4.out.cellS on hon
            have hLen : Hid (∀ n, Calls Try.prog 53 #[.pointer (some ⟨p on, 0, none⟩)] (w3.drewN n) fun e w' => e = .returned (.int .i64 ((t on).size : Int)) ∧ w' = w3.drewN n) := fun n => Len_q (w.heap.size + 2) (p on) (rv on) (l on) ((t on).size : Int) _ (by rw [HSz.out on hon]; exact (HI.drewN (n := n) D4.out).h on hon trivial)
            go_upto_region 26 with fail
            go_quiet ((go_at_call 53; with_reducible exact Calls.quiet_of_same (hLen.out _)))
            clear r4 r5
            set_option maxRecDepth 5000 in
            go_wp2_with fail
            exact ⟨⟨k + 1, p, rv, l, t, by omega, D4.out.drewN, HT, HN2, by go_num⟩, by simp [intOf]; omega⟩
          · have r4 := T3.out.cellP on hon trivial
            have hl18 : (l on).length ≤ 1000000000000000000 := by have := HLn.out on hon; omega
            go_upto_region 30 with (go_at_call 54; refine (Clone_any _ _ _ _ _ (Lib.hid (T3.out.h on hon trivial)) hl18).mono ?_; rintro e w4 ⟨q, rv4, rfl, hq1, hq2, hb4⟩)
            have T4 := Lib.hid (T3.out.below hb4)
            have T5 := Lib.hid ((T3.out.put qo hqo hb4 hq2 hq1 (Nat.le_refl _)).weak (ok' := fun _ => True) (fun _ _ _ => .inl trivial))
            obtain ⟨old, r5⟩ := T4.out.oldP qo hqo
            have f5 := T4.out.freeP qo
            have r6 := T5.out.cellS on hon
            have r7 := T5.out.cellS qo hqo
            have f7 := T5.out.freeS qo
            have T6 := Lib.hid (T5.out.str qo hqo (t on))
            have hnewT : Hid (∀ i, i < 4 → (upd t qo (t on) i).data.toList = upd l qo (l on) i) := fun i hi => by
              by_cases hio : i = qo
              · rw [hio, upd_at, upd_at, HT.out on hon]
              · rw [upd_ne _ _ hio, upd_ne _ _ hio]
                exact HT.out i hi
            have hnewL : Hid (∀ i, i < 4 → (upd l qo (l on) i).length ≤ ((acts.take (k + 1)).map cost).sum) := fun i hi => by
              by_cases hio : i = qo
              · rw [hio, upd_at]; exact HN2.out on hon
              · rw [upd_ne _ _ hio]; exact HN2.out i hi
            clear r0 r1 r2 r3 r4 hb4 hq1 hq2
            set_option maxRecDepth 5000 in
            go_wp2_with fail
            exact ⟨⟨k + 1, _, _, _, _, by omega, T6, hnewT, hnewL, by go_num⟩, by simp [intOf]; omega⟩
          · obtain ⟨old, r5⟩ := T3.out.oldP qo hqo
            go_upto_region 36 with (go_at_call 49; refine (New_any _).mono ?_; rintro e w4 ⟨q, rfl, hq1, hq0, hq2, hb4⟩; obtain ⟨old, r5⟩ := (T3.out.below hb4).oldP qo hqo; have f5 := (T3.out.below hb4).freeP qo; have T5 := Lib.hid ((T3.out.put qo hqo hb4 hq2 hq1 (Nat.le_refl _)).weak (ok' := fun _ => True) (fun _ _ _ => .inl trivial)))
            have r6 := T5.out.cellP qo hqo trivial
            have r7 := T5.out.cellS qo hqo
            have f7 := T5.out.freeS qo
            have T6 := Lib.hid (T5.out.str qo hqo ⟨#[]⟩)
            rw [upd_at] at r6
            have hnewT : Hid (∀ i, i < 4 → (upd t qo ⟨#[]⟩ i).data.toList = upd l qo [] i) := fun i hi => by
              by_cases hio : i = qo
              · rw [hio, upd_at, upd_at]
              · rw [upd_ne _ _ hio, upd_ne _ _ hio]
                exact HT.out i hi
            have hnewL : Hid (∀ i, i < 4 → (upd l qo [] i).length ≤ ((acts.take (k + 1)).map cost).sum) := fun i hi => by
              by_cases hio : i = qo
              · rw [hio, upd_at]; exact Nat.zero_le _
              · rw [upd_ne _ _ hio]; exact HN2.out i hi
            clear r0 r1 r2 r3 hb4 hq1 hq2 hq0
            set_option maxRecDepth 5000 in
            go_wp2_with fail
            exact ⟨⟨k + 1, _, _, _, _, by omega, T6, hnewT, hnewL, by go_num⟩, by simp [intOf]; omega⟩
        · have dk : decide (k < acts.length) = false := decide_eq_false hlt
          have dk2 : decide ((k : Int) < (acts.length : Int)) = false := decide_eq_false (by omega)
          have hHL : Hid (∀ i, i < 4 → (l i).length ≤ 1048576) := fun i hi => by
            have h1 := HN.out i hi
            have h2 := sum_take_le acts k
            omega
          clear HN
          go_wp2_with fail
          go_loopw [12] (fun i wr => ∃ (k : Nat), k ≤ 4 ∧ Hid (HI w (fun _ => True) p rv l t wr) ∧ i = .int .i64 (k : Int)) (fun i _ => 4 - (intOf i).toNat)
          case atStart => exact ⟨0, by omega, TI, rfl⟩
          case round =>
            clear TI
            obtain ⟨k, hk, TI, rfl⟩ := hrel
            by_cases hlt : k < 4
            · have dk : decide (k < 4) = true := decide_eq_true hlt
              have dk2 : decide ((k : Int) < 4) = true := decide_eq_true (by omega)
              have ik : (k : Int) < 4 := by omega
              have D4 := Lib.hid TI.out.drew
              have r4 := D4.out.cellP k hlt trivial
              have r5 := D4.out.cellS k hlt
              have hsz : (t k).size = (l k).length := by rw [← HT.out k hlt]; exact Array.length_toList.symm
              have hl18 : (l k).length ≤ 1000000000000000000 := by have := hHL.out k hlt; omega
              have hts : (t k).size ≤ 140737488355200 := by have := hHL.out k hlt; omega
              have hD32 := sha256_length (l k)
              obtain ⟨D, hD⟩ : ∃ D, sha256 (l k) = D := ⟨_, rfl⟩
              rw [hD] at hD32
              have HD := Lib.hid hD
              have HSZ := Lib.hid hsz
              have heg := eqGuardD D D
              have hng := neGuardD D D
              have heq := eqD_same D hD32
              have hneq := neD_same D hD32
              clear hD hD32 hsz
              go_upto_region 42 with fail
              refine wp_region_held_drew (S := fun W => W.cell? ⟨w.heap.size, k, none⟩ = some (.pointer (some ⟨p k, 0, none⟩)) ∧ W.cell? ⟨w.heap.size + 1, k, none⟩ = some (.string (t k))) (by kernel_rfl) ⟨r4, r5⟩ (fun hHeld => ?_)
              refine' wpAnyH_take (i := 0) (oi := { dst := Option.some 120, op := Op.move (Operand.tmp 12), type := 3, pos := "law.go:182", after := #[], guard := Option.none }) rfl (by kernel_rfl) (by kernel_rfl) (by kernel_rfl) (fun _ _ _ h => h) (Or.inl ⟨by rfl, _⟩) (by assumption) _
              rotate_left
              · (intro wS hSw; (try dsimp only at hSw); go_simp; try with_reducible rfl)
              try simp only [Act.put, List.setIfInBounds_toArray, List.set_cons_zero, List.set_cons_succ]
              refine' wpAnyH_take (i := 1) (oi := { dst := Option.some 121, op := Op.indexAddr 65 (Operand.tmp 3) (Operand.tmp 120), type := 0, pos := "law.go:182", after := #[{ on := 0, ground := Ground.data }], guard := Option.none }) rfl (by kernel_rfl) (by kernel_rfl) (by kernel_rfl) (fun _ _ _ h => h) (Or.inl ⟨by rfl, _⟩) (by assumption) _
              rotate_left
              · (intro wS hSw; (try dsimp only at hSw); go_simp; try with_reducible rfl)
              try simp only [Act.put, List.setIfInBounds_toArray, List.set_cons_zero, List.set_cons_succ]
              refine' wpAnyH_take (i := 2) (oi := { dst := Option.some 122, op := Op.load 64 (Operand.tmp 121), type := 64, pos := "law.go:182", after := #[{ on := 1, ground := Ground.data }], guard := Option.none }) rfl (by kernel_rfl) (by kernel_rfl) (by kernel_rfl) (fun _ _ _ h => h) (Or.inl ⟨by rfl, _⟩) (by assumption) _
              rotate_left
              · (intro wS hSw; (try dsimp only at hSw); go_simp; try with_reducible rfl)
              try simp only [Act.put, List.setIfInBounds_toArray, List.set_cons_zero, List.set_cons_succ]
              refine' wpAnyH_take (i := 4) (oi := { dst := Option.some 124, op := Op.move (Operand.tmp 12), type := 3, pos := "law.go:182", after := #[], guard := Option.none }) rfl (by kernel_rfl) (by kernel_rfl) (by kernel_rfl) (fun _ _ _ h => h) (Or.inl ⟨by rfl, _⟩) (by assumption) _
              rotate_left
              · (intro wS hSw; (try dsimp only at hSw); go_simp; try with_reducible rfl)
              try simp only [Act.put, List.setIfInBounds_toArray, List.set_cons_zero, List.set_cons_succ]
              refine' wpAnyH_take (i := 5) (oi := { dst := Option.some 125, op := Op.indexAddr 66 (Operand.tmp 4) (Operand.tmp 124), type := 0, pos := "law.go:182", after := #[{ on := 4, ground := Ground.data }], guard := Option.none }) rfl (by kernel_rfl) (by kernel_rfl) (by kernel_rfl) (fun _ _ _ h => h) (Or.inl ⟨by rfl, _⟩) (by assumption) _
              rotate_left
              · (intro wS hSw; (try dsimp only at hSw); go_simp; try with_reducible rfl)
              try simp only [Act.put, List.setIfInBounds_toArray, List.set_cons_zero, List.set_cons_succ]
              refine' wpAnyH_take (i := 6) (oi := { dst := Option.some 126, op := Op.load 9 (Operand.tmp 125), type := 9, pos := "law.go:182", after := #[{ on := 5, ground := Ground.data }], guard := Option.none }) rfl (by kernel_rfl) (by kernel_rfl) (by kernel_rfl) (fun _ _ _ h => h) (Or.inl ⟨by rfl, _⟩) (by assumption) _
              rotate_left
              · (intro wS hSw; (try dsimp only at hSw); go_simp; try with_reducible rfl)
              try simp only [Act.put, List.setIfInBounds_toArray, List.set_cons_zero, List.set_cons_succ]
              refine wpAnyH_ready (rs := [3]) (by kernel_rfl) (by simp) ?_
              refine AllReadyH.cons (o := { dst := Option.some 123, op := Op.call { callee := Callee.value (Operand.func 52), args := #[Operand.tmp 122], argTypes := #[64] }, type := 39, pos := "law.go:182", after := #[{ on := 2, ground := Ground.data }], guard := Option.none }) rfl (fun K hK => ?_) AllReadyH.nil
              go_simp
              (go_at_call 52; refine (HSumD_any _ _ _ _ _ (Lib.hid (D4.out.h k hlt trivial)) hl18).mono ?_; rintro e w4 ⟨rfl, hb4⟩; rw [HD.out]; have D5 := Lib.hid (D4.out.below hb4))
              refine hK.out _ _ ?_ (fun hHeld => ?_)
              · exact ⟨D5.out.cellP k hlt trivial, D5.out.cellS k hlt⟩
              clear hK K
              try simp only [Act.put, List.setIfInBounds_toArray, List.set_cons_zero, List.set_cons_succ]
              refine wpAnyH_ready (rs := [7]) (by kernel_rfl) (by simp) ?_
              refine AllReadyH.cons (o := { dst := Option.some 127, op := Op.call { callee := Callee.value (Operand.func 32), args := #[Operand.tmp 126], argTypes := #[9] }, type := 39, pos := "law.go:182", after := #[{ on := 6, ground := Ground.data }, { on := 3, ground := Ground.chain }], guard := Option.none }) rfl (fun K hK => ?_) AllReadyH.nil
              go_simp
              (go_at_call 32; refine (refSum_any _ _ hts).mono ?_; rintro e w5 ⟨rfl, hb5⟩; rw [HT.out k hlt, HD.out]; have D6 := Lib.hid (D5.out.below hb5))
              refine hK.out _ _ ?_ (fun hHeld => ?_)
              · exact ⟨D6.out.cellP k hlt trivial, D6.out.cellS k hlt⟩
              clear hK K
              try simp only [Act.put, List.setIfInBounds_toArray, List.set_cons_zero, List.set_cons_succ]
              refine' wpAnyH_take (i := 8) (oi := { dst := Option.some 128, op := Op.binOp BinOp.neq 39 (Operand.tmp 123) (Operand.tmp 127) 39, type := 4, pos := "law.go:182", after := #[{ on := 3, ground := Ground.data }, { on := 7, ground := Ground.data }], guard := Option.none }) rfl (by kernel_rfl) (by kernel_rfl) (by kernel_rfl) (fun _ _ _ h => h) (Or.inl ⟨by rfl, _⟩) (by assumption) _
              rotate_left
              · (intro wS hSw; (try dsimp only at hSw); go_simp; try with_reducible rfl)
              try simp only [Act.put, List.setIfInBounds_toArray, List.set_cons_zero, List.set_cons_succ]
              refine' wpAnyH_take (i := 9) (oi := { dst := Option.some 129, op := Op.move (Operand.tmp 128), type := 4, pos := "law.go:182", after := #[{ on := 8, ground := Ground.data }, { on := 7, ground := Ground.chain }], guard := Option.none }) rfl (by kernel_rfl) (by kernel_rfl) (by kernel_rfl) (fun _ _ _ h => h) (Or.inl ⟨by rfl, _⟩) (by assumption) _
              rotate_left
              · (intro wS hSw; (try dsimp only at hSw); go_simp; try with_reducible rfl)
              try simp only [Act.put, List.setIfInBounds_toArray, List.set_cons_zero, List.set_cons_succ]
              refine' wpAnyH_take (i := 10) (oi := { dst := Option.some 130, op := Op.move (Operand.tmp 12), type := 3, pos := "law.go:182", after := #[{ on := 9, ground := Ground.guard }], guard := Option.some (9, Bool.false) }) rfl (by kernel_rfl) (by kernel_rfl) (by kernel_rfl) (fun _ _ _ h => h) (Or.inl ⟨by rfl, _⟩) (by assumption) _
              rotate_left
              · (intro wS hSw; (try dsimp only at hSw); go_simp; try with_reducible rfl)
              try simp only [Act.put, List.setIfInBounds_toArray, List.set_cons_zero, List.set_cons_succ]
              refine' wpAnyH_take (i := 11) (oi := { dst := Option.some 131, op := Op.indexAddr 65 (Operand.tmp 3) (Operand.tmp 130), type := 0, pos := "law.go:182", after := #[{ on := 10, ground := Ground.data }, { on := 9, ground := Ground.guard }], guard := Option.some (9, Bool.false) }) rfl (by kernel_rfl) (by kernel_rfl) (by kernel_rfl) (fun _ _ _ h => h) (Or.inl ⟨by rfl, _⟩) (by assumption) _
              rotate_left
              · (intro wS hSw; (try dsimp only at hSw); go_simp; try with_reducible rfl)
              try simp only [Act.put, List.setIfInBounds_toArray, List.set_cons_zero, List.set_cons_succ]
              refine' wpAnyH_take (i := 12) (oi := { dst := Option.some 132, op := Op.load 64 (Operand.tmp 131), type := 64, pos := "law.go:182", after := #[{ on := 11, ground := Ground.data }, { on := 9, ground := Ground.guard }], guard := Option.some (9, Bool.false) }) rfl (by kernel_rfl) (by kernel_rfl) (by kernel_rfl) (fun _ _ _ h => h) (Or.inl ⟨by rfl, _⟩) (by assumption) _
              rotate_left
              · (intro wS hSw; (try dsimp only at hSw); go_simp; try with_reducible rfl)
              try simp only [Act.put, List.setIfInBounds_toArray, List.set_cons_zero, List.set_cons_succ]
              refine' wpAnyH_take (i := 14) (oi := { dst := Option.some 134, op := Op.move (Operand.tmp 12), type := 3, pos := "law.go:182", after := #[{ on := 9, ground := Ground.guard }], guard := Option.some (9, Bool.false) }) rfl (by kernel_rfl) (by kernel_rfl) (by kernel_rfl) (fun _ _ _ h => h) (Or.inl ⟨by rfl, _⟩) (by assumption) _
              rotate_left
              · (intro wS hSw; (try dsimp only at hSw); go_simp; try with_reducible rfl)
              try simp only [Act.put, List.setIfInBounds_toArray, List.set_cons_zero, List.set_cons_succ]
              refine' wpAnyH_take (i := 15) (oi := { dst := Option.some 135, op := Op.indexAddr 66 (Operand.tmp 4) (Operand.tmp 134), type := 0, pos := "law.go:182", after := #[{ on := 14, ground := Ground.data }, { on := 9, ground := Ground.guard }], guard := Option.some (9, Bool.false) }) rfl (by kernel_rfl) (by kernel_rfl) (by kernel_rfl) (fun _ _ _ h => h) (Or.inl ⟨by rfl, _⟩) (by assumption) _
              rotate_left
              · (intro wS hSw; (try dsimp only at hSw); go_simp; try with_reducible rfl)
              try simp only [Act.put, List.setIfInBounds_toArray, List.set_cons_zero, List.set_cons_succ]
              refine' wpAnyH_take (i := 16) (oi := { dst := Option.some 136, op := Op.load 9 (Operand.tmp 135), type := 9, pos := "law.go:182", after := #[{ on := 15, ground := Ground.data }, { on := 9, ground := Ground.guard }], guard := Option.some (9, Bool.false) }) rfl (by kernel_rfl) (by kernel_rfl) (by kernel_rfl) (fun _ _ _ h => h) (Or.inl ⟨by rfl, _⟩) (by assumption) _
              rotate_left
              · (intro wS hSw; (try dsimp only at hSw); go_simp; try with_reducible rfl)
              try simp only [Act.put, List.setIfInBounds_toArray, List.set_cons_zero, List.set_cons_succ]
              refine' wpAnyH_take (i := 17) (oi := { dst := Option.some 137, op := Op.call { callee := Callee.builtin Builtin.len, args := #[Operand.tmp 136], argTypes := #[9] }, type := 3, pos := "law.go:182", after := #[{ on := 16, ground := Ground.data }, { on := 9, ground := Ground.guard }], guard := Option.some (9, Bool.false) }) rfl (by kernel_rfl) (by kernel_rfl) (by kernel_rfl) (fun _ _ _ h => h) (Or.inl ⟨by rfl, _⟩) (by assumption) _
              rotate_left
              · (intro wS hSw; (try dsimp only at hSw); go_simp; try with_reducible rfl)
              try simp only [Act.put, List.setIfInBounds_toArray, List.set_cons_zero, List.set_cons_succ]
              refine wpAnyH_ready (rs := [13]) (by kernel_rfl) (by simp) ?_
              refine AllReadyH.cons (o := { dst := Option.some 133, op := Op.call { callee := Callee.value (Operand.func 53), args := #[Operand.tmp 132], argTypes := #[64] }, type := 3, pos := "law.go:182", after := #[{ on := 12, ground := Ground.data }, { on := 9, ground := Ground.chain }, { on := 9, ground := Ground.guard }], guard := Option.some (9, Bool.false) }) rfl (fun K hK => ?_) AllReadyH.nil
              go_simp
              (go_at_call 53; refine (Len_q (w.heap.size + 2) (p k) (rv k) (l k) ((t k).size : Int) _ (by rw [HSZ.out]; exact D6.out.h k hlt trivial)).mono ?_; rintro e w6 ⟨rfl, rfl⟩)
              refine hK.out _ _ ?_ (fun hHeld => ?_)
              · exact ⟨D6.out.cellP k hlt trivial, D6.out.cellS k hlt⟩
              clear hK K
              try simp only [Act.put, List.setIfInBounds_toArray, List.set_cons_zero, List.set_cons_succ]
              refine' wpAnyH_take (i := 18) (oi := { dst := Option.some 138, op := Op.binOp BinOp.neq 3 (Operand.tmp 133) (Operand.tmp 137) 3, type := 4, pos := "law.go:182", after := #[{ on := 13, ground := Ground.data }, { on := 17, ground := Ground.data }, { on := 9, ground := Ground.guard }], guard := Option.some (9, Bool.false) }) rfl (by kernel_rfl) (by kernel_rfl) (by kernel_rfl) (fun _ _ _ h => h) (Or.inl ⟨by rfl, _⟩) (by assumption) _
              rotate_left
              · (intro wS hSw; (try dsimp only at hSw); go_simp; try with_reducible rfl)
              try simp only [Act.put, List.setIfInBounds_toArray, List.set_cons_zero, List.set_cons_succ]
              refine' wpAnyH_take (i := 19) (oi := { dst := Option.some 139, op := Op.pick (Operand.tmp 129) (Operand.const (Value.bool Bool.true)) (Operand.tmp 138), type := 4, pos := "law.go:182", after := #[{ on := 9, ground := Ground.data }, { on := 18, ground := Ground.data }], guard := Option.none }) rfl (by kernel_rfl) (by kernel_rfl) (by kernel_rfl) (fun _ _ _ h => h) (Or.inl ⟨by rfl, _⟩) (by assumption) _
              rotate_left
              · (intro wS hSw; (try dsimp only at hSw); go_simp; try with_reducible rfl)
              try simp only [Act.put, List.setIfInBounds_toArray, List.set_cons_zero, List.set_cons_succ]
              refine wpAnyH_done (by kernel_rfl) ?_ _
              clear r4 r5 hHeld heg hng heq hneq
              set_option maxRecDepth 5000 in
              go_wp2_with fail
              exact ⟨⟨k + 1, by omega, D6, by go_num⟩, by simp [intOf]; omega⟩
            · obtain rfl : k = 4 := by omega
              have dk : decide (4 < 4) = false := rfl
              set_option maxRecDepth 5000 in
              go_wp2_with (go_at_call 23; refine (awake_any _).mono ?_; rintro e w4 ⟨rfl, hb4⟩)
              go_ret
              exact ⟨rfl, TI.out.bel.trans (hb4.mono (by have := TI.out.big; omega))⟩
end Go.Proofs.Ytmjikebbknjahaa
