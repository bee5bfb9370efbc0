/-
  The walk of the law SumsParts.
-/
import Derived.Test.YtmjikebbknjahaaAppT
namespace Go.Proofs.Ytmjikebbknjahaa
open Go.RowKit Go.Lib Hw
set_option linter.unusedVariables false

def tagR (R : Option (ByteArray × List ByteArray)) : ByteArray := R.elim ⟨#[]⟩ (fun p => p.1)
def listR (R : Option (ByteArray × List ByteArray)) : List ByteArray := R.elim [] (fun p => p.2)
def codeR (R : Option (ByteArray × List ByteArray)) : Int := R.elim 21 (fun _ => 0)
theorem PartsPost.all {w w' : World} {R : Option (ByteArray × List ByteArray)} {e : Ending} (h : PartsPost w R e w') :
    ∃ v, e = .returned (.tuple #[.string (tagR R), v, .int .i64 (codeR R)]) ∧ OwnT w' w.heap.size v (listR R) ∧ Below w.heap.size w w' := by
  obtain ⟨hb, h⟩ := h
  cases R with
  | none => exact ⟨_, h, OwnT.nil _ _, hb⟩
  | some p =>
    obtain ⟨t, l⟩ := p
    obtain ⟨v, he, ho⟩ := h
    exact ⟨v, he, ho, hb⟩
theorem parse_length : ∀ (f : Nat) (acc : List ByteArray) (r : List UInt8) (L : List ByteArray), parse f acc r = some L → L.length ≤ acc.length + r.length
  | f, acc, [], L, h => by
    rw [parse_nil, Option.some.injEq] at h
    subst h
    simp
  | 0, acc, b :: r, L, h => by simp [parse] at h
  | f + 1, acc, [a], L, h => by simp [parse] at h
  | f + 1, acc, [a, b], L, h => by simp [parse] at h
  | f + 1, acc, [a, b, c], L, h => by simp [parse] at h
  | f + 1, acc, b0 :: b1 :: b2 :: b3 :: r, L, h => by
    by_cases hn : r.length < num4 b0 b1 b2 b3
    · rw [parse_more f acc b0 b1 b2 b3 r hn] at h; cases h
    · rw [parse_go f acc b0 b1 b2 b3 r hn] at h
      have h1 := parse_length f _ _ L h
      rw [List.length_append, List.length_singleton, List.length_drop] at h1
      simp only [List.length_cons]
      omega
theorem listR_length (s : ByteArray) : (listR (partsR s)).length ≤ s.size := by
  unfold partsR
  have hd := data_len s
  cases hs : s.data.toList with
  | nil => simp [listR]
  | cons n r =>
    rw [hs, List.length_cons] at hd
    simp only []
    cases hb : (n.toNat == 0 || decide (64 < n.toNat) || decide (r.length < n.toNat))
    · rw [cond_false]
      cases hp : parse s.size [] (r.drop n.toNat) with
      | none => simp [listR]
      | some L =>
        have h1 := parse_length _ _ _ _ hp
        rw [List.length_drop, List.length_nil] at h1
        simp only [listR, Option.map_some, Option.elim_some]
        omega
    · simp [listR]
def overS : ByteArray := ⟨#[111, 118, 101, 114]⟩
def behindS : ByteArray := ⟨#[98, 101, 104, 105, 110, 100]⟩
theorem over_step (L : List ByteArray) (k : Nat) (h : k < L.length) : (List.replicate k overS ++ L.drop k).set k overS = List.replicate (k + 1) overS ++ L.drop (k + 1) := by
  have e : (List.replicate k overS).length = k := List.length_replicate
  rw [List.set_append_right _ _ (by omega), e, Nat.sub_self, List.drop_eq_getElem_cons h, List.set_cons_zero, List.replicate_succ', List.append_assoc]
  rfl

set_option maxHeartbeats 4000000 in
theorem SumsParts_walk (v0 : Value) (w : World) (h0 : IsStrU v0) :
    Calls Try.prog 19 #[v0] w fun e w' => e = .returned (.bool true) ∧ Below w.heap.size w w' := by
  obtain ⟨s, rfl, hs⟩ := h0
  have hs9 : s.size ≤ 100000000 := by omega
  obtain ⟨T, hT⟩ : ∃ T, tagR (partsR s) = T := ⟨_, rfl⟩
  obtain ⟨L, hL⟩ : ∃ L, listR (partsR s) = L := ⟨_, rfl⟩
  obtain ⟨E, hE⟩ : ∃ E, codeR (partsR s) = E := ⟨_, rfl⟩
  have hlen : L.length ≤ 1048576 := by rw [← hL]; have := listR_length s; omega
  have c1 : ∀ W, Calls Try.prog 57 #[.string s] W fun e w' => ∃ v, e = .returned (.tuple #[.string T, v, .int .i64 E]) ∧ OwnT w' W.heap.size v L ∧ Below W.heap.size W w' := fun W => by
    refine (Parts_any s W hs9).mono ?_
    intro e w' h
    rw [← hT, ← hL, ← hE]
    exact h.all
  have c2 : ∀ W, Calls Try.prog 58 #[.string s] W fun e w' => ∃ v, e = .returned (.tuple #[.string T, v, .int .i64 E]) ∧ OwnT w' W.heap.size v L ∧ Below W.heap.size W w' := fun W => by
    refine (refParts_any s W hs9).mono ?_
    intro e w' h
    rw [← hT, ← hL, ← hE]
    exact h.all
  have C1 := Lib.hid c1
  have C2 := Lib.hid c2
  have gT : (T.toList == T.toList) = true := beq_self_eq_true _
  have hl9 : L.length ≤ 9223372036854775807 := by omega
  clear c1 c2 hT hL hE hs hs9
  go_enter Try.func19, Try.ntmps19
  go_upto_region 2 with (go_at_call 57; refine (C1.out _).mono ?_; rintro e w1 ⟨v1, rfl, hO1, hb1⟩)
  have O1 := Lib.hid hO1
  have B1 := Lib.hid hb1
  clear hO1 hb1
  go_upto_region 3 with (go_at_call 57; refine (C1.out _).mono ?_; rintro e w2 ⟨v2, rfl, hO2, hb2⟩)
  have O2 := Lib.hid hO2
  have B2 := Lib.hid hb2
  clear hO2 hb2
  go_upto_region 4 with (go_at_call 58; refine (C2.out _).mono ?_; rintro e w3 ⟨v3, rfl, hO3, hb3⟩)
  have z1 := B1.out.size
  have z2 := B2.out.size
  have z3 := hb3.size
  have O1c : Hid (OwnT w3 w.heap.size v1 L) := (O1.out.below B2.out (fun g h => (O1.out.lt g h).2)).below hb3 (fun g h => by have := (O1.out.lt g h).2; omega)
  have O2c : Hid (OwnT w3 w1.heap.size v2 L) := O2.out.below hb3 (fun g h => (O2.out.lt g h).2)
  have O3c := Lib.hid hO3
  have lt1 : Hid (∀ g, v1.ownBlock = some g → g < w1.heap.size) := fun g h => (O1.out.lt g h).2
  have lt2 : Hid (∀ g, v2.ownBlock = some g → w1.heap.size ≤ g ∧ g < w2.heap.size) := fun g h => O2.out.lt g h
  have B3 : Hid (Below w.heap.size w w3) := (B1.out.trans (B2.out.mono z1)).trans (hb3.mono (by omega))
  clear O1 O2 B1 B2 hO3 hb3
  obtain ⟨ad1, cap1, rfl, hc1, hg1⟩ := O1c.out.shape
  obtain ⟨ad2, cap2, rfl, hc2, hg2⟩ := O2c.out.shape
  obtain ⟨ad3, cap3, rfl, hc3, hg3⟩ := O3c.out.shape
  have Hg1 := Lib.hid hg1
  clear hg1 hg2 hg3
  go_upto_region 6 with (first
    | (go_at_call 35; (with_reducible refine (same_same _ _ L _ O1c.out.strRow O3c.out.strRow hl9).mono ?_); rintro e w4 ⟨rfl, hb4⟩)
    | (go_at_call 35; (with_reducible refine (same_same _ _ L _ (O2c.out.strRow.below' hb4) (O3c.out.strRow.below' hb4) hl9).mono ?_); rintro e w5 ⟨rfl, hb5⟩))
  have z4 := hb4.size
  have z5 := hb5.size
  have hb35 : Below w3.heap.size w3 w5 := hb4.trans (hb5.mono z4)
  have P1 := Lib.hid (O1c.out.below hb35 (fun g h => (O1c.out.lt g h).2))
  have P2 := Lib.hid (O2c.out.below hb35 (fun g h => (O2c.out.lt g h).2))
  have P3 := Lib.hid (O3c.out.below hb35 (fun g h => (O3c.out.lt g h).2))
  have B5 := Lib.hid (B3.out.trans (hb35.mono (by omega)))
  have lt4 : Hid (∀ g, (Value.slice ad3 L.length cap3).ownBlock = some g → g < w5.heap.size) := fun g h => by have := (O3c.out.lt g h).2; omega
  have lt3 : Hid (∀ g, (Value.slice ad3 L.length cap3).ownBlock = some g → w2.heap.size ≤ g) := fun g h => (O3c.out.lt g h).1
  clear O1c O2c O3c B3 hb4 hb5 hb35
  go_wp2_with fail
  go_loopw [12] (fun i wr => ∃ (k : Nat), k ≤ L.length ∧ Hid (OwnT wr w.heap.size (.slice ad1 L.length cap1) (List.replicate k overS ++ L.drop k)) ∧ Hid (OwnT wr w1.heap.size (.slice ad2 L.length cap2) L) ∧ Hid (OwnT wr w2.heap.size (.slice ad3 L.length cap3) L) ∧ Hid (Below w.heap.size w wr) ∧ Hid (w5.heap.size ≤ wr.heap.size) ∧ i = .int .i64 (k : Int)) (fun i _ => L.length - (intOf i).toNat)
  case atStart => exact ⟨0, by omega, by simpa using P1, P2, P3, B5, Nat.le_refl _, rfl⟩
  case round =>
    clear P1 P2 P3 B5
    obtain ⟨k, hk, P1, P2, P3, HB, Hz, rfl⟩ := hrel
    by_cases hlt : k < L.length
    · obtain ⟨g, rfl⟩ := Hg1.out (by omega)
      have hover := over_step L k hlt
      obtain ⟨xs, hxs⟩ : ∃ xs, List.replicate k overS ++ L.drop k = xs := ⟨_, rfl⟩
      have hxl : xs.length = L.length := by rw [← hxs, List.length_append, List.length_replicate, List.length_drop]; omega
      rw [hxs] at hover P1
      have P1x : OwnT wr w.heap.size (.slice (some ⟨g, 0, none⟩) xs.length cap1) xs := by rw [hxl]; exact P1.out
      obtain ⟨old, c0⟩ : ∃ old : Value, wr.cell? ⟨g, k, none⟩ = some old := ⟨_, P1x.cell k (by omega)⟩
      have f0 := P1x.free k
      have hst := P1x.set k overS
      rw [hover, hxl] at hst
      have Hst := Lib.hid hst
      have hgl := lt1.out g rfl
      have hgw := (P1.out.lt g rfl).1
      have n2 : (Value.slice ad2 L.length cap2).ownBlock ≠ some g := fun e => by have := (lt2.out g e).1; omega
      have n3 : (Value.slice ad3 L.length cap3).ownBlock ≠ some g := fun e => by have := lt3.out g e; omega
      have N2 := Lib.hid n2
      have N3 := Lib.hid n3
      clear hst hover hxs hxl P1x n2 n3
      go_wp2_with fail
      exact ⟨⟨k + 1, by omega, Hst, P2.out.setOther N2.out _, P3.out.setOther N3.out _, HB.out.setCell (by exact hgw) _, (by show w5.heap.size ≤ _; simpa using Hz.out), by go_num⟩, by simp [intOf]; omega⟩
    · obtain rfl : k = L.length := by omega
      have Q1 : Hid (OwnT wr w.heap.size (.slice ad1 L.length cap1) (List.replicate L.length overS ++ List.replicate 0 markS)) := by
        have h := P1.out
        rw [List.drop_of_length_le (Nat.le_refl _)] at h
        exact h
      have Q1b : Hid (∀ g, (Value.slice ad1 L.length cap1).ownBlock = some g → g < w1.heap.size ∨ w5.heap.size ≤ g) := fun g h => .inl (lt1.out g h)
      clear P1 lt1 Hg1 hlt hk
      go_wp2_with fail
      go_loopw [4, 13] (fun v i wx => ∃ (q : Nat), q ≤ 5 ∧ Hid (OwnT wx w.heap.size v (List.replicate L.length overS ++ List.replicate q markS)) ∧ Hid (∀ g, v.ownBlock = some g → g < w1.heap.size ∨ w5.heap.size ≤ g) ∧ Hid (OwnT wx w1.heap.size (.slice ad2 L.length cap2) L) ∧ Hid (OwnT wx w2.heap.size (.slice ad3 L.length cap3) L) ∧ Hid (Below w.heap.size w wx) ∧ Hid (w5.heap.size ≤ wx.heap.size) ∧ i = .int .i64 (q : Int)) (fun _ i _ => 5 - (intOf i).toNat)
      case atStart => exact ⟨0, by omega, Q1, Q1b, P2, P3, HB, Hz, rfl⟩
      case round =>
        clear Q1 Q1b P2 P3 HB Hz
        obtain ⟨q, hq, Q1, Q1b, P2, P3, HB, Hz, rfl⟩ := hrel
        have hz := HB.out.size
        by_cases hlt : q < 5
        · obtain ⟨xs, hxs⟩ : ∃ xs, List.replicate L.length overS ++ List.replicate q markS = xs := ⟨_, rfl⟩
          have hxl : xs.length = L.length + q := by rw [← hxs, List.length_append, List.length_replicate, List.length_replicate]
          rw [hxs] at Q1
          have hacc : (xs.length + 1) * 16 ≤ 140737488355328 := by omega
          have Hxs := Lib.hid hxs
          clear hxs hxl
          go_wp2_with (at_builtin; refine wpList_appTk wr 9 markS rfl _ _ rfl w.heap.size u4 xs rfl Q1.out _ rfl hacc hz ?_; intro v2 wz hv2 hgr hbk hrow)
          have n2 : (Value.slice ad2 L.length cap2).ownBlock = none ∨ (Value.slice ad2 L.length cap2).ownBlock ≠ u4.ownBlock := by
            cases h2 : (Value.slice ad2 L.length cap2).ownBlock with
            | none => exact .inl rfl
            | some g2 =>
              refine .inr (fun e => ?_)
              have h3 := lt2.out g2 h2
              rcases Q1b.out g2 e.symm with h4 | h4 <;> omega
          have n3 : (Value.slice ad3 L.length cap3).ownBlock = none ∨ (Value.slice ad3 L.length cap3).ownBlock ≠ u4.ownBlock := by
            cases h2 : (Value.slice ad3 L.length cap3).ownBlock with
            | none => exact .inl rfl
            | some g2 =>
              refine .inr (fun e => ?_)
              have h3 := lt3.out g2 h2
              have h5 := lt4.out g2 h2
              rcases Q1b.out g2 e.symm with h4 | h4 <;> omega
          have hgs := hgr.size
          simp only [World.size_alloc] at hgs
          have hz5 := Hz.out
          refine ⟨⟨q + 1, by omega, ?_, ?_, (P2.out.alloc _).kept hgr n2, (P3.out.alloc _).kept hgr n3, (HB.out.alloc hz _).grown hgr (by simp only [World.size_alloc]; omega) (fun g hg => (Q1.out.lt g hg).1), (by show _ ≤ _; omega), by go_num⟩, by simp [intOf]; omega⟩
          · show OwnT _ _ _ _
            rw [List.replicate_succ', ← List.append_assoc, Hxs.out]
            exact hv2
          · intro g hg
            rcases hbk with h | h
            · exact Q1b.out g (h.symm.trans hg)
            · rw [h, Option.some.injEq] at hg
              right
              omega
        · obtain rfl : q = 5 := by omega
          obtain ⟨adl, capl, rfl, hcl, _⟩ := Q1.out.shape
          have hll : (List.replicate L.length overS ++ List.replicate 5 markS).length = L.length + 5 := by rw [List.length_append, List.length_replicate, List.length_replicate]
          rw [hll]
          have hacc : (L.length + 1) * 16 ≤ 140737488355328 := by omega
          have h12 : w1.heap.size ≤ wr.heap.size := by have := Hz.out; omega
          clear Q1 Q1b hll hcl hlt
          go_upto_region 15 with (at_builtin; refine wpList_appTk wr 9 behindS rfl _ _ rfl w1.heap.size (.slice ad2 L.length cap2) L rfl P2.out _ rfl hacc h12 ?_; intro vl wz hvl hgr hbk hrow)
          obtain ⟨gl, capl2, rfl, _, hgl, hcl2⟩ := hvl.form (by simp)
          have hln : (L ++ [behindS]).length = L.length + 1 := by simp
          rw [hln] at hcl2 ⊢
          have n3 : (Value.slice ad3 L.length cap3).ownBlock = none ∨ (Value.slice ad3 L.length cap3).ownBlock ≠ (Value.slice ad2 L.length cap2).ownBlock := by
            cases h2 : (Value.slice ad3 L.length cap3).ownBlock with
            | none => exact .inl rfl
            | some g2 =>
              refine .inr (fun e => ?_)
              have h3 := lt3.out g2 h2
              have h4 := lt2.out g2 e.symm
              omega
          have R2 := Lib.hid hrow
          have R3 := Lib.hid ((P3.out.alloc _).kept hgr n3).strRow
          have R4 : Hid (StrRow wz (.slice (some ⟨gl, 0, none⟩) L.length capl2) L) := by
            have h := hvl.row L.length (by rw [hln]; omega)
            rw [List.take_append_of_le_length (Nat.le_refl _), List.take_length] at h
            exact h
          have cb0 : wz.cell? ⟨gl, L.length, none⟩ = some (.string behindS) := by
            have h := hvl.cell L.length (by rw [hln]; omega)
            rw [h]
            simp
          have cb : wz.cell? ⟨gl, L.length, none⟩ = some (.string ⟨#[98, 101, 104, 105, 110, 100]⟩) := cb0
          clear cb0
          have BZ : Hid (Below w.heap.size w wz) := (HB.out.alloc hz _).grown hgr (by simp only [World.size_alloc]; omega) (fun g hg => by have := (lt2.out g hg).1; omega)
          have hcc : (L.length : Int) ≤ (capl2 : Int) := by omega
          have hcc2 : L.length ≤ capl2 := by omega
          have g1 : (((L.length : Int) + 5) == ((L.length : Int) + 5)) = true := beq_self_eq_true _
          clear hrow hvl hgr hbk hcl2 hln n3 P2 P3 h12 hacc
          go_wp2_with (first
            | (go_at_call 35; (with_reducible refine (same_same _ _ L _ R2.out R3.out hl9).mono ?_); rintro e w8 ⟨rfl, hb8⟩)
            | (go_at_call 35; (with_reducible refine (same_same _ _ L _ (R4.out.below' hb8) (R3.out.below' hb8) hl9).mono ?_); rintro e w9 ⟨rfl, hb9⟩; have cb9 := cellB hb9 (by have := hb8.size; omega) (cellB hb8 hgl cb))
            | (go_at_call 23; refine (awake_any _).mono ?_; rintro e w6 ⟨rfl, hb6⟩))
          go_ret
          have y1 := BZ.out.size
          have y2 := hb8.size
          have y3 := hb9.size
          exact ⟨rfl, ((BZ.out.trans (hb8.mono y1)).trans (hb9.mono (by omega))).trans (hb6.mono (by omega))⟩
end Go.Proofs.Ytmjikebbknjahaa
