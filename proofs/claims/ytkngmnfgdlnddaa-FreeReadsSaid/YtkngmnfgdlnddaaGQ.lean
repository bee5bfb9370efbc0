/-
  The walk of FreeFromBodies.
-/
import Derived.Test.YtkngmnfgdlnddaaGN
import Derived.Test.YtkngmnfgdlnddaaGP
set_option linter.unusedSimpArgs false
set_option linter.unusedVariables false
namespace Go.Proofs.Ytkngmnfgdlnddaa
open Go.RowKit Go.Lib Hw Go.Maps
set_option linter.unusedSimpArgs false
set_option linter.unusedVariables false

def fbX (a b : Int) (s : ByteArray) : List Nat := if fromB a b s = true then numsOf s (cntOf s) else []
def fbN (a b : Int) (s : ByteArray) : Nat := if fromB a b s = true then nextOf s else 0
def fbE (a b : Int) (s : ByteArray) : Int := if fromB a b s = true then 0 else if mayB a b = true then 90 else 2
def FBP (nx : Nat) (xs : List Nat) (k : Int) (w : World) (e : Ending) (w' : World) : Prop := ∃ v, e = .returned (.tuple #[.int .u32 (nx : Int), v, .int .i64 k]) ∧ OwnO w' w.heap.size v xs ∧ Below w.heap.size w w'
theorem FromBody_uni (a b : Int) (s : ByteArray) (w : World) (hs : s.size ≤ 140737488351232) : Calls Try.prog 26 #[.agg #[.int .i64 a, .int .i64 b], .string s] w (FBP (fbN a b s) (fbX a b s) (fbE a b s) w) := by
  refine (FromBody_any a b s w hs).mono ?_
  rintro e w' (⟨h1, v, he, ho, hb⟩ | ⟨h1, he, hb⟩)
  · unfold fbN fbX fbE
    rw [if_pos h1, if_pos h1, if_pos h1]
    exact ⟨v, he, ho.toO, hb⟩
  · have hn : ¬ fromB a b s = true := by rw [h1]; decide
    unfold fbN fbX fbE
    rw [if_neg hn, if_neg hn, if_neg hn]
    exact ⟨_, he, OwnO.nil _ _, hb⟩
theorem refFromBody_uni (a b : Int) (s : ByteArray) (w : World) (hs : s.size ≤ 140737488351232) : Calls Try.prog 25 #[.agg #[.int .i64 a, .int .i64 b], .string s] w (FBP (fbN a b s) (fbX a b s) (fbE a b s) w) := by
  refine (refFromBody_any a b s w (by omega)).mono ?_
  rintro e w' (⟨h1, v, he, ho, hb⟩ | ⟨h1, he, hb⟩)
  · unfold fbN fbX fbE
    rw [if_pos h1, if_pos h1, if_pos h1]
    exact ⟨v, he, ho, hb⟩
  · have hn : ¬ fromB a b s = true := by rw [h1]; decide
    unfold fbN fbX fbE
    rw [if_neg hn, if_neg hn, if_neg hn]
    exact ⟨_, he, OwnO.nil _ _, hb⟩
theorem fbX_all (a b : Int) (s : ByteArray) : All4 (fbX a b s) := by
  unfold fbX
  split
  · exact numsOf_all s _
  · intro x hx; simp at hx
theorem fbX_len (a b : Int) (s : ByteArray) (hs : s.size ≤ 140737488351232) : (fbX a b s).length * 4 + 8 ≤ 140737488351240 := by
  unfold fbX
  split
  · rename_i h
    rw [numsOf_len]
    unfold fromB at h
    simp only [Bool.and_eq_true, decide_eq_true_eq] at h
    omega
  · simp
theorem readR_two (W : World) (g : Nat) (va vb : Value) (t : TypeId) (h : W.heap[g]? = some (.cells #[va, vb] t (0, 0))) : ReadR 1 W (.slice (some ⟨g, 0, none⟩) 2 2) 2 [va, vb] := by
  refine ⟨rfl, _, 2, rfl, by decide, fun _ => ⟨g, 0, rfl, heap_lt h, fun i hi => ?_⟩⟩
  rw [heap_cell h]
  match i, hi with
  | 0, _ => rfl
  | 1, _ => rfl
theorem readR_nil (sz : Nat) (W : World) : ReadR sz W (.slice none 0 0) 0 [] := ⟨by simp, none, 0, rfl, by decide, fun h => by omega⟩
/-- apart of two lists of numbers alone -/
theorem apart_two (W : World) (g : Nat) (va vb : Value) (t : TypeId) (xs ys : List Nat) (h : W.heap[g]? = some (.cells #[va, vb] t (0, 0))) (ha : OwnO W 0 va xs) (hb : OwnO W 0 vb ys) (hd : ∀ q, va.ownBlock = some q → vb.ownBlock ≠ some q) (hga : va.ownBlock ≠ some g) (hgb : vb.ownBlock ≠ some g) (hx : (xs.length + 70) * 4 ≤ 140737488355328) (hy : (ys.length + 70) * 4 ≤ 140737488355328) :
    Calls Try.prog 28 #[.slice (some ⟨g, 0, none⟩) 2 2, .slice none 0 0] W fun e w' => e = .returned (.bool true) ∧ Mod (fun q => va.ownBlock = some q ∨ vb.ownBlock = some q) W w' := by
  let lab : Nat → Nat := fun q => if va.ownBlock = some q then 1 else if vb.ownBlock = some q then 2 else 0
  have la : ∀ q, va.ownBlock = some q → lab q = 1 := fun q hq => if_pos hq
  have lb : ∀ q, vb.ownBlock = some q → lab q = 2 := fun q hq => by
    have h1 : ¬ va.ownBlock = some q := fun e => hd q e hq
    show (if _ then _ else _) = _
    rw [if_neg h1, if_pos hq]
  have l0 : ∀ q, va.ownBlock ≠ some q → vb.ownBlock ≠ some q → lab q = 0 := fun q h1 h2 => by
    show (if _ then _ else _) = _
    rw [if_neg h1, if_neg h2]
  refine (apart_any lab _ _ 2 0 [va, vb] [] (fun j => if j = 0 then xs.length else ys.length) (fun _ => 0) W (readR_two W g va vb t h) (readR_nil _ _) ?_ ?_ ?_ ?_ ?_ ?_ ?_ ?_ ?_ ?_ ?_).mono ?_
  · intro q hq
    obtain rfl : g = q := Option.some.inj hq
    exact l0 g hga hgb
  · intro q hq; cases hq
  · intro j hj
    match j, hj with
    | 0, _ => exact ⟨_, ha.toR⟩
    | 1, _ => exact ⟨_, hb.toR⟩
  · intro j hj; simp at hj
  · intro j hj q hq
    match j, hj with
    | 0, _ => exact ⟨(ha.lt q hq).2, la q hq⟩
    | 1, _ => exact ⟨(hb.lt q hq).2, lb q hq⟩
  · intro j hj; simp at hj
  · intro j hj
    match j, hj with
    | 0, _ => exact hx
    | 1, _ => exact hy
  · intro j hj; exact absurd hj (Nat.not_lt_zero _)
  · exact Lib.hid (by omega)
  · exact Lib.hid (by omega)
  · intro q hq
    exact l0 q (fun e => by have := (ha.lt q e).2; omega) (fun e => by have := (hb.lt q e).2; omega)
  · rintro e w' ⟨he, m⟩
    refine ⟨he, m.mono (fun q _ hq => ?_)⟩
    by_cases h1 : va.ownBlock = some q
    · exact .inl h1
    · by_cases h2 : vb.ownBlock = some q
      · exact .inr h2
      · exact absurd (l0 q h1 h2) hq
set_option maxRecDepth 5000 in
set_option maxHeartbeats 8000000 in
theorem FreeFromBodies_walk (v sv : Value) (w : World) (hv : IsFrame v) (hs : IsStrR sv) : Calls Try.prog 5 #[v, sv] w fun e w' => e = .returned (.bool true) ∧ Below w.heap.size w w' := by
  obtain ⟨a, b, rfl, ha, hb⟩ := hv
  obtain ⟨s, rfl, hz⟩ := hs
  obtain ⟨nx, hnx⟩ : ∃ x, fbN a b s = x := ⟨_, rfl⟩
  obtain ⟨xs, hxs⟩ : ∃ x, fbX a b s = x := ⟨_, rfl⟩
  obtain ⟨k, hk⟩ : ∃ x, fbE a b s = x := ⟨_, rfl⟩
  have HA : Hid (All4 xs) := by show All4 xs; rw [← hxs]; exact fbX_all a b s
  have HL : Hid (xs.length * 4 + 8 ≤ 140737488351240) := by show _ ≤ _; rw [← hxs]; exact fbX_len a b s hz
  have HC : Hid (∀ W, Calls Try.prog 26 #[.agg #[.int .i64 a, .int .i64 b], .string s] W (FBP nx xs k W)) := fun W => by
    have h := FromBody_uni a b s W hz
    rw [hnx, hxs, hk] at h
    exact h
  have HR : Hid (∀ W, Calls Try.prog 25 #[.agg #[.int .i64 a, .int .i64 b], .string s] W (FBP nx xs k W)) := fun W => by
    have h := refFromBody_uni a b s W hz
    rw [hnx, hxs, hk] at h
    exact h
  clear hnx hxs hk hz ha hb
  obtain ⟨N, hN⟩ : ∃ N, w.heap.size = N := ⟨_, rfl⟩
  have HN := Lib.hid hN
  rw [hN]
  clear hN
  go_enter Try.func5, Try.ntmps5
  go_upto_region 0 with fail
  with_reducible refine wp_region_list ?_
  refine wpList_boxB rfl _ _ rfl N HN.out #[.int .i64 a, .int .i64 b] rfl ?_
  intro w1 e1 b1 z1
  (try simp only [Act.put, nA, nB, nC])
  (with_reducible refine wpList_plain rfl ?_); intro K hK; go_simp; (with_reducible refine hK _ _ ?_); clear hK K; try simp only [Act.put, nA, nB, nC]
  have B1 := Lib.hid b1
  have hz1 : N < w1.heap.size := heap_lt e1
  have E1 := Lib.hid e1
  have c0 := heap_cell e1 (o := 0)
  have c1 := heap_cell e1 (o := 1)
  clear b1 e1 z1
  go_upto_region 1 with fail
  with_reducible refine wp_region_list ?_
  (with_reducible refine wpList_plain rfl ?_); intro K hK; go_simp; (with_reducible refine hK _ _ ?_); clear hK K; try simp only [Act.put, nA, nB, nC]
  (with_reducible refine wpList_plain rfl ?_); intro K hK; go_simp; (with_reducible refine hK _ _ ?_); clear hK K; try simp only [Act.put, nA, nB, nC]
  with_reducible refine wpList_plain rfl ?_
  intro K hK
  go_simp
  refine (HR.out w1).mono ?_; rintro e w2 ⟨vw, rfl, ow, b2⟩; obtain ⟨wad, wc, hwv, hq1, hq2, hq3⟩ := ow.shape; obtain ⟨wn, hwn⟩ : ∃ n, xs.length = n := ⟨_, rfl⟩; rw [hwn] at hwv; subst hwv; clear hq1 hq2 hq3 hwn
  first | with_reducible refine hK _ _ ?_ | refine hK _ _ ?_
  clear hK K
  (try simp only [Act.put, nA, nB, nC])
  (with_reducible refine wpList_plain rfl ?_); intro K hK; go_simp; (with_reducible refine hK _ _ ?_); clear hK K; try simp only [Act.put, nA, nB, nC]
  (with_reducible refine wpList_plain rfl ?_); intro K hK; go_simp; (with_reducible refine hK _ _ ?_); clear hK K; try simp only [Act.put, nA, nB, nC]
  (with_reducible refine wpList_plain rfl ?_); intro K hK; go_simp; (with_reducible refine hK _ _ ?_); clear hK K; try simp only [Act.put, nA, nB, nC]
  (with_reducible refine wpList_plain rfl ?_); intro K hK; go_simp; (with_reducible refine hK _ _ ?_); clear hK K; try simp only [Act.put, nA, nB, nC]
  (with_reducible refine wpList_plain rfl ?_); intro K hK; go_simp; (with_reducible refine hK _ _ ?_); clear hK K; try simp only [Act.put, nA, nB, nC]
  (with_reducible refine wpList_plain rfl ?_); intro K hK; go_simp; (with_reducible refine hK _ _ ?_); clear hK K; try simp only [Act.put, nA, nB, nC]
  (with_reducible refine wpList_plain rfl ?_); intro K hK; go_simp; (with_reducible refine hK _ _ ?_); clear hK K; try simp only [Act.put, nA, nB, nC]
  have B2 : Hid (Below N w w2) := B1.out.trans (b2.mono (by omega))
  have E2 := Lib.hid (heap_below E1.out b2 hz1)
  have hz2 : N < w2.heap.size := heap_lt E2.out
  have hzs2 := b2.size
  have OW := Lib.hid ow
  have c0 := heap_cell E2.out (o := 0)
  have c1 := heap_cell E2.out (o := 1)
  clear b2 ow B1 E1
  go_upto_region 2 with fail
  with_reducible refine wp_region_list ?_
  (with_reducible refine wpList_plain rfl ?_); intro K hK; go_simp; (with_reducible refine hK _ _ ?_); clear hK K; try simp only [Act.put, nA, nB, nC]
  (with_reducible refine wpList_plain rfl ?_); intro K hK; go_simp; (with_reducible refine hK _ _ ?_); clear hK K; try simp only [Act.put, nA, nB, nC]
  with_reducible refine wpList_plain rfl ?_
  intro K hK
  go_simp
  refine (HC.out w2).mono ?_; rintro e w3 ⟨va, rfl, oa, b3⟩; obtain ⟨aad, ac, hav, hq1, hq2, hq3⟩ := oa.shape; obtain ⟨an, han⟩ : ∃ n, xs.length = n := ⟨_, rfl⟩; rw [han] at hav; subst hav; clear hq1 hq2 hq3
  first | with_reducible refine hK _ _ ?_ | refine hK _ _ ?_
  clear hK K
  (try simp only [Act.put, nA, nB, nC])
  (with_reducible refine wpList_plain rfl ?_); intro K hK; go_simp; (with_reducible refine hK _ _ ?_); clear hK K; try simp only [Act.put, nA, nB, nC]
  (with_reducible refine wpList_plain rfl ?_); intro K hK; go_simp; (with_reducible refine hK _ _ ?_); clear hK K; try simp only [Act.put, nA, nB, nC]
  (with_reducible refine wpList_plain rfl ?_); intro K hK; go_simp; (with_reducible refine hK _ _ ?_); clear hK K; try simp only [Act.put, nA, nB, nC]
  (with_reducible refine wpList_plain rfl ?_); intro K hK; go_simp; (with_reducible refine hK _ _ ?_); clear hK K; try simp only [Act.put, nA, nB, nC]
  (with_reducible refine wpList_plain rfl ?_); intro K hK; go_simp; (with_reducible refine hK _ _ ?_); clear hK K; try simp only [Act.put, nA, nB, nC]
  (with_reducible refine wpList_plain rfl ?_); intro K hK; go_simp; (with_reducible refine hK _ _ ?_); clear hK K; try simp only [Act.put, nA, nB, nC]
  (with_reducible refine wpList_plain rfl ?_); intro K hK; go_simp; (with_reducible refine hK _ _ ?_); clear hK K; try simp only [Act.put, nA, nB, nC]
  have B3 : Hid (Below N w w3) := B2.out.trans (b3.mono (by omega))
  have E3 := Lib.hid (heap_below E2.out b3 hz2)
  have hz3 : N < w3.heap.size := heap_lt E3.out
  have hzs3 := b3.size
  have OW3 := Lib.hid (OW.out.below b3 (fun g hg => (OW.out.lt g hg).2))
  have OA := Lib.hid oa
  have c0 := heap_cell E3.out (o := 0)
  have c1 := heap_cell E3.out (o := 1)
  have HLW := fun g hg => (OW.out.lt g hg).2
  have HLW := Lib.hid HLW
  have HAN := Lib.hid han
  clear b3 oa B2 E2 OW han
  go_upto_region 3 with fail
  with_reducible refine wp_region_list ?_
  (with_reducible refine wpList_plain rfl ?_); intro K hK; go_simp; (with_reducible refine hK _ _ ?_); clear hK K; try simp only [Act.put, nA, nB, nC]
  (with_reducible refine wpList_plain rfl ?_); intro K hK; go_simp; (with_reducible refine hK _ _ ?_); clear hK K; try simp only [Act.put, nA, nB, nC]
  with_reducible refine wpList_plain rfl ?_
  intro K hK
  go_simp
  refine (HC.out w3).mono ?_; rintro e w4 ⟨vb, rfl, ob, b4⟩; obtain ⟨bad, bc, hbv, hq1, hq2, hq3⟩ := ob.shape; rw [HAN.out] at hbv; subst hbv; clear hq1 hq2 hq3
  first | with_reducible refine hK _ _ ?_ | refine hK _ _ ?_
  clear hK K
  (try simp only [Act.put, nA, nB, nC])
  (with_reducible refine wpList_plain rfl ?_); intro K hK; go_simp; (with_reducible refine hK _ _ ?_); clear hK K; try simp only [Act.put, nA, nB, nC]
  (with_reducible refine wpList_plain rfl ?_); intro K hK; go_simp; (with_reducible refine hK _ _ ?_); clear hK K; try simp only [Act.put, nA, nB, nC]
  (with_reducible refine wpList_plain rfl ?_); intro K hK; go_simp; (with_reducible refine hK _ _ ?_); clear hK K; try simp only [Act.put, nA, nB, nC]
  (with_reducible refine wpList_plain rfl ?_); intro K hK; go_simp; (with_reducible refine hK _ _ ?_); clear hK K; try simp only [Act.put, nA, nB, nC]
  (with_reducible refine wpList_plain rfl ?_); intro K hK; go_simp; (with_reducible refine hK _ _ ?_); clear hK K; try simp only [Act.put, nA, nB, nC]
  (with_reducible refine wpList_plain rfl ?_); intro K hK; go_simp; (with_reducible refine hK _ _ ?_); clear hK K; try simp only [Act.put, nA, nB, nC]
  (with_reducible refine wpList_plain rfl ?_); intro K hK; go_simp; (with_reducible refine hK _ _ ?_); clear hK K; try simp only [Act.put, nA, nB, nC]
  have B4 : Hid (Below N w w4) := B3.out.trans (b4.mono (by omega))
  have E4 := Lib.hid (heap_below E3.out b4 hz3)
  have hz4 : N < w4.heap.size := heap_lt E4.out
  have hzs4 := b4.size
  have OW4 := Lib.hid (OW3.out.below b4 (fun g hg => (OW3.out.lt g hg).2))
  have OA4 := Lib.hid (OA.out.below b4 (fun g hg => (OA.out.lt g hg).2))
  have OB4 := Lib.hid ob
  have HLA := Lib.hid (fun g hg => (OA.out.lt g hg).2)
  clear b4 ob B3 E3 OW3 c0 c1
  go_upto_region 4 with fail
  with_reducible refine wp_region_list ?_
  (with_reducible refine wpList_plain rfl ?_); intro K hK; go_simp; (with_reducible refine hK _ _ ?_); clear hK K; try simp only [Act.put, nA, nB, nC]
  (with_reducible refine wpList_plain rfl ?_); intro K hK; go_simp; (with_reducible refine hK _ _ ?_); clear hK K; try simp only [Act.put, nA, nB, nC]
  (with_reducible refine wpList_plain rfl ?_); intro K hK; go_simp; (with_reducible refine hK _ _ ?_); clear hK K; try simp only [Act.put, nA, nB, nC]
  (with_reducible refine wpList_plain rfl ?_); intro K hK; go_simp; (with_reducible refine hK _ _ ?_); clear hK K; try simp only [Act.put, nA, nB, nC]
  (with_reducible refine wpList_step ?_); intro K hK; rw [if_pos (by rfl)]; go_simp; (with_reducible refine hK _ _ ?_); clear hK K; try simp only [Act.put, nA, nB, nC]
  (with_reducible refine wpList_step ?_); intro K hK; rw [if_pos (by rfl)]; go_simp; (with_reducible refine hK _ _ ?_); clear hK K; try simp only [Act.put, nA, nB, nC]
  (with_reducible refine wpList_step ?_); intro K hK; rw [if_pos (by rfl)]; go_simp; (with_reducible refine hK _ _ ?_); clear hK K; try simp only [Act.put, nA, nB, nC]
  (with_reducible refine wpList_plain rfl ?_); intro K hK; go_simp; (with_reducible refine hK _ _ ?_); clear hK K; try simp only [Act.put, nA, nB, nC]
  (with_reducible refine wpList_plain rfl ?_); intro K hK; go_simp; (with_reducible refine hK _ _ ?_); clear hK K; try simp only [Act.put, nA, nB, nC]
  (with_reducible refine wpList_step ?_); intro K hK; rw [if_pos (by rfl)]; go_simp; (with_reducible refine hK _ _ ?_); clear hK K; try simp only [Act.put, nA, nB, nC]
  (with_reducible refine wpList_step ?_); intro K hK; rw [if_pos (by rfl)]; go_simp; (with_reducible refine hK _ _ ?_); clear hK K; try simp only [Act.put, nA, nB, nC]
  (with_reducible refine wpList_step ?_); intro K hK; rw [if_pos (by rfl)]; go_simp; (with_reducible refine hK _ _ ?_); clear hK K; try simp only [Act.put, nA, nB, nC]
  (with_reducible refine wpList_plain rfl ?_); intro K hK; go_simp; (with_reducible refine hK _ _ ?_); clear hK K; try simp only [Act.put, nA, nB, nC]
  (with_reducible refine wpList_plain rfl ?_); intro K hK; go_simp; (with_reducible refine hK _ _ ?_); clear hK K; try simp only [Act.put, nA, nB, nC]
  (with_reducible refine wpList_step ?_); intro K hK; rw [if_pos (by rfl)]; go_simp; (with_reducible refine hK _ _ ?_); clear hK K; try simp only [Act.put, nA, nB, nC]
  (with_reducible refine wpList_step ?_); intro K hK; rw [if_pos (by rfl)]; go_simp; (with_reducible refine hK _ _ ?_); clear hK K; try simp only [Act.put, nA, nB, nC]
  (with_reducible refine wpList_step ?_); intro K hK; rw [if_pos (by rfl)]; go_simp; (with_reducible refine hK _ _ ?_); clear hK K; try simp only [Act.put, nA, nB, nC]
  (with_reducible refine wpList_plain rfl ?_); intro K hK; go_simp; (with_reducible refine hK _ _ ?_); clear hK K; try simp only [Act.put, nA, nB, nC]
  (with_reducible refine wpList_plain rfl ?_); intro K hK; go_simp; (with_reducible refine hK _ _ ?_); clear hK K; try simp only [Act.put, nA, nB, nC]
  (with_reducible refine wpList_step ?_); intro K hK; rw [if_pos (by rfl)]; go_simp; (with_reducible refine hK _ _ ?_); clear hK K; try simp only [Act.put, nA, nB, nC]
  (with_reducible refine wpList_step ?_); intro K hK; rw [if_pos (by rfl)]; go_simp; (with_reducible refine hK _ _ ?_); clear hK K; try simp only [Act.put, nA, nB, nC]
  with_reducible refine wpList_step ?_
  intro K hK
  rw [if_pos (by rfl)]
  go_simp
  refine (SameNumbers_any _ _ xs xs w4 (OA4.out.row HA.out) (OW4.out.row HA.out)).mono ?_; rintro e w5 ⟨rfl, b5⟩; rw [decide_eq_true rfl]
  first | with_reducible refine hK _ _ ?_ | refine hK _ _ ?_
  clear hK K
  (try simp only [Act.put, nA, nB, nC])
  (with_reducible refine wpList_step ?_); intro K hK; rw [if_pos (by rfl)]; go_simp; (with_reducible refine hK _ _ ?_); clear hK K; try simp only [Act.put, nA, nB, nC]
  (with_reducible refine wpList_plain rfl ?_); intro K hK; go_simp; (with_reducible refine hK _ _ ?_); clear hK K; try simp only [Act.put, nA, nB, nC]
  (with_reducible refine wpList_plain rfl ?_); intro K hK; go_simp; (with_reducible refine hK _ _ ?_); clear hK K; try simp only [Act.put, nA, nB, nC]
  (with_reducible refine wpList_step ?_); intro K hK; rw [if_pos (by rfl)]; go_simp; (with_reducible refine hK _ _ ?_); clear hK K; try simp only [Act.put, nA, nB, nC]
  (with_reducible refine wpList_step ?_); intro K hK; rw [if_pos (by rfl)]; go_simp; (with_reducible refine hK _ _ ?_); clear hK K; try simp only [Act.put, nA, nB, nC]
  have OW5 := Lib.hid (OW4.out.below b5 (fun g hg => (OW4.out.lt g hg).2))
  have OA5 := Lib.hid (OA4.out.below b5 (fun g hg => (OA4.out.lt g hg).2))
  have OB5 := Lib.hid (OB4.out.below b5 (fun g hg => (OB4.out.lt g hg).2))
  with_reducible refine wpList_step ?_
  intro K hK
  rw [if_pos (by rfl)]
  go_simp
  refine (SameNumbers_any _ _ xs xs w5 (OB5.out.row HA.out) (OW5.out.row HA.out)).mono ?_; rintro e w6 ⟨rfl, b6⟩; rw [decide_eq_true rfl]
  first | with_reducible refine hK _ _ ?_ | refine hK _ _ ?_
  clear hK K
  (try simp only [Act.put, nA, nB, nC])
  (with_reducible refine wpList_step ?_); intro K hK; rw [if_pos (by rfl)]; go_simp; (with_reducible refine hK _ _ ?_); clear hK K; try simp only [Act.put, nA, nB, nC]
  (with_reducible refine wpList_plain rfl ?_); intro K hK; go_simp; (with_reducible refine hK _ _ ?_); clear hK K; try simp only [Act.put, nA, nB, nC]
  (with_reducible refine wpList_plain rfl ?_); intro K hK; go_simp; (with_reducible refine hK _ _ ?_); clear hK K; try simp only [Act.put, nA, nB, nC]
  (with_reducible refine wpList_step ?_); intro K hK; rw [if_pos (by rfl)]; go_simp; (with_reducible refine hK _ _ ?_); clear hK K; try simp only [Act.put, nA, nB, nC]
  (with_reducible refine wpList_step ?_); intro K hK; rw [if_pos (by rfl)]; go_simp; (with_reducible refine hK _ _ ?_); clear hK K; try simp only [Act.put, nA, nB, nC]
  (with_reducible refine wpList_step ?_); intro K hK; rw [if_pos (by rfl)]; go_simp; (with_reducible refine hK _ _ ?_); clear hK K; try simp only [Act.put, nA, nB, nC]
  obtain ⟨g, hg⟩ : ∃ g, w6.heap.size = g := ⟨_, rfl⟩
  obtain ⟨w7, hw7⟩ : ∃ W, w6.alloc (.cells #[.slice aad an ac, .slice bad an bc] 28) = W := ⟨_, rfl⟩
  have b7 : Below w6.heap.size w6 w7 := by rw [← hw7]; exact (Below.refl _ _).alloc (Nat.le_refl _) _
  have r7 : w7.heap[g]? = some (.cells #[.slice aad an ac, .slice bad an bc] 28 (0, 0)) := by rw [← hw7, ← hg]; exact heap_alloc_new w6 _
  have b47 : Below w4.heap.size w4 w7 := b5.trans ((b6.trans (b7.mono b6.size)).mono b5.size)
  have OW7 := Lib.hid (OW4.out.below b47 (fun q hq => (OW4.out.lt q hq).2))
  have OA7 := OA4.out.below b47 (fun q hq => (OA4.out.lt q hq).2)
  have OB7 := OB4.out.below b47 (fun q hq => (OB4.out.lt q hq).2)
  have B7 : Hid (Below N w w7) := B4.out.trans (b47.mono (by omega))
  have E7 := Lib.hid (heap_below E4.out b47 hz4)
  have hg4 : w4.heap.size ≤ g := by have := b5.size; have := b6.size; omega
  have HAP := Lib.hid (apart_two w7 g _ _ _ xs xs r7 (OA7.mono (Nat.zero_le _)) (OB7.mono (Nat.zero_le _)) (fun q h1 h2 => by have := HLA.out q h1; have := (OB7.lt q h2).1; omega) (fun h1 => by have := HLA.out g h1; omega) (fun h1 => by have := (OB4.out.lt g h1).2; omega) (by have := HL.out; omega) (by have := HL.out; omega))
  rw [hw7, hg]
  with_reducible refine wpList_step ?_
  intro K hK
  rw [if_pos (by rfl)]
  go_simp
  refine HAP.out.mono ?_; rintro e w8 ⟨rfl, m8⟩
  first | with_reducible refine hK _ _ ?_ | refine hK _ _ ?_
  clear hK K
  (try simp only [Act.put, nA, nB, nC])
  (with_reducible refine wpList_step ?_); intro K hK; rw [if_pos (by rfl)]; go_simp; (with_reducible refine hK _ _ ?_); clear hK K; try simp only [Act.put, nA, nB, nC]
  (with_reducible refine wpList_plain rfl ?_); intro K hK; go_simp; (with_reducible refine hK _ _ ?_); clear hK K; try simp only [Act.put, nA, nB, nC]
  have nlow : ∀ q, (Value.slice aad an ac).ownBlock = some q ∨ (Value.slice bad an bc).ownBlock = some q → w2.heap.size ≤ q := fun q hq => by
    rcases hq with h1 | h1
    · exact (OA7.lt q h1).1
    · have := (OB7.lt q h1).1; omega
  have hN2 : N < w2.heap.size := hz2
  have B8 : Hid (Below N w w8) := B7.out.trans (m8.below (fun q hq hs => by have := nlow q hs; omega) (by have := b47.size; omega))
  have OW8 := Lib.hid (OW7.out.mod m8 (fun q hq hs => by have := nlow q hs; have := HLW.out q hq; omega))
  have e8 := m8.heap E7.out (fun hs => by have := nlow N hs; omega)
  have E8 := Lib.hid e8
  have hz8 : N < w8.heap.size := heap_lt e8
  have c0 := heap_cell e8 (o := 0)
  have c1 := heap_cell e8 (o := 1)
  clear hw7 hg b7 r7 b47 OA7 OB7 hg4 HAP m8 nlow e8 b5 b6 OW4 OW5 OA4 OA5 OB4 OB5 B4 E4 OW7 B7 E7 HLA HLW
  go_upto_region 6 with fail
  with_reducible refine wp_region_list ?_
  (with_reducible refine wpList_plain rfl ?_); intro K hK; go_simp; (with_reducible refine hK _ _ ?_); clear hK K; try simp only [Act.put, nA, nB, nC]
  (with_reducible refine wpList_plain rfl ?_); intro K hK; go_simp; (with_reducible refine hK _ _ ?_); clear hK K; try simp only [Act.put, nA, nB, nC]
  with_reducible refine wpList_plain rfl ?_
  intro K hK
  go_simp
  refine (HC.out w8).mono ?_; rintro e w9 ⟨vc, rfl, oc, b9⟩; obtain ⟨cad, cc, hcv, hq1, hq2, hq3⟩ := oc.shape; rw [HAN.out] at hcv; subst hcv; clear hq1 hq2 hq3
  first | with_reducible refine hK _ _ ?_ | refine hK _ _ ?_
  clear hK K
  (try simp only [Act.put, nA, nB, nC])
  (with_reducible refine wpList_plain rfl ?_); intro K hK; go_simp; (with_reducible refine hK _ _ ?_); clear hK K; try simp only [Act.put, nA, nB, nC]
  (with_reducible refine wpList_plain rfl ?_); intro K hK; go_simp; (with_reducible refine hK _ _ ?_); clear hK K; try simp only [Act.put, nA, nB, nC]
  (with_reducible refine wpList_plain rfl ?_); intro K hK; go_simp; (with_reducible refine hK _ _ ?_); clear hK K; try simp only [Act.put, nA, nB, nC]
  (with_reducible refine wpList_plain rfl ?_); intro K hK; go_simp; (with_reducible refine hK _ _ ?_); clear hK K; try simp only [Act.put, nA, nB, nC]
  (with_reducible refine wpList_plain rfl ?_); intro K hK; go_simp; (with_reducible refine hK _ _ ?_); clear hK K; try simp only [Act.put, nA, nB, nC]
  (with_reducible refine wpList_plain rfl ?_); intro K hK; go_simp; (with_reducible refine hK _ _ ?_); clear hK K; try simp only [Act.put, nA, nB, nC]
  (with_reducible refine wpList_plain rfl ?_); intro K hK; go_simp; (with_reducible refine hK _ _ ?_); clear hK K; try simp only [Act.put, nA, nB, nC]
  have B9 : Hid (Below N w w9) := B8.out.trans (b9.mono (by omega))
  have hz9 : N < w9.heap.size := Nat.lt_of_lt_of_le hz8 b9.size
  have OW9 := Lib.hid (OW8.out.below b9 (fun q hq => (OW8.out.lt q hq).2))
  have OC := Lib.hid oc
  clear b9 oc B8 OW8 E8 c0 c1
  go_upto_region 7 with fail
  with_reducible refine wp_region_list ?_
  (with_reducible refine wpList_plain rfl ?_); intro K hK; go_simp; (with_reducible refine hK _ _ ?_); clear hK K; try simp only [Act.put, nA, nB, nC]
  (with_reducible refine wpList_plain rfl ?_); intro K hK; go_simp; (with_reducible refine hK _ _ ?_); clear hK K; try simp only [Act.put, nA, nB, nC]
  with_reducible refine wpList_plain rfl ?_
  intro K hK
  go_simp
  refine (SameNumbers_any _ _ xs xs w9 (OC.out.row HA.out) (OW9.out.row HA.out)).mono ?_; rintro e w10 ⟨rfl, b10⟩; rw [decide_eq_true rfl]
  first | with_reducible refine hK _ _ ?_ | refine hK _ _ ?_
  clear hK K
  (try simp only [Act.put, nA, nB, nC])
  have B10 : Hid (Below N w w10) := B9.out.trans (b10.mono (by omega))
  have hz10 : N < w10.heap.size := Nat.lt_of_lt_of_le hz9 b10.size
  (with_reducible refine wpList_plain rfl ?_); intro K hK; go_simp; (with_reducible refine hK _ _ ?_); clear hK K; try simp only [Act.put, nA, nB, nC]
  with_reducible refine wpList_step ?_
  intro K hK
  rw [if_pos (by rfl)]
  go_simp
  refine (awake_any w10).mono ?_; rintro e w11 ⟨rfl, b11⟩
  first | with_reducible refine hK _ _ ?_ | refine hK _ _ ?_
  clear hK K
  (try simp only [Act.put, nA, nB, nC])
  (with_reducible refine wpList_plain rfl ?_); intro K hK; go_simp; (with_reducible refine hK _ _ ?_); clear hK K; try simp only [Act.put, nA, nB, nC]
  (with_reducible refine wpList_plain rfl ?_); intro K hK; go_simp; (with_reducible refine hK _ _ ?_); clear hK K; try simp only [Act.put, nA, nB, nC]
  have B11 : Hid (Below N w w11) := B10.out.trans (b11.mono (by omega))
  clear b10 b11 B9 B10 OW9 OC
  go_wp2_with fail
  go_ret
  exact ⟨rfl, B11.out⟩
end Go.Proofs.Ytkngmnfgdlnddaa

