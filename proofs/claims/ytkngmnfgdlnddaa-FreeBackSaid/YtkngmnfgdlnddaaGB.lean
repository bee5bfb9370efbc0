/-
  The walks of slices.Index and Contains over ints, node.Right, free.Entries; the reference's MayFrame and Entries. The walks of free.number, Body's closure, IndexFunc and ContainsFunc with it, free.rising. The walk of free.Body. The walks of a reader's Take (which blocks it writes), of such as fails, and Fault. The walk of free.FromBody. Sets of numbers as maps; the walk of seen's closure.
-/
import Derived.Test.YtkngmnfgdlnddaaGA
import Derived.Maps.OwnOps
import Derived.Maps.OwnSet
import Derived.Maps.Views
import Derived.Maps.Range
set_option linter.unusedSimpArgs false
set_option linter.unusedVariables false
namespace Go.Proofs.Ytkngmnfgdlnddaa
open Go.RowKit Go.Lib Hw
set_option linter.unusedSimpArgs false
set_option linter.unusedVariables false

/-- a row of ints that can be read -/
def IRow (w : World) (v : Value) (xs : List Int) : Prop := ∃ b c, v = .slice (some ⟨b, 0, none⟩) xs.length c ∧ xs.length ≤ 9223372036854775807 ∧ ∀ i (h : i < xs.length), w.cell? ⟨b, i, none⟩ = some (.int .i64 xs[i])
def IdxPost (xs : List Int) (x : Int) (w : World) (e : Ending) (w' : World) : Prop := (∃ r : Int, e = .returned (.int .i64 r) ∧ decide (0 ≤ r) = xs.contains x) ∧ w = w'
set_option maxHeartbeats 1000000 in
theorem Index_int (v : Value) (xs : List Int) (x : Int) (w : World) (hv : Hid (IRow w v xs)) :
    Calls Try.prog 93 #[v, .int .i64 x] w (IdxPost xs x w) := by
  obtain ⟨b, c, hv1, hl, hc⟩ := hv.out
  subst hv1
  have HC := Lib.hid hc
  have HY : Hid (∀ k (h : k < xs.length), xs[k] = x → IdxPost xs x w (.returned (.int .i64 (k : Int))) w) := fun k h e => ⟨⟨_, rfl, by
    rw [decide_eq_true (by omega), eq_comm, List.contains_iff_mem]
    rw [← e]; exact List.getElem_mem h⟩, rfl⟩
  have HZ : Hid ((∀ k (h : k < xs.length), xs[k] ≠ x) → IdxPost xs x w (.returned (.int .i64 (-1))) w) := fun h => ⟨⟨_, rfl, by
    rw [decide_eq_false (by omega), eq_comm]
    refine Bool.eq_false_iff.2 (fun hc => ?_)
    obtain ⟨k, hk, e⟩ := List.mem_iff_getElem.1 (List.contains_iff_mem.1 hc)
    exact h k hk e⟩, rfl⟩
  obtain ⟨R, hR⟩ : ∃ R, IdxPost xs x w = R := ⟨_, rfl⟩
  rw [hR] at HY HZ ⊢
  clear hc hR
  go_enter Try.func93, Try.ntmps93
  go_upto_region 2 with fail
  go_loopw [8] (fun i wr => ∃ (k : Nat), k ≤ xs.length ∧ Hid (∀ j (h : j < xs.length), j < k → xs[j] ≠ x) ∧ wr = w ∧ i = .int .i64 (k : Int)) (fun i _ => xs.length - (intOf i).toNat)
  case atStart => exact ⟨0, Nat.zero_le _, fun j _ h => by omega, by first | rfl | trivial, rfl⟩
  case round =>
    obtain ⟨k, hk, HN, rfl, rfl⟩ := hrel
    by_cases hlt : k < xs.length
    case pos =>
      have dk : decide (k < xs.length) = true := decide_eq_true hlt
      have dk2 : decide ((k : Int) < (xs.length : Int)) = true := decide_eq_true (by omega)
      have ik : (k : Int) < (xs.length : Int) := by omega
      have hc := HC.out k hlt
      have hy := HY.out k hlt
      obtain ⟨y, hy1⟩ : ∃ y, xs[k] = y := ⟨_, rfl⟩
      rw [hy1] at hc hy
      have Hy := Lib.hid hy1
      have HY2 := Lib.hid hy
      clear hy1 hy
      by_cases hxy : x = y
      case pos =>
        have e1 : (x == y) = true := by simp [hxy]
        have hf := HY2.out hxy.symm
        have Hf := Lib.hid hf
        clear hf hxy
        go_wp2_with fail
        exact Hf.out
      case neg =>
        have e1 : (x == y) = false := by simp [hxy]
        have HN2 : Hid (∀ j (h : j < xs.length), j < k + 1 → xs[j] ≠ x) := fun j h hj => by
          by_cases e : j = k
          · subst e; rw [Hy.out]; exact fun e => hxy e.symm
          · exact HN.out j h (by omega)
        clear hxy HN
        go_wp2_with fail
        exact ⟨⟨k + 1, by omega, HN2, by first | rfl | trivial, by go_num⟩, by simp [intOf]; omega⟩
    case neg =>
      have dk : decide (k < xs.length) = false := decide_eq_false hlt
      have dk2 : decide ((k : Int) < (xs.length : Int)) = false := decide_eq_false (by omega)
      have hf := HZ.out (fun j h => HN.out j h (by omega))
      have Hf := Lib.hid hf
      clear hf
      go_wp2_with fail
      exact Hf.out
theorem Contains_int (v : Value) (xs : List Int) (x : Int) (w : World) (hv : Hid (IRow w v xs)) :
    Calls Try.prog 78 #[v, .int .i64 x] w fun e w' => e = .returned (.bool (xs.contains x)) ∧ w = w' := by
  obtain ⟨b, c, hv1, _, _⟩ := hv.out
  subst hv1
  obtain ⟨q, hq⟩ : ∃ q, xs.contains x = q := ⟨_, rfl⟩
  have HQ := Lib.hid hq
  rw [hq]
  clear hq
  go_enter Try.func78, Try.ntmps78
  go_upto_region 1 with fail
  with_reducible refine wp_region_list ?_
  (with_reducible refine wpList_plain rfl ?_); intro K hK; go_simp; (with_reducible refine hK _ _ ?_); clear hK K; try simp only [Act.put, nA, nB, nC]
  (with_reducible refine wpList_plain rfl ?_); intro K hK; go_simp; (with_reducible refine hK _ _ ?_); clear hK K; try simp only [Act.put, nA, nB, nC]
  with_reducible refine wpList_plain rfl ?_
  intro K hK
  go_simp
  refine (Index_int _ xs x w hv).mono ?_; rintro e w2 ⟨⟨r, rfl, hr⟩, rfl⟩; rw [HQ.out] at hr
  first | with_reducible refine hK _ _ ?_ | refine hK _ _ ?_
  clear hK K
  (try simp only [Act.put, nA, nB, nC])
  have Hr := Lib.hid hr
  clear hr
  (with_reducible refine wpList_plain rfl ?_); intro K hK; go_simp; (with_reducible refine hK _ _ ?_); clear hK K; try simp only [Act.put, nA, nB, nC]
  (with_reducible refine wpList_plain rfl ?_); intro K hK; go_simp; (with_reducible refine hK _ _ ?_); clear hK K; try simp only [Act.put, nA, nB, nC]
  go_wp2_with fail
  go_ret
  exact ⟨by rw [← Hr.out]; rfl, rfl⟩
def pages4 : List Int := [1024, 2048, 4096, 8192]
theorem pages4_b (a : Int) : pages4.contains a = (a == 1024 || a == 2048 || a == 4096 || a == 8192) := by
  simp only [pages4, List.contains_cons, List.contains_nil, Bool.or_false, Bool.or_assoc]
set_option maxHeartbeats 1000000 in
theorem Right_any (a b : Int) (w : World) :
    Calls Try.prog 51 #[.agg #[.int .i64 a, .int .i64 b]] w fun e w' => e = .returned (.bool (mayB a b)) ∧ Below w.heap.size w w' := by
  obtain ⟨N, hN⟩ : ∃ N, w.heap.size = N := ⟨_, rfl⟩
  have HN := Lib.hid hN
  rw [hN]
  obtain ⟨q, hq⟩ : ∃ q, pages4.contains a = q := ⟨_, rfl⟩
  have HQ := Lib.hid hq
  have hm : mayB a b = (q && (decide (1 ≤ b) && decide (b ≤ 32))) := by unfold mayB; rw [← hq, pages4_b]
  rw [hm]
  clear hN hq hm
  go_enter Try.func51, Try.ntmps51
  go_upto_region 0 with fail
  with_reducible refine wp_region_list ?_
  refine wpList_boxB rfl _ _ rfl N HN.out #[.int .i64 a, .int .i64 b] rfl ?_
  intro w0 e0 b0 z0
  (try simp only [Act.put, nA, nB, nC])
  (with_reducible refine wpList_plain rfl ?_); intro K hK; go_simp; (with_reducible refine hK _ _ ?_); clear hK K; try simp only [Act.put, nA, nB, nC]
  have E0 := Lib.hid e0
  have B0 := Lib.hid b0
  have Z0 := Lib.hid z0
  clear e0 b0 z0
  have k0 := heap_cell E0.out (o := 0)
  go_upto_region 1 with fail
  with_reducible refine wp_region_list ?_
  (with_reducible refine wpList_plain rfl ?_); intro K hK; go_simp; (with_reducible refine hK _ _ ?_); clear hK K; try simp only [Act.put, nA, nB, nC]
  obtain ⟨w1, hw1⟩ : ∃ W, w0.alloc (.cells #[.int .i64 1024, .int .i64 2048, .int .i64 4096, .int .i64 8192] 3) = W := ⟨_, rfl⟩
  have hb1 : Below w0.heap.size w0 w1 := by rw [← hw1]; exact (Below.refl _ _).alloc (Nat.le_refl _) _
  have IR : Hid (IRow w1 (.slice (some ⟨w0.heap.size, 0, none⟩) 4 4) pages4) := ⟨w0.heap.size, 4, rfl, by decide, fun i hi => by
    rw [← hw1, heap_cell (heap_alloc_new w0 _)]
    match i, hi with
    | 0, _ => rfl
    | 1, _ => rfl
    | 2, _ => rfl
    | 3, _ => rfl⟩
  have E1 : Hid (w1.heap[N]? = some (.cells #[.int .i64 a, .int .i64 b] 23 (0, 0))) := heap_below E0.out hb1 (heap_lt E0.out)
  have B1 := Lib.hid (B0.out.trans (hb1.mono (by have := Z0.out; omega)))
  rw [hw1]
  clear hw1 hb1 E0 B0 k0
  have k0 := heap_cell E1.out (o := 0)
  have k1 := heap_cell E1.out (o := 1)
  (with_reducible refine wpList_plain rfl ?_); intro K hK; go_simp; (with_reducible refine hK _ _ ?_); clear hK K; try simp only [Act.put, nA, nB, nC]
  (with_reducible refine wpList_plain rfl ?_); intro K hK; go_simp; (with_reducible refine hK _ _ ?_); clear hK K; try simp only [Act.put, nA, nB, nC]
  with_reducible refine wpList_plain rfl ?_
  intro K hK
  go_simp
  refine (Contains_int _ pages4 a w1 IR).mono ?_; rintro e w2 ⟨rfl, rfl⟩; rw [HQ.out]
  first | with_reducible refine hK _ _ ?_ | refine hK _ _ ?_
  clear hK K
  (try simp only [Act.put, nA, nB, nC])
  (with_reducible refine wpList_plain rfl ?_); intro K hK; go_simp; (with_reducible refine hK _ _ ?_); clear hK K; try simp only [Act.put, nA, nB, nC]
  cases q
  case false =>
    (with_reducible refine wpList_step ?_); intro K hK; rw [if_neg (Bool.eq_false_iff.1 (by rfl))]; (with_reducible refine hK _ _ ?_); clear hK K; try simp only [Act.put, nA, nB, nC]
    (with_reducible refine wpList_step ?_); intro K hK; rw [if_neg (Bool.eq_false_iff.1 (by rfl))]; (with_reducible refine hK _ _ ?_); clear hK K; try simp only [Act.put, nA, nB, nC]
    (with_reducible refine wpList_step ?_); intro K hK; rw [if_neg (Bool.eq_false_iff.1 (by rfl))]; (with_reducible refine hK _ _ ?_); clear hK K; try simp only [Act.put, nA, nB, nC]
    (with_reducible refine wpList_plain rfl ?_); intro K hK; go_simp; (with_reducible refine hK _ _ ?_); clear hK K; try simp only [Act.put, nA, nB, nC]
    (with_reducible refine wpList_plain rfl ?_); intro K hK; go_simp; (with_reducible refine hK _ _ ?_); clear hK K; try simp only [Act.put, nA, nB, nC]
    (with_reducible refine wpList_step ?_); intro K hK; rw [if_neg (Bool.eq_false_iff.1 (by rfl))]; (with_reducible refine hK _ _ ?_); clear hK K; try simp only [Act.put, nA, nB, nC]
    (with_reducible refine wpList_step ?_); intro K hK; rw [if_neg (Bool.eq_false_iff.1 (by rfl))]; (with_reducible refine hK _ _ ?_); clear hK K; try simp only [Act.put, nA, nB, nC]
    (with_reducible refine wpList_step ?_); intro K hK; rw [if_neg (Bool.eq_false_iff.1 (by rfl))]; (with_reducible refine hK _ _ ?_); clear hK K; try simp only [Act.put, nA, nB, nC]
    (with_reducible refine wpList_plain rfl ?_); intro K hK; go_simp; (with_reducible refine hK _ _ ?_); clear hK K; try simp only [Act.put, nA, nB, nC]
    (with_reducible refine wpList_plain rfl ?_); intro K hK; go_simp; (with_reducible refine hK _ _ ?_); clear hK K; try simp only [Act.put, nA, nB, nC]
    go_wp2_with fail
    go_ret
    exact ⟨by simp, B1.out⟩
  case true =>
    (with_reducible refine wpList_step ?_); intro K hK; rw [if_pos (by rfl)]; go_simp; (with_reducible refine hK _ _ ?_); clear hK K; try simp only [Act.put, nA, nB, nC]
    (with_reducible refine wpList_step ?_); intro K hK; rw [if_pos (by rfl)]; go_simp; (with_reducible refine hK _ _ ?_); clear hK K; try simp only [Act.put, nA, nB, nC]
    (with_reducible refine wpList_step ?_); intro K hK; rw [if_pos (by rfl)]; go_simp; (with_reducible refine hK _ _ ?_); clear hK K; try simp only [Act.put, nA, nB, nC]
    (with_reducible refine wpList_plain rfl ?_); intro K hK; go_simp; (with_reducible refine hK _ _ ?_); clear hK K; try simp only [Act.put, nA, nB, nC]
    (with_reducible refine wpList_plain rfl ?_); intro K hK; go_simp; (with_reducible refine hK _ _ ?_); clear hK K; try simp only [Act.put, nA, nB, nC]
    by_cases h1 : 1 ≤ b
    · have d1 : decide (1 ≤ b) = true := decide_eq_true h1
      rw [d1]
      (with_reducible refine wpList_step ?_); intro K hK; rw [if_pos (by rfl)]; go_simp; (with_reducible refine hK _ _ ?_); clear hK K; try simp only [Act.put, nA, nB, nC]
      (with_reducible refine wpList_step ?_); intro K hK; rw [if_pos (by rfl)]; go_simp; (with_reducible refine hK _ _ ?_); clear hK K; try simp only [Act.put, nA, nB, nC]
      (with_reducible refine wpList_step ?_); intro K hK; rw [if_pos (by rfl)]; go_simp; (with_reducible refine hK _ _ ?_); clear hK K; try simp only [Act.put, nA, nB, nC]
      (with_reducible refine wpList_plain rfl ?_); intro K hK; go_simp; (with_reducible refine hK _ _ ?_); clear hK K; try simp only [Act.put, nA, nB, nC]
      (with_reducible refine wpList_plain rfl ?_); intro K hK; go_simp; (with_reducible refine hK _ _ ?_); clear hK K; try simp only [Act.put, nA, nB, nC]
      go_wp2_with fail
      go_ret
      exact ⟨by simp [h1], B1.out⟩
    · have d1 : decide (1 ≤ b) = false := decide_eq_false h1
      rw [d1]
      (with_reducible refine wpList_step ?_); intro K hK; rw [if_neg (Bool.eq_false_iff.1 (by rfl))]; (with_reducible refine hK _ _ ?_); clear hK K; try simp only [Act.put, nA, nB, nC]
      (with_reducible refine wpList_step ?_); intro K hK; rw [if_neg (Bool.eq_false_iff.1 (by rfl))]; (with_reducible refine hK _ _ ?_); clear hK K; try simp only [Act.put, nA, nB, nC]
      (with_reducible refine wpList_step ?_); intro K hK; rw [if_neg (Bool.eq_false_iff.1 (by rfl))]; (with_reducible refine hK _ _ ?_); clear hK K; try simp only [Act.put, nA, nB, nC]
      (with_reducible refine wpList_plain rfl ?_); intro K hK; go_simp; (with_reducible refine hK _ _ ?_); clear hK K; try simp only [Act.put, nA, nB, nC]
      (with_reducible refine wpList_plain rfl ?_); intro K hK; go_simp; (with_reducible refine hK _ _ ?_); clear hK K; try simp only [Act.put, nA, nB, nC]
      go_wp2_with fail
      go_ret
      exact ⟨by simp [h1], B1.out⟩
set_option maxHeartbeats 1000000 in
theorem MayFrame_any (a b : Int) (w : World) :
    Calls Try.prog 52 #[.agg #[.int .i64 a, .int .i64 b]] w fun e w' => e = .returned (.bool (mayB a b)) ∧ Below w.heap.size w w' := by
  by_cases h1 : a = 1024 ∨ a = 2048 ∨ a = 4096 ∨ a = 8192
  · rcases h1 with rfl | rfl | rfl | rfl
    all_goals
      by_cases h2 : 1 ≤ b
      · have hd : decide (1 ≤ b) = true := by simpa using h2
        go_enter Try.func52, Try.ntmps52
        go_wp2
        go_ret
        exact ⟨by simp [mayB, h2], (Below.refl _ _).alloc (Nat.le_refl _) _⟩
      · have hd : decide (1 ≤ b) = false := by simpa using h2
        go_enter Try.func52, Try.ntmps52
        go_wp2
        go_ret
        exact ⟨by simp only [mayB, hd]; rfl, (Below.refl _ _).alloc (Nat.le_refl _) _⟩
  · have e1 : (a == 1024) = false := by simp; omega
    have e2 : (a == 2048) = false := by simp; omega
    have e3 : (a == 4096) = false := by simp; omega
    have e4 : (a == 8192) = false := by simp; omega
    go_enter Try.func52, Try.ntmps52
    go_wp2
    go_ret
    exact ⟨by simp only [mayB, e1, e2, e3, e4]; rfl, (Below.refl _ _).alloc (Nat.le_refl _) _⟩

/-- how many numbers a list page holds -/
def entI (a b : Int) : Int := if mayB a b then (if a = 1024 then 246 else if a = 2048 then 502 else if a = 4096 then 1014 else 2038) else 0
theorem entI_bd (a b : Int) : 0 ≤ entI a b ∧ entI a b ≤ 2038 := by
  unfold entI
  split
  · split
    · omega
    · split
      · omega
      · split <;> omega
  · omega
theorem entI_true {a b : Int} (h : mayB a b = true) : entI a b = if a = 1024 then 246 else if a = 2048 then 502 else if a = 4096 then 1014 else 2038 := by
  unfold entI
  rw [h]
  rfl
theorem mayB_of {a b : Int} (h : mayB a b = true) : a = 1024 ∨ a = 2048 ∨ a = 4096 ∨ a = 8192 := by
  unfold mayB at h
  simp only [Bool.and_eq_true, Bool.or_eq_true, beq_iff_eq] at h
  omega
set_option maxHeartbeats 1000000 in
theorem Entries_any (a b : Int) (w : World) :
    Calls Try.prog 18 #[.agg #[.int .i64 a, .int .i64 b]] w fun e w' => e = .returned (.int .i64 (entI a b)) ∧ Below w.heap.size w w' := by
  obtain ⟨N, hN⟩ : ∃ N, w.heap.size = N := ⟨_, rfl⟩
  have HN := Lib.hid hN
  rw [hN]
  obtain ⟨q, hq⟩ : ∃ q, mayB a b = q := ⟨_, rfl⟩
  have HQ := Lib.hid hq
  clear hN hq
  go_enter Try.func18, Try.ntmps18
  go_upto_region 0 with fail
  with_reducible refine wp_region_list ?_
  refine wpList_boxB rfl _ _ rfl N HN.out #[.int .i64 a, .int .i64 b] rfl ?_
  intro w0 e0 b0 z0
  (try simp only [Act.put, nA, nB, nC])
  (with_reducible refine wpList_plain rfl ?_); intro K hK; go_simp; (with_reducible refine hK _ _ ?_); clear hK K; try simp only [Act.put, nA, nB, nC]
  have E0 := Lib.hid e0
  have B0 := Lib.hid b0
  have Z0 := Lib.hid z0
  clear e0 b0 z0
  have k0 := heap_cell E0.out (o := 0)
  have k1 := heap_cell E0.out (o := 1)
  go_upto_region 1 with fail
  with_reducible refine wp_region_list ?_
  (with_reducible refine wpList_plain rfl ?_); intro K hK; go_simp; (with_reducible refine hK _ _ ?_); clear hK K; try simp only [Act.put, nA, nB, nC]
  with_reducible refine wpList_plain rfl ?_
  intro K hK
  go_simp
  refine (Right_any a b w0).mono ?_; rintro e w2 ⟨rfl, b2⟩; rw [HQ.out]
  first | with_reducible refine hK _ _ ?_ | refine hK _ _ ?_
  clear hK K
  (try simp only [Act.put, nA, nB, nC])
  have E2 : Hid (w2.heap[N]? = some (.cells #[.int .i64 a, .int .i64 b] 23 (0, 0))) := heap_below E0.out b2 (heap_lt E0.out)
  have B2 := Lib.hid (B0.out.trans (b2.mono (by have := Z0.out; omega)))
  clear b2 E0 B0 k0 k1
  (with_reducible refine wpList_plain rfl ?_); intro K hK; go_simp; (with_reducible refine hK _ _ ?_); clear hK K; try simp only [Act.put, nA, nB, nC]
  cases q
  case false =>
    have he : entI a b = 0 := by unfold entI; rw [HQ.out]; rfl
    have He := Lib.hid he
    clear he
    go_wp2_with fail
    go_ret
    exact ⟨by rw [He.out]; rfl, B2.out⟩
  case true =>
    have he := entI_true HQ.out
    have ha := mayB_of HQ.out
    have k0 := heap_cell E2.out (o := 0)
    rcases ha with rfl | rfl | rfl | rfl
    all_goals
      have He := Lib.hid he
      clear he
      go_wp2_with fail
      go_ret
      exact ⟨by rw [He.out]; rfl, B2.out⟩
set_option maxHeartbeats 1000000 in
theorem refEntries_any (a b : Int) (w : World) :
    Calls Try.prog 19 #[.agg #[.int .i64 a, .int .i64 b]] w fun e w' => e = .returned (.int .i64 (entI a b)) ∧ Below w.heap.size w w' := by
  obtain ⟨N, hN⟩ : ∃ N, w.heap.size = N := ⟨_, rfl⟩
  have HN := Lib.hid hN
  rw [hN]
  obtain ⟨q, hq⟩ : ∃ q, mayB a b = q := ⟨_, rfl⟩
  have HQ := Lib.hid hq
  clear hN hq
  go_enter Try.func19, Try.ntmps19
  go_upto_region 0 with fail
  with_reducible refine wp_region_list ?_
  refine wpList_boxB rfl _ _ rfl N HN.out #[.int .i64 a, .int .i64 b] rfl ?_
  intro w0 e0 b0 z0
  (try simp only [Act.put, nA, nB, nC])
  (with_reducible refine wpList_plain rfl ?_); intro K hK; go_simp; (with_reducible refine hK _ _ ?_); clear hK K; try simp only [Act.put, nA, nB, nC]
  have E0 := Lib.hid e0
  have B0 := Lib.hid b0
  have Z0 := Lib.hid z0
  clear e0 b0 z0
  have k0 := heap_cell E0.out (o := 0)
  have k1 := heap_cell E0.out (o := 1)
  go_upto_region 1 with fail
  with_reducible refine wp_region_list ?_
  (with_reducible refine wpList_plain rfl ?_); intro K hK; go_simp; (with_reducible refine hK _ _ ?_); clear hK K; try simp only [Act.put, nA, nB, nC]
  with_reducible refine wpList_plain rfl ?_
  intro K hK
  go_simp
  refine (MayFrame_any a b w0).mono ?_; rintro e w2 ⟨rfl, b2⟩; rw [HQ.out]
  first | with_reducible refine hK _ _ ?_ | refine hK _ _ ?_
  clear hK K
  (try simp only [Act.put, nA, nB, nC])
  have E2 : Hid (w2.heap[N]? = some (.cells #[.int .i64 a, .int .i64 b] 23 (0, 0))) := heap_below E0.out b2 (heap_lt E0.out)
  have B2 := Lib.hid (B0.out.trans (b2.mono (by have := Z0.out; omega)))
  clear b2 E0 B0 k0 k1
  (with_reducible refine wpList_plain rfl ?_); intro K hK; go_simp; (with_reducible refine hK _ _ ?_); clear hK K; try simp only [Act.put, nA, nB, nC]
  cases q
  case false =>
    have he : entI a b = 0 := by unfold entI; rw [HQ.out]; rfl
    have He := Lib.hid he
    clear he
    go_wp2_with fail
    go_ret
    exact ⟨by rw [He.out]; rfl, B2.out⟩
  case true =>
    have he := entI_true HQ.out
    have ha := mayB_of HQ.out
    have k0 := heap_cell E2.out (o := 0)
    rcases ha with rfl | rfl | rfl | rfl
    all_goals
      have He := Lib.hid he
      clear he
      go_wp2_with fail
      go_ret
      exact ⟨by rw [He.out]; rfl, B2.out⟩
end Go.Proofs.Ytkngmnfgdlnddaa

namespace Go.Proofs.Ytkngmnfgdlnddaa
open Go.RowKit Go.Lib Hw
set_option linter.unusedVariables false

/-- may it be a page's number that a list tells? -/
def numB (n : Nat) : Bool := decide (2 ≤ n) && decide (n < 65536)
theorem number_any (n : Nat) (w : World) : Calls Try.prog 57 #[.int .u32 (n : Int)] w fun e w' => e = .returned (.bool (numB n)) ∧ w = w' := by
  by_cases h1 : 2 ≤ n
  · have d1 : decide (2 ≤ n) = true := decide_eq_true h1
    have d2 : decide ((2 : Int) ≤ (n : Int)) = true := decide_eq_true (by omega)
    by_cases h2 : n < 65536
    · have d3 : decide (n < 65536) = true := decide_eq_true h2
      have d4 : decide ((n : Int) < 65536) = true := decide_eq_true (by omega)
      have hn : numB n = true := by unfold numB; rw [d1, d3]; rfl
      rw [hn]
      clear hn
      go_enter Try.func57, Try.ntmps57
      go_wp2_with fail
      go_ret
      exact ⟨rfl, rfl⟩
    · have d3 : decide (n < 65536) = false := decide_eq_false h2
      have d4 : decide ((n : Int) < 65536) = false := decide_eq_false (by omega)
      have hn : numB n = false := by unfold numB; rw [d1, d3]; rfl
      rw [hn]
      clear hn
      go_enter Try.func57, Try.ntmps57
      go_wp2_with fail
      go_ret
      exact ⟨rfl, rfl⟩
  · have d1 : decide (2 ≤ n) = false := decide_eq_false h1
    have d2 : decide ((2 : Int) ≤ (n : Int)) = false := decide_eq_false (by omega)
    have hn : numB n = false := by unfold numB; rw [d1]; rfl
    rw [hn]
    clear hn
    go_enter Try.func57, Try.ntmps57
    go_wp2_with fail
    go_ret
    exact ⟨rfl, rfl⟩
theorem odd_any (n : Nat) (w : World) : Calls Try.prog 56 #[.int .u32 (n : Int)] w fun e w' => e = .returned (.bool (!numB n)) ∧ w = w' := by
  go_enter Try.func56, Try.ntmps56
  go_wp2_with (go_at_call 57; refine (number_any n _).mono ?_; rintro e w2 ⟨rfl, rfl⟩)
  go_ret
  exact ⟨rfl, rfl⟩
def oddV : Value := .func (.func 56) #[] #[]
def AnyPost (p : Nat → Bool) (xs : List Nat) (w : World) (e : Ending) (w' : World) : Prop := (∃ r : Int, e = .returned (.int .i64 r) ∧ decide (0 ≤ r) = xs.any p) ∧ w = w'
set_option maxHeartbeats 1000000 in
theorem IndexFunc_odd (v : Value) (xs : List Nat) (w : World) (hv : Hid (URow w v xs)) :
    Calls Try.prog 79 #[v, oddV] w (AnyPost (fun n => !numB n) xs w) := by
  obtain ⟨ad, c, hv1, hl, hc⟩ := hv.out.form
  subst hv1
  have HC := Lib.hid hc
  have HY : Hid (∀ k (h : k < xs.length), (!numB xs[k]) = true → AnyPost (fun n => !numB n) xs w (.returned (.int .i64 (k : Int))) w) := fun k h e => ⟨⟨_, rfl, by
    rw [decide_eq_true (by omega), eq_comm, List.any_eq_true]
    exact ⟨xs[k], List.getElem_mem h, e⟩⟩, rfl⟩
  have HZ : Hid ((∀ k (h : k < xs.length), (!numB xs[k]) = false) → AnyPost (fun n => !numB n) xs w (.returned (.int .i64 (-1))) w) := fun h => ⟨⟨_, rfl, by
    rw [decide_eq_false (by omega), eq_comm, List.any_eq_false]
    intro x hx
    obtain ⟨k, hk, rfl⟩ := List.mem_iff_getElem.1 hx
    rw [h k hk]
    decide⟩, rfl⟩
  obtain ⟨R, hR⟩ : ∃ R, AnyPost (fun n => !numB n) xs w = R := ⟨_, rfl⟩
  rw [hR] at HY HZ ⊢
  clear hc hR
  unfold oddV
  go_enter Try.func79, Try.ntmps79
  go_upto_region 2 with fail
  go_loopw [8] (fun i wr => ∃ (k : Nat), k ≤ xs.length ∧ Hid (∀ j (h : j < xs.length), j < k → (!numB xs[j]) = false) ∧ wr = w ∧ i = .int .i64 (k : Int)) (fun i _ => xs.length - (intOf i).toNat)
  case atStart => exact ⟨0, Nat.zero_le _, fun j _ h => by omega, by first | rfl | trivial, rfl⟩
  case round =>
    obtain ⟨k, hk, HN, rfl, rfl⟩ := hrel
    by_cases hlt : k < xs.length
    case pos =>
      have dk : decide (k < xs.length) = true := decide_eq_true hlt
      have dk2 : decide ((k : Int) < (xs.length : Int)) = true := decide_eq_true (by omega)
      have ik : (k : Int) < (xs.length : Int) := by omega
      obtain ⟨vb, vo, rfl, hcs⟩ := HC.out (by omega)
      have hc := hcs k hlt
      have hy := HY.out k hlt
      obtain ⟨y, hy1⟩ : ∃ y, xs[k] = y := ⟨_, rfl⟩
      rw [hy1] at hc hy
      have Hy := Lib.hid hy1
      have HY2 := Lib.hid hy
      unfold uN at hc
      obtain ⟨q, hq⟩ : ∃ q, numB y = q := ⟨_, rfl⟩
      have HQ := Lib.hid hq
      clear hy1 hy hcs hq
      cases q
      case false =>
        have hf := HY2.out (by rw [HQ.out]; rfl)
        have Hf := Lib.hid hf
        clear hf
        go_wp2_with (go_at_call 56; refine (odd_any y _).mono ?_; rintro e w2 ⟨rfl, rfl⟩; rw [HQ.out])
        exact Hf.out
      case true =>
        have HN2 : Hid (∀ j (h : j < xs.length), j < k + 1 → (!numB xs[j]) = false) := fun j h hj => by
          by_cases e : j = k
          · subst e; rw [Hy.out, HQ.out]; rfl
          · exact HN.out j h (by omega)
        clear HN
        go_wp2_with (go_at_call 56; refine (odd_any y _).mono ?_; rintro e w2 ⟨rfl, rfl⟩; rw [HQ.out])
        exact ⟨⟨k + 1, by omega, HN2, by first | rfl | trivial, by go_num⟩, by simp [intOf]; omega⟩
    case neg =>
      have dk : decide (k < xs.length) = false := decide_eq_false hlt
      have dk2 : decide ((k : Int) < (xs.length : Int)) = false := decide_eq_false (by omega)
      have hf := HZ.out (fun j h => HN.out j h (by omega))
      have Hf := Lib.hid hf
      clear hf
      go_wp2_with fail
      exact Hf.out
theorem ContainsFunc_odd (v : Value) (xs : List Nat) (w : World) (hv : Hid (URow w v xs)) :
    Calls Try.prog 58 #[v, oddV] w fun e w' => e = .returned (.bool (xs.any fun n => !numB n)) ∧ w = w' := by
  obtain ⟨ad, c, hv1, _⟩ := hv.out.form
  subst hv1
  obtain ⟨q, hq⟩ : ∃ q, (xs.any fun n => !numB n) = q := ⟨_, rfl⟩
  have HQ := Lib.hid hq
  rw [hq]
  clear hq
  unfold oddV
  go_enter Try.func58, Try.ntmps58
  go_upto_region 1 with fail
  with_reducible refine wp_region_list ?_
  (with_reducible refine wpList_plain rfl ?_); intro K hK; go_simp; (with_reducible refine hK _ _ ?_); clear hK K; try simp only [Act.put, nA, nB, nC]
  (with_reducible refine wpList_plain rfl ?_); intro K hK; go_simp; (with_reducible refine hK _ _ ?_); clear hK K; try simp only [Act.put, nA, nB, nC]
  with_reducible refine wpList_plain rfl ?_
  intro K hK
  go_simp
  refine (IndexFunc_odd _ xs w hv).mono ?_; rintro e w2 ⟨⟨r, rfl, hr⟩, rfl⟩; rw [HQ.out] at hr
  first | with_reducible refine hK _ _ ?_ | refine hK _ _ ?_
  clear hK K
  (try simp only [Act.put, nA, nB, nC])
  have Hr := Lib.hid hr
  clear hr
  (with_reducible refine wpList_plain rfl ?_); intro K hK; go_simp; (with_reducible refine hK _ _ ?_); clear hK K; try simp only [Act.put, nA, nB, nC]
  (with_reducible refine wpList_plain rfl ?_); intro K hK; go_simp; (with_reducible refine hK _ _ ?_); clear hK K; try simp only [Act.put, nA, nB, nC]
  go_wp2_with fail
  go_ret
  exact ⟨by rw [← Hr.out]; rfl, rfl⟩
/-- do numbers rise? -/
def risB : List Nat → Bool
  | [] => true
  | [_] => true
  | x :: y :: r => decide (x < y) && risB (y :: r)
theorem risB_iff : ∀ xs : List Nat, risB xs = true ↔ ∀ i (h : i + 1 < xs.length), xs[i] < xs[i + 1]
  | [] => ⟨fun _ i h => by simp at h, fun _ => rfl⟩
  | [x] => ⟨fun _ i h => by simp at h, fun _ => rfl⟩
  | x :: y :: r => by
    rw [risB, Bool.and_eq_true, decide_eq_true_eq, risB_iff (y :: r)]
    constructor
    · rintro ⟨h1, h2⟩ i hi
      match i with
      | 0 => exact h1
      | i + 1 => exact h2 i (by simpa using hi)
    · intro h
      exact ⟨h 0 (by simp), fun i hi => h (i + 1) (by simpa using hi)⟩
set_option maxHeartbeats 1000000 in
theorem rising_any (v : Value) (xs : List Nat) (w : World) (hv : Hid (URow w v xs)) :
    Calls Try.prog 59 #[v] w fun e w' => e = .returned (.bool (risB xs)) ∧ Below w.heap.size w w' := by
  obtain ⟨ad, c, hv1, hl, _⟩ := hv.out.form
  subst hv1
  obtain ⟨q, hq⟩ : ∃ q, risB xs = q := ⟨_, rfl⟩
  have HF : Hid (∀ i (h : i + 1 < xs.length), xs[i + 1] ≤ xs[i] → q = false) := fun i h hle => by
    rw [← hq]
    refine Bool.eq_false_iff.2 (fun hr => ?_)
    have := (risB_iff xs).1 hr i h
    omega
  have HT : Hid ((∀ i (h : i + 1 < xs.length), xs[i] < xs[i + 1]) → q = true) := fun h => by rw [← hq]; exact (risB_iff xs).2 h
  rw [hq]
  clear hq
  go_enter Try.func59, Try.ntmps59
  go_upto_region 2 with fail
  go_loopw [3] (fun i wr => ∃ (k : Nat), 1 ≤ k ∧ k ≤ xs.length + 1 ∧ Hid (∀ j (h : j + 1 < xs.length), j + 1 < k → xs[j] < xs[j + 1]) ∧ Hid (Below w.heap.size w wr) ∧ i = .int .i64 (k : Int)) (fun i _ => xs.length + 1 - (intOf i).toNat)
  case atStart => exact ⟨1, Nat.le_refl _, by omega, fun j _ h => by omega, Below.refl _ _, rfl⟩
  case round =>
    obtain ⟨k, hk1, hk, HN, Bw, rfl⟩ := hrel
    by_cases hlt : k < xs.length
    case pos =>
      have dk : decide (k < xs.length) = true := decide_eq_true hlt
      have dk2 : decide ((k : Int) < (xs.length : Int)) = true := decide_eq_true (by omega)
      have ik : (k : Int) < (xs.length : Int) := by omega
      obtain ⟨j, hj⟩ : ∃ j, k = j + 1 := ⟨k - 1, by omega⟩
      have hjl : j + 1 < xs.length := by omega
      have hj0 : j < xs.length := by omega
      obtain ⟨_, _, e9, _, hc⟩ := (hv.out.below Bw.out).form
      obtain ⟨vb, vo, e8, hcs⟩ := hc (by omega)
      have e7 := (Value.slice.inj e9).1
      rw [e8] at e7
      subst e7
      have c0 := hcs j hj0
      have c1 := hcs k hlt
      have hf := HF.out j hjl
      have hkj : xs[k]'hlt = xs[j + 1]'hjl := by simp only [hj]
      obtain ⟨x, hx⟩ : ∃ y, xs[j]'hj0 = y := ⟨_, rfl⟩
      obtain ⟨y, hy⟩ : ∃ y, xs[j + 1]'hjl = y := ⟨_, rfl⟩
      rw [hx] at c0 hf
      rw [hkj, hy] at c1
      rw [hy] at hf
      have Hx := Lib.hid hx
      have Hy := Lib.hid hy
      have Hf := Lib.hid hf
      unfold uN at c0 c1
      have j1 : (k : Int) - 1 = (j : Int) := by omega
      have j2 : IntKind.i64.wrap (j : Int) = (j : Int) := IntWalk.i64_in (j : Int) (by omega)
      have ij : (j : Int) < (xs.length : Int) := by omega
      have Hj := Lib.hid hj
      clear hcs hx hy hf hj hkj e8 e9 hc
      by_cases hxy : x < y
      case pos =>
        have e1 : decide (y ≤ x) = false := decide_eq_false (by omega)
        have e2 : decide ((y : Int) ≤ (x : Int)) = false := decide_eq_false (by omega)
        have HN2 : Hid (∀ i (h : i + 1 < xs.length), i + 1 < k + 1 → xs[i] < xs[i + 1]) := fun i h hi => by
          by_cases e : i = j
          · subst e; rw [Hx.out, Hy.out]; exact hxy
          · exact HN.out i h (by have := Hj.out; omega)
        clear HN
        go_upto_region 4 with fail
        refine wp_region_held_drew (S := fun W => W.cell? ⟨vb, vo + j, none⟩ = some (.int .u32 (x : Int)) ∧ W.cell? ⟨vb, vo + k, none⟩ = some (.int .u32 (y : Int))) (by kernel_rfl) ⟨c0, c1⟩ (fun hHeld => ?_)
        refine' wpAnyH_take (i := 0) (oi := ⟨some 10, .move (.tmp 0), 28, "free.go:27", #[], none⟩) rfl (by kernel_rfl) (by kernel_rfl) (by kernel_rfl) (fun _ _ _ h => h) (Or.inl ⟨by rfl, _⟩) (by assumption) _
        rotate_left
        · (intro wS hSw; (try dsimp only at hSw); go_simp; try with_reducible rfl)
        try simp only [Act.put, nA, nB, nC]
        refine' wpAnyH_take (i := 1) (oi := ⟨some 11, .move (.tmp 3), 3, "free.go:27", #[], none⟩) rfl (by kernel_rfl) (by kernel_rfl) (by kernel_rfl) (fun _ _ _ h => h) (Or.inl ⟨by rfl, _⟩) (by assumption) _
        rotate_left
        · (intro wS hSw; (try dsimp only at hSw); go_simp; try with_reducible rfl)
        try simp only [Act.put, nA, nB, nC]
        refine' wpAnyH_take (i := 2) (oi := ⟨some 12, .binOp .sub 3 (.tmp 11) (.const (.int .i64 1)) 3, 3, "free.go:27", #[⟨1, .data⟩], none⟩) rfl (by kernel_rfl) (by kernel_rfl) (by kernel_rfl) (fun _ _ _ h => h) (Or.inl ⟨by rfl, _⟩) (by assumption) _
        rotate_left
        · (intro wS hSw; (try dsimp only at hSw); go_simp; try with_reducible rfl)
        try simp only [Act.put, nA, nB, nC]
        refine' wpAnyH_take (i := 3) (oi := ⟨some 13, .indexAddr 28 (.tmp 10) (.tmp 12), 0, "free.go:27", #[⟨0, .data⟩, ⟨2, .data⟩], none⟩) rfl (by kernel_rfl) (by kernel_rfl) (by kernel_rfl) (fun _ _ _ h => h) (Or.inl ⟨by rfl, _⟩) (by assumption) _
        rotate_left
        · (intro wS hSw; (try dsimp only at hSw); go_simp; try with_reducible rfl)
        try simp only [Act.put, nA, nB, nC]
        refine' wpAnyH_take (i := 4) (oi := ⟨some 14, .load 27 (.tmp 13), 27, "free.go:27", #[⟨3, .data⟩], none⟩) rfl (by kernel_rfl) (by kernel_rfl) (by kernel_rfl) (fun _ _ _ h => h) (Or.inl ⟨by rfl, _⟩) (by assumption) _
        rotate_left
        · (intro wS hSw; (try dsimp only at hSw); go_simp; try with_reducible rfl)
        try simp only [Act.put, nA, nB, nC]
        refine' wpAnyH_take (i := 5) (oi := ⟨some 15, .move (.tmp 0), 28, "free.go:27", #[], none⟩) rfl (by kernel_rfl) (by kernel_rfl) (by kernel_rfl) (fun _ _ _ h => h) (Or.inl ⟨by rfl, _⟩) (by assumption) _
        rotate_left
        · (intro wS hSw; (try dsimp only at hSw); go_simp; try with_reducible rfl)
        try simp only [Act.put, nA, nB, nC]
        refine' wpAnyH_take (i := 6) (oi := ⟨some 16, .move (.tmp 3), 3, "free.go:27", #[], none⟩) rfl (by kernel_rfl) (by kernel_rfl) (by kernel_rfl) (fun _ _ _ h => h) (Or.inl ⟨by rfl, _⟩) (by assumption) _
        rotate_left
        · (intro wS hSw; (try dsimp only at hSw); go_simp; try with_reducible rfl)
        try simp only [Act.put, nA, nB, nC]
        refine' wpAnyH_take (i := 7) (oi := ⟨some 17, .indexAddr 28 (.tmp 15) (.tmp 16), 0, "free.go:27", #[⟨5, .data⟩, ⟨6, .data⟩], none⟩) rfl (by kernel_rfl) (by kernel_rfl) (by kernel_rfl) (fun _ _ _ h => h) (Or.inl ⟨by rfl, _⟩) (by assumption) _
        rotate_left
        · (intro wS hSw; (try dsimp only at hSw); go_simp; try with_reducible rfl)
        try simp only [Act.put, nA, nB, nC]
        refine' wpAnyH_take (i := 8) (oi := ⟨some 18, .load 27 (.tmp 17), 27, "free.go:27", #[⟨7, .data⟩], none⟩) rfl (by kernel_rfl) (by kernel_rfl) (by kernel_rfl) (fun _ _ _ h => h) (Or.inl ⟨by rfl, _⟩) (by assumption) _
        rotate_left
        · (intro wS hSw; (try dsimp only at hSw); go_simp; try with_reducible rfl)
        try simp only [Act.put, nA, nB, nC]
        refine' wpAnyH_take (i := 9) (oi := ⟨some 19, .binOp .geq 27 (.tmp 14) (.tmp 18) 27, 4, "free.go:27", #[⟨4, .data⟩, ⟨8, .data⟩], none⟩) rfl (by kernel_rfl) (by kernel_rfl) (by kernel_rfl) (fun _ _ _ h => h) (Or.inl ⟨by rfl, _⟩) (by assumption) _
        rotate_left
        · (intro wS hSw; (try dsimp only at hSw); go_simp; try with_reducible rfl)
        try simp only [Act.put, nA, nB, nC]
        refine wpAnyH_done (by kernel_rfl) ?_ _
        have B2 := Lib.hid Bw.out.drew
        clear hHeld Bw c0 c1
        go_wp2_with fail
        exact ⟨⟨k + 1, by omega, by omega, HN2, B2, by go_num⟩, by simp [intOf]; omega⟩
      case neg =>
        have e1 : decide (y ≤ x) = true := decide_eq_true (by omega)
        have e2 : decide ((y : Int) ≤ (x : Int)) = true := decide_eq_true (by omega)
        have hq := Hf.out (by omega)
        have Hq := Lib.hid hq
        clear hq
        go_upto_region 4 with fail
        refine wp_region_held_drew (S := fun W => W.cell? ⟨vb, vo + j, none⟩ = some (.int .u32 (x : Int)) ∧ W.cell? ⟨vb, vo + k, none⟩ = some (.int .u32 (y : Int))) (by kernel_rfl) ⟨c0, c1⟩ (fun hHeld => ?_)
        refine' wpAnyH_take (i := 0) (oi := ⟨some 10, .move (.tmp 0), 28, "free.go:27", #[], none⟩) rfl (by kernel_rfl) (by kernel_rfl) (by kernel_rfl) (fun _ _ _ h => h) (Or.inl ⟨by rfl, _⟩) (by assumption) _
        rotate_left
        · (intro wS hSw; (try dsimp only at hSw); go_simp; try with_reducible rfl)
        try simp only [Act.put, nA, nB, nC]
        refine' wpAnyH_take (i := 1) (oi := ⟨some 11, .move (.tmp 3), 3, "free.go:27", #[], none⟩) rfl (by kernel_rfl) (by kernel_rfl) (by kernel_rfl) (fun _ _ _ h => h) (Or.inl ⟨by rfl, _⟩) (by assumption) _
        rotate_left
        · (intro wS hSw; (try dsimp only at hSw); go_simp; try with_reducible rfl)
        try simp only [Act.put, nA, nB, nC]
        refine' wpAnyH_take (i := 2) (oi := ⟨some 12, .binOp .sub 3 (.tmp 11) (.const (.int .i64 1)) 3, 3, "free.go:27", #[⟨1, .data⟩], none⟩) rfl (by kernel_rfl) (by kernel_rfl) (by kernel_rfl) (fun _ _ _ h => h) (Or.inl ⟨by rfl, _⟩) (by assumption) _
        rotate_left
        · (intro wS hSw; (try dsimp only at hSw); go_simp; try with_reducible rfl)
        try simp only [Act.put, nA, nB, nC]
        refine' wpAnyH_take (i := 3) (oi := ⟨some 13, .indexAddr 28 (.tmp 10) (.tmp 12), 0, "free.go:27", #[⟨0, .data⟩, ⟨2, .data⟩], none⟩) rfl (by kernel_rfl) (by kernel_rfl) (by kernel_rfl) (fun _ _ _ h => h) (Or.inl ⟨by rfl, _⟩) (by assumption) _
        rotate_left
        · (intro wS hSw; (try dsimp only at hSw); go_simp; try with_reducible rfl)
        try simp only [Act.put, nA, nB, nC]
        refine' wpAnyH_take (i := 4) (oi := ⟨some 14, .load 27 (.tmp 13), 27, "free.go:27", #[⟨3, .data⟩], none⟩) rfl (by kernel_rfl) (by kernel_rfl) (by kernel_rfl) (fun _ _ _ h => h) (Or.inl ⟨by rfl, _⟩) (by assumption) _
        rotate_left
        · (intro wS hSw; (try dsimp only at hSw); go_simp; try with_reducible rfl)
        try simp only [Act.put, nA, nB, nC]
        refine' wpAnyH_take (i := 5) (oi := ⟨some 15, .move (.tmp 0), 28, "free.go:27", #[], none⟩) rfl (by kernel_rfl) (by kernel_rfl) (by kernel_rfl) (fun _ _ _ h => h) (Or.inl ⟨by rfl, _⟩) (by assumption) _
        rotate_left
        · (intro wS hSw; (try dsimp only at hSw); go_simp; try with_reducible rfl)
        try simp only [Act.put, nA, nB, nC]
        refine' wpAnyH_take (i := 6) (oi := ⟨some 16, .move (.tmp 3), 3, "free.go:27", #[], none⟩) rfl (by kernel_rfl) (by kernel_rfl) (by kernel_rfl) (fun _ _ _ h => h) (Or.inl ⟨by rfl, _⟩) (by assumption) _
        rotate_left
        · (intro wS hSw; (try dsimp only at hSw); go_simp; try with_reducible rfl)
        try simp only [Act.put, nA, nB, nC]
        refine' wpAnyH_take (i := 7) (oi := ⟨some 17, .indexAddr 28 (.tmp 15) (.tmp 16), 0, "free.go:27", #[⟨5, .data⟩, ⟨6, .data⟩], none⟩) rfl (by kernel_rfl) (by kernel_rfl) (by kernel_rfl) (fun _ _ _ h => h) (Or.inl ⟨by rfl, _⟩) (by assumption) _
        rotate_left
        · (intro wS hSw; (try dsimp only at hSw); go_simp; try with_reducible rfl)
        try simp only [Act.put, nA, nB, nC]
        refine' wpAnyH_take (i := 8) (oi := ⟨some 18, .load 27 (.tmp 17), 27, "free.go:27", #[⟨7, .data⟩], none⟩) rfl (by kernel_rfl) (by kernel_rfl) (by kernel_rfl) (fun _ _ _ h => h) (Or.inl ⟨by rfl, _⟩) (by assumption) _
        rotate_left
        · (intro wS hSw; (try dsimp only at hSw); go_simp; try with_reducible rfl)
        try simp only [Act.put, nA, nB, nC]
        refine' wpAnyH_take (i := 9) (oi := ⟨some 19, .binOp .geq 27 (.tmp 14) (.tmp 18) 27, 4, "free.go:27", #[⟨4, .data⟩, ⟨8, .data⟩], none⟩) rfl (by kernel_rfl) (by kernel_rfl) (by kernel_rfl) (fun _ _ _ h => h) (Or.inl ⟨by rfl, _⟩) (by assumption) _
        rotate_left
        · (intro wS hSw; (try dsimp only at hSw); go_simp; try with_reducible rfl)
        try simp only [Act.put, nA, nB, nC]
        refine wpAnyH_done (by kernel_rfl) ?_ _
        have B2 := Lib.hid Bw.out.drew
        clear hHeld Bw c0 c1
        go_wp2_with fail
        go_ret
        exact ⟨by rw [Hq.out]; rfl, B2.out⟩
    case neg =>
      have dk : decide (k < xs.length) = false := decide_eq_false hlt
      have dk2 : decide ((k : Int) < (xs.length : Int)) = false := decide_eq_false (by omega)
      have hq := HT.out (fun i h => HN.out i h (by omega))
      have Hq := Lib.hid hq
      clear hq
      go_wp2_with fail
      go_ret
      exact ⟨by rw [Hq.out]; rfl, Bw.out⟩
end Go.Proofs.Ytkngmnfgdlnddaa

namespace Go.Proofs.Ytkngmnfgdlnddaa
open Go.RowKit Go.Lib Hw
set_option linter.unusedVariables false

def bstr (bs : List UInt8) : ByteArray := ⟨bs.toArray⟩
theorem bstr_size (bs : List UInt8) : (bstr bs).size = bs.length := by simp [bstr, ByteArray.size]
theorem bstr_list (bs : List UInt8) : (bstr bs).data.toList = bs := rfl
theorem bstr_append (x y : List UInt8) : bstr x ++ bstr y = bstr (x ++ y) := by
  apply ByteArray.ext
  simp [bstr, ByteArray.data_append]
theorem bstr_self (s : ByteArray) : bstr s.data.toList = s := by simp [bstr]
theorem WString_any (B p : Nat) (bs : List UInt8) (w : World) (hw : Wr w B p bs) :
    Calls Try.prog 62 #[.pointer (some ⟨p, 0, none⟩)] w fun e w' => e = .returned (.string (bstr bs)) ∧ w = w' := by
  obtain ⟨hB, sl, hp, hown⟩ := hw
  have c1 : w.cell? ⟨p, 1, none⟩ = some sl := by rw [heap_cell hp]; rfl
  have hc := conv_own hown
  clear hp hown
  go_enter Try.func62, Try.ntmps62
  go_wp2
  go_ret
  exact ⟨rfl, rfl⟩
/-- may it be a batch's body? -/
def bodyB (a b : Int) (next : Nat) (xs : List Nat) : Bool := mayB a b && ((decide (next = 0) || numB next) && (decide ((xs.length : Int) ≤ entI a b) && (!(xs.any fun n => !numB n) && risB xs)))
def bodyL (next : Nat) (xs : List Nat) : List UInt8 := be 4 next ++ (be 4 xs.length ++ xs.flatMap (be 4))
def bodyS (a b : Int) (next : Nat) (xs : List Nat) : ByteArray := if bodyB a b next xs = true then bstr (bodyL next xs) else ⟨#[]⟩
def bodyE (a b : Int) (next : Nat) (xs : List Nat) : Int := if bodyB a b next xs = true then 0 else 2
def BodyPost (a b : Int) (next : Nat) (xs : List Nat) (w : World) (e : Ending) (w' : World) : Prop := e = .returned (.tuple #[.string (bodyS a b next xs), .int .i64 (bodyE a b next xs)]) ∧ Below w.heap.size w w'
theorem body_no {a b : Int} {next : Nat} {xs : List Nat} (h : bodyB a b next xs = false) : bodyS a b next xs = ⟨#[]⟩ ∧ bodyE a b next xs = 2 := by
  unfold bodyS bodyE
  rw [h]
  exact ⟨rfl, rfl⟩
theorem body_yes {a b : Int} {next : Nat} {xs : List Nat} (h : bodyB a b next xs = true) : bodyS a b next xs = bstr (bodyL next xs) ∧ bodyE a b next xs = 0 := by
  unfold bodyS bodyE
  rw [h]
  exact ⟨rfl, rfl⟩
theorem flat4 (xs : List Nat) : (xs.flatMap (be 4)).length = 4 * xs.length := by
  induction xs with
  | nil => rfl
  | cons x r ih => rw [List.flatMap_cons, List.length_append, ih, List.length_cons]; simp [be_length]; omega
set_option maxRecDepth 5000 in
set_option maxHeartbeats 8000000 in
theorem Body_any (a b : Int) (next : Nat) (v : Value) (xs : List Nat) (w : World) (hn : next < 4294967296) (hv : Hid (URow w v xs)) :
    Calls Try.prog 23 #[.agg #[.int .i64 a, .int .i64 b], .int .u32 (next : Int), v] w (BodyPost a b next xs w) := by
  obtain ⟨ad, c, hv1, hl, _⟩ := hv.out.form
  subst hv1
  obtain ⟨N, hN⟩ : ∃ N, w.heap.size = N := ⟨_, rfl⟩
  have HN := Lib.hid hN
  have HFail : Hid (∀ w', bodyB a b next xs = false → Below N w w' → BodyPost a b next xs w (.returned (.tuple #[.string ⟨#[]⟩, .int .i64 2])) w') := fun w' h hb => by
    obtain ⟨h1, h2⟩ := body_no h
    exact ⟨by rw [h1, h2], by rw [hN]; exact hb⟩
  have HOk : Hid (∀ w', bodyB a b next xs = true → Below N w w' → BodyPost a b next xs w (.returned (.tuple #[.string (bstr (bodyL next xs)), .int .i64 0])) w') := fun w' h hb => by
    obtain ⟨h1, h2⟩ := body_yes h
    exact ⟨by rw [h1, h2], by rw [hN]; exact hb⟩
  have HB : Hid (bodyB a b next xs = (mayB a b && ((decide (next = 0) || numB next) && (decide ((xs.length : Int) ≤ entI a b) && (!(xs.any fun n => !numB n) && risB xs))))) := rfl
  obtain ⟨R, hR⟩ : ∃ R, BodyPost a b next xs w = R := ⟨_, rfl⟩
  rw [hR] at HFail HOk ⊢
  obtain ⟨q1, hq1⟩ : ∃ q, mayB a b = q := ⟨_, rfl⟩
  obtain ⟨q2, hq2⟩ : ∃ q, numB next = q := ⟨_, rfl⟩
  obtain ⟨q4, hq4⟩ : ∃ q, (xs.any fun n => !numB n) = q := ⟨_, rfl⟩
  obtain ⟨q5, hq5⟩ : ∃ q, risB xs = q := ⟨_, rfl⟩
  have H1 := Lib.hid hq1
  have H2 := Lib.hid hq2
  have H4 := Lib.hid hq4
  have H5 := Lib.hid hq5
  have hE := entI_bd a b
  obtain ⟨E, hE1⟩ : ∃ E, entI a b = E := ⟨_, rfl⟩
  rw [hE1] at hE
  have HE := Lib.hid hE1
  clear hN hR hq1 hq2 hq4 hq5 hE1
  go_enter Try.func23, Try.ntmps23
  go_upto_region 0 with fail
  with_reducible refine wp_region_list ?_
  refine wpList_boxB rfl _ _ rfl N HN.out #[.int .i64 a, .int .i64 b] rfl ?_
  intro w0 e0 b0 z0
  (try simp only [Act.put, nA, nB, nC])
  (with_reducible refine wpList_plain rfl ?_); intro K hK; go_simp; (with_reducible refine hK _ _ ?_); clear hK K; try simp only [Act.put, nA, nB, nC]
  (with_reducible refine wpList_plain rfl ?_); intro K hK; go_simp; (with_reducible refine hK _ _ ?_); clear hK K; try simp only [Act.put, nA, nB, nC]
  have E0 := Lib.hid e0
  have B0 := Lib.hid b0
  have Z0 := Lib.hid z0
  clear e0 b0 z0
  go_upto_region 2 with fail
  have k0 := heap_cell E0.out (o := 0)
  have k1 := heap_cell E0.out (o := 1)
  with_reducible refine wp_region_list ?_
  (with_reducible refine wpList_plain rfl ?_); intro K hK; go_simp; (with_reducible refine hK _ _ ?_); clear hK K; try simp only [Act.put, nA, nB, nC]
  with_reducible refine wpList_plain rfl ?_
  intro K hK
  go_simp
  refine (Right_any a b w0).mono ?_; rintro e w1 ⟨rfl, b1⟩; rw [H1.out]
  first | with_reducible refine hK _ _ ?_ | refine hK _ _ ?_
  clear hK K
  (try simp only [Act.put, nA, nB, nC])
  have E1 : Hid (w1.heap[N]? = some (.cells #[.int .i64 a, .int .i64 b] 23 (0, 0))) := heap_below E0.out b1 (heap_lt E0.out)
  have B1 := Lib.hid (B0.out.trans (b1.mono (by have := Z0.out; omega)))
  clear b1 E0 B0 k0 k1
  (with_reducible refine wpList_plain rfl ?_); intro K hK; go_simp; (with_reducible refine hK _ _ ?_); clear hK K; try simp only [Act.put, nA, nB, nC]
  (with_reducible refine wpList_plain rfl ?_); intro K hK; go_simp; (with_reducible refine hK _ _ ?_); clear hK K; try simp only [Act.put, nA, nB, nC]
  cases q1
  case false =>
    (with_reducible refine wpList_step ?_); intro K hK; rw [if_neg (Bool.eq_false_iff.1 (by rfl))]; (with_reducible refine hK _ _ ?_); clear hK K; try simp only [Act.put, nA, nB, nC]
    (with_reducible refine wpList_step ?_); intro K hK; rw [if_neg (Bool.eq_false_iff.1 (by rfl))]; (with_reducible refine hK _ _ ?_); clear hK K; try simp only [Act.put, nA, nB, nC]
    (with_reducible refine wpList_step ?_); intro K hK; rw [if_neg (Bool.eq_false_iff.1 (by rfl))]; (with_reducible refine hK _ _ ?_); clear hK K; try simp only [Act.put, nA, nB, nC]
    (with_reducible refine wpList_step ?_); intro K hK; rw [if_neg (Bool.eq_false_iff.1 (by rfl))]; (with_reducible refine hK _ _ ?_); clear hK K; try simp only [Act.put, nA, nB, nC]
    (with_reducible refine wpList_step ?_); intro K hK; rw [if_neg (Bool.eq_false_iff.1 (by rfl))]; (with_reducible refine hK _ _ ?_); clear hK K; try simp only [Act.put, nA, nB, nC]
    (with_reducible refine wpList_step ?_); intro K hK; rw [if_neg (Bool.eq_false_iff.1 (by rfl))]; (with_reducible refine hK _ _ ?_); clear hK K; try simp only [Act.put, nA, nB, nC]
    (with_reducible refine wpList_step ?_); intro K hK; rw [if_neg (Bool.eq_false_iff.1 (by rfl))]; (with_reducible refine hK _ _ ?_); clear hK K; try simp only [Act.put, nA, nB, nC]
    (with_reducible refine wpList_plain rfl ?_); intro K hK; go_simp; (with_reducible refine hK _ _ ?_); clear hK K; try simp only [Act.put, nA, nB, nC]
    (with_reducible refine wpList_plain rfl ?_); intro K hK; go_simp; (with_reducible refine hK _ _ ?_); clear hK K; try simp only [Act.put, nA, nB, nC]
    (with_reducible refine wpList_step ?_); intro K hK; rw [if_neg (Bool.eq_false_iff.1 (by rfl))]; (with_reducible refine hK _ _ ?_); clear hK K; try simp only [Act.put, nA, nB, nC]
    (with_reducible refine wpList_step ?_); intro K hK; rw [if_neg (Bool.eq_false_iff.1 (by rfl))]; (with_reducible refine hK _ _ ?_); clear hK K; try simp only [Act.put, nA, nB, nC]
    (with_reducible refine wpList_step ?_); intro K hK; rw [if_neg (Bool.eq_false_iff.1 (by rfl))]; (with_reducible refine hK _ _ ?_); clear hK K; try simp only [Act.put, nA, nB, nC]
    (with_reducible refine wpList_step ?_); intro K hK; rw [if_neg (Bool.eq_false_iff.1 (by rfl))]; (with_reducible refine hK _ _ ?_); clear hK K; try simp only [Act.put, nA, nB, nC]
    (with_reducible refine wpList_step ?_); intro K hK; rw [if_neg (Bool.eq_false_iff.1 (by rfl))]; (with_reducible refine hK _ _ ?_); clear hK K; try simp only [Act.put, nA, nB, nC]
    (with_reducible refine wpList_plain rfl ?_); intro K hK; go_simp; (with_reducible refine hK _ _ ?_); clear hK K; try simp only [Act.put, nA, nB, nC]
    (with_reducible refine wpList_plain rfl ?_); intro K hK; go_simp; (with_reducible refine hK _ _ ?_); clear hK K; try simp only [Act.put, nA, nB, nC]
    (with_reducible refine wpList_step ?_); intro K hK; rw [if_neg (Bool.eq_false_iff.1 (by rfl))]; (with_reducible refine hK _ _ ?_); clear hK K; try simp only [Act.put, nA, nB, nC]
    (with_reducible refine wpList_step ?_); intro K hK; rw [if_neg (Bool.eq_false_iff.1 (by rfl))]; (with_reducible refine hK _ _ ?_); clear hK K; try simp only [Act.put, nA, nB, nC]
    (with_reducible refine wpList_step ?_); intro K hK; rw [if_neg (Bool.eq_false_iff.1 (by rfl))]; (with_reducible refine hK _ _ ?_); clear hK K; try simp only [Act.put, nA, nB, nC]
    (with_reducible refine wpList_plain rfl ?_); intro K hK; go_simp; (with_reducible refine hK _ _ ?_); clear hK K; try simp only [Act.put, nA, nB, nC]
    (with_reducible refine wpList_plain rfl ?_); intro K hK; go_simp; (with_reducible refine hK _ _ ?_); clear hK K; try simp only [Act.put, nA, nB, nC]
    (with_reducible refine wpList_step ?_); intro K hK; rw [if_neg (Bool.eq_false_iff.1 (by rfl))]; (with_reducible refine hK _ _ ?_); clear hK K; try simp only [Act.put, nA, nB, nC]
    (with_reducible refine wpList_step ?_); intro K hK; rw [if_neg (Bool.eq_false_iff.1 (by rfl))]; (with_reducible refine hK _ _ ?_); clear hK K; try simp only [Act.put, nA, nB, nC]
    (with_reducible refine wpList_step ?_); intro K hK; rw [if_neg (Bool.eq_false_iff.1 (by rfl))]; (with_reducible refine hK _ _ ?_); clear hK K; try simp only [Act.put, nA, nB, nC]
    (with_reducible refine wpList_plain rfl ?_); intro K hK; go_simp; (with_reducible refine hK _ _ ?_); clear hK K; try simp only [Act.put, nA, nB, nC]
    go_wp2_with fail
    exact HFail.out _ (by rw [HB.out, H1.out]; rfl) B1.out
  case true =>
    by_cases hnz : next = 0
    case pos =>
      have n1 : ((next : Int) != 0) = false := by simp [hnz]
      have n2 : (next != 0) = false := by simp [hnz]
      have HOR : Hid ((decide (next = 0) || numB next) = true) := by show _ = _; rw [decide_eq_true hnz]; rfl
      have Hnz := Lib.hid hnz
      clear hnz
      (with_reducible refine wpList_step ?_); intro K hK; rw [if_pos (by rfl)]; go_simp; (with_reducible refine hK _ _ ?_); clear hK K; try simp only [Act.put, nA, nB, nC]
      (with_reducible refine wpList_step ?_); intro K hK; rw [if_pos (by rfl)]; go_simp; (with_reducible refine hK _ _ ?_); clear hK K; try simp only [Act.put, nA, nB, nC]
      (with_reducible refine wpList_step ?_); intro K hK; rw [if_pos (by rfl)]; go_simp; (with_reducible refine hK _ _ ?_); clear hK K; try simp only [Act.put, nA, nB, nC]
      (with_reducible refine wpList_step ?_); intro K hK; rw [if_neg (Bool.eq_false_iff.1 (by rfl))]; (with_reducible refine hK _ _ ?_); clear hK K; try simp only [Act.put, nA, nB, nC]
      (with_reducible refine wpList_step ?_); intro K hK; rw [if_neg (Bool.eq_false_iff.1 (by rfl))]; (with_reducible refine hK _ _ ?_); clear hK K; try simp only [Act.put, nA, nB, nC]
      (with_reducible refine wpList_step ?_); intro K hK; rw [if_neg (Bool.eq_false_iff.1 (by rfl))]; (with_reducible refine hK _ _ ?_); clear hK K; try simp only [Act.put, nA, nB, nC]
      (with_reducible refine wpList_step ?_); intro K hK; rw [if_pos (by rfl)]; go_simp; (with_reducible refine hK _ _ ?_); clear hK K; try simp only [Act.put, nA, nB, nC]
      (with_reducible refine wpList_plain rfl ?_); intro K hK; go_simp; (with_reducible refine hK _ _ ?_); clear hK K; try simp only [Act.put, nA, nB, nC]
      (with_reducible refine wpList_plain rfl ?_); intro K hK; go_simp; (with_reducible refine hK _ _ ?_); clear hK K; try simp only [Act.put, nA, nB, nC]
      have k0 := heap_cell E1.out (o := 0)
      have k1 := heap_cell E1.out (o := 1)
      (with_reducible refine wpList_step ?_); intro K hK; rw [if_pos (by rfl)]; go_simp; (with_reducible refine hK _ _ ?_); clear hK K; try simp only [Act.put, nA, nB, nC]
      (with_reducible refine wpList_step ?_); intro K hK; rw [if_pos (by rfl)]; go_simp; (with_reducible refine hK _ _ ?_); clear hK K; try simp only [Act.put, nA, nB, nC]
      (with_reducible refine wpList_step ?_); intro K hK; rw [if_pos (by rfl)]; go_simp; (with_reducible refine hK _ _ ?_); clear hK K; try simp only [Act.put, nA, nB, nC]
      with_reducible refine wpList_step ?_
      intro K hK
      rw [if_pos (by rfl)]
      go_simp
      refine (Entries_any a b w1).mono ?_; rintro e w3 ⟨rfl, b3⟩; rw [HE.out]
      first | with_reducible refine hK _ _ ?_ | refine hK _ _ ?_
      clear hK K
      (try simp only [Act.put, nA, nB, nC])
      have B3 := Lib.hid (B1.out.trans (b3.mono (by have := B1.out.size; have := HN.out; omega)))
      have V3 := Lib.hid (hv.out.below (by rw [HN.out]; exact B3.out))
      clear b3 k0 k1 E1 B1
      by_cases hln : (xs.length : Int) ≤ E
      case neg =>
        have d1 : decide (E < (xs.length : Int)) = true := decide_eq_true (by omega)
        have HLn : Hid (decide ((xs.length : Int) ≤ entI a b) = false) := by show _ = _; rw [HE.out]; exact decide_eq_false hln
        (with_reducible refine wpList_step ?_); intro K hK; rw [if_pos (by rfl)]; go_simp; (with_reducible refine hK _ _ ?_); clear hK K; try simp only [Act.put, nA, nB, nC]
        (with_reducible refine wpList_plain rfl ?_); intro K hK; go_simp; (with_reducible refine hK _ _ ?_); clear hK K; try simp only [Act.put, nA, nB, nC]
        (with_reducible refine wpList_plain rfl ?_); intro K hK; go_simp; (with_reducible refine hK _ _ ?_); clear hK K; try simp only [Act.put, nA, nB, nC]
        (with_reducible refine wpList_step ?_); intro K hK; rw [if_neg (Bool.eq_false_iff.1 (by rfl))]; (with_reducible refine hK _ _ ?_); clear hK K; try simp only [Act.put, nA, nB, nC]
        (with_reducible refine wpList_step ?_); intro K hK; rw [if_neg (Bool.eq_false_iff.1 (by rfl))]; (with_reducible refine hK _ _ ?_); clear hK K; try simp only [Act.put, nA, nB, nC]
        (with_reducible refine wpList_step ?_); intro K hK; rw [if_neg (Bool.eq_false_iff.1 (by rfl))]; (with_reducible refine hK _ _ ?_); clear hK K; try simp only [Act.put, nA, nB, nC]
        (with_reducible refine wpList_plain rfl ?_); intro K hK; go_simp; (with_reducible refine hK _ _ ?_); clear hK K; try simp only [Act.put, nA, nB, nC]
        (with_reducible refine wpList_plain rfl ?_); intro K hK; go_simp; (with_reducible refine hK _ _ ?_); clear hK K; try simp only [Act.put, nA, nB, nC]
        (with_reducible refine wpList_step ?_); intro K hK; rw [if_neg (Bool.eq_false_iff.1 (by rfl))]; (with_reducible refine hK _ _ ?_); clear hK K; try simp only [Act.put, nA, nB, nC]
        (with_reducible refine wpList_step ?_); intro K hK; rw [if_neg (Bool.eq_false_iff.1 (by rfl))]; (with_reducible refine hK _ _ ?_); clear hK K; try simp only [Act.put, nA, nB, nC]
        (with_reducible refine wpList_step ?_); intro K hK; rw [if_neg (Bool.eq_false_iff.1 (by rfl))]; (with_reducible refine hK _ _ ?_); clear hK K; try simp only [Act.put, nA, nB, nC]
        (with_reducible refine wpList_plain rfl ?_); intro K hK; go_simp; (with_reducible refine hK _ _ ?_); clear hK K; try simp only [Act.put, nA, nB, nC]
        go_wp2_with fail
        exact HFail.out _ (by rw [HB.out, H1.out, HOR.out, HLn.out]; rfl) B3.out
      case pos =>
        have d1 : decide (E < (xs.length : Int)) = false := decide_eq_false (by omega)
        have HLn : Hid (decide ((xs.length : Int) ≤ entI a b) = true) := by show _ = _; rw [HE.out]; exact decide_eq_true hln
        (with_reducible refine wpList_step ?_); intro K hK; rw [if_pos (by rfl)]; go_simp; (with_reducible refine hK _ _ ?_); clear hK K; try simp only [Act.put, nA, nB, nC]
        (with_reducible refine wpList_plain rfl ?_); intro K hK; go_simp; (with_reducible refine hK _ _ ?_); clear hK K; try simp only [Act.put, nA, nB, nC]
        (with_reducible refine wpList_plain rfl ?_); intro K hK; go_simp; (with_reducible refine hK _ _ ?_); clear hK K; try simp only [Act.put, nA, nB, nC]
        (with_reducible refine wpList_step ?_); intro K hK; rw [if_pos (by rfl)]; go_simp; (with_reducible refine hK _ _ ?_); clear hK K; try simp only [Act.put, nA, nB, nC]
        (with_reducible refine wpList_step ?_); intro K hK; rw [if_pos (by rfl)]; go_simp; (with_reducible refine hK _ _ ?_); clear hK K; try simp only [Act.put, nA, nB, nC]
        with_reducible refine wpList_step ?_
        intro K hK
        rw [if_pos (by rfl)]
        go_simp
        refine (ContainsFunc_odd _ xs w3 V3).mono ?_; rintro e w4 ⟨rfl, rfl⟩; rw [H4.out]
        first | with_reducible refine hK _ _ ?_ | refine hK _ _ ?_
        clear hK K
        (try simp only [Act.put, nA, nB, nC])
        cases q4
        case true =>
          (with_reducible refine wpList_plain rfl ?_); intro K hK; go_simp; (with_reducible refine hK _ _ ?_); clear hK K; try simp only [Act.put, nA, nB, nC]
          (with_reducible refine wpList_plain rfl ?_); intro K hK; go_simp; (with_reducible refine hK _ _ ?_); clear hK K; try simp only [Act.put, nA, nB, nC]
          (with_reducible refine wpList_step ?_); intro K hK; rw [if_neg (Bool.eq_false_iff.1 (by rfl))]; (with_reducible refine hK _ _ ?_); clear hK K; try simp only [Act.put, nA, nB, nC]
          (with_reducible refine wpList_step ?_); intro K hK; rw [if_neg (Bool.eq_false_iff.1 (by rfl))]; (with_reducible refine hK _ _ ?_); clear hK K; try simp only [Act.put, nA, nB, nC]
          (with_reducible refine wpList_step ?_); intro K hK; rw [if_neg (Bool.eq_false_iff.1 (by rfl))]; (with_reducible refine hK _ _ ?_); clear hK K; try simp only [Act.put, nA, nB, nC]
          (with_reducible refine wpList_plain rfl ?_); intro K hK; go_simp; (with_reducible refine hK _ _ ?_); clear hK K; try simp only [Act.put, nA, nB, nC]
          go_wp2_with fail
          exact HFail.out _ (by rw [HB.out, H1.out, HOR.out, HLn.out, H4.out]; rfl) B3.out
        case false =>
          (with_reducible refine wpList_plain rfl ?_); intro K hK; go_simp; (with_reducible refine hK _ _ ?_); clear hK K; try simp only [Act.put, nA, nB, nC]
          (with_reducible refine wpList_plain rfl ?_); intro K hK; go_simp; (with_reducible refine hK _ _ ?_); clear hK K; try simp only [Act.put, nA, nB, nC]
          (with_reducible refine wpList_step ?_); intro K hK; rw [if_pos (by rfl)]; go_simp; (with_reducible refine hK _ _ ?_); clear hK K; try simp only [Act.put, nA, nB, nC]
          with_reducible refine wpList_step ?_
          intro K hK
          rw [if_pos (by rfl)]
          go_simp
          refine (rising_any _ xs w3 V3).mono ?_; rintro e w4 ⟨rfl, b4⟩; rw [H5.out]
          first | with_reducible refine hK _ _ ?_ | refine hK _ _ ?_
          clear hK K
          (try simp only [Act.put, nA, nB, nC])
          have B4 := Lib.hid (B3.out.trans (b4.mono (by have := B3.out.size; have := HN.out; omega)))
          have V4 := Lib.hid (V3.out.below b4)
          clear b4 B3 V3
          (with_reducible refine wpList_step ?_); intro K hK; rw [if_pos (by rfl)]; go_simp; (with_reducible refine hK _ _ ?_); clear hK K; try simp only [Act.put, nA, nB, nC]
          (with_reducible refine wpList_plain rfl ?_); intro K hK; go_simp; (with_reducible refine hK _ _ ?_); clear hK K; try simp only [Act.put, nA, nB, nC]
          cases q5
          case false =>
            go_wp2_with fail
            exact HFail.out _ (by rw [HB.out, H1.out, HOR.out, HLn.out, H4.out, H5.out]; rfl) B4.out
          case true =>
            go_upto_region 4 with fail
            with_reducible refine wp_region_list ?_
            with_reducible refine wpList_plain rfl ?_
            intro K hK
            go_simp
            refine (New_any w4).mono ?_; rintro e w5 ⟨rfl, hw5⟩
            first | with_reducible refine hK _ _ ?_ | refine hK _ _ ?_
            clear hK K
            (try simp only [Act.put, nA, nB, nC])
            obtain ⟨p, hp⟩ : ∃ p, w4.heap.size = p := ⟨_, rfl⟩
            have W5 : Hid (Wr w5 p p []) := by rw [← hp, ← hw5]; exact Wr.new w4
            have b5 : Below p w4 w5 := by rw [← hp, ← hw5]; exact (Below.refl _ _).alloc (Nat.le_refl _) _
            have B5 := Lib.hid b5
            have hz4 : N ≤ p := by have := B4.out.size; have := HN.out; omega
            have hz5 : p ≤ w5.heap.size := by have := b5.size; omega
            rw [hp]
            have Hp := Lib.hid hp
            clear hp hw5 b5
            (with_reducible refine wpList_plain rfl ?_); intro K hK; go_simp; (with_reducible refine hK _ _ ?_); clear hK K; try simp only [Act.put, nA, nB, nC]
            go_upto_region 5 with fail
            with_reducible refine wp_region_list ?_
            (with_reducible refine wpList_plain rfl ?_); intro K hK; go_simp; (with_reducible refine hK _ _ ?_); clear hK K; try simp only [Act.put, nA, nB, nC]
            (with_reducible refine wpList_plain rfl ?_); intro K hK; go_simp; (with_reducible refine hK _ _ ?_); clear hK K; try simp only [Act.put, nA, nB, nC]
            with_reducible refine wpList_plain rfl ?_
            intro K hK
            go_simp
            refine (Put_uint32 (next : Int) p p [] w5 (by omega) W5.out (by simp)).mono ?_; rintro e w6 ⟨rfl, hw6, b6⟩; rw [Int.toNat_natCast, List.nil_append] at hw6
            first | with_reducible refine hK _ _ ?_ | refine hK _ _ ?_
            clear hK K
            (try simp only [Act.put, nA, nB, nC])
            have W6 := Lib.hid hw6
            have B6 := Lib.hid (B5.out.trans b6)
            have hz6 : p ≤ w6.heap.size := by have := b6.size; omega
            clear hw6 b6 W5 B5
            have wl : IntKind.u32.wrap (xs.length : Int) = (xs.length : Int) := IntWalk.u32_in _ (by omega)
            go_upto_region 6 with fail
            with_reducible refine wp_region_list ?_
            (with_reducible refine wpList_plain rfl ?_); intro K hK; go_simp; (with_reducible refine hK _ _ ?_); clear hK K; try simp only [Act.put, nA, nB, nC]
            (with_reducible refine wpList_plain rfl ?_); intro K hK; go_simp; (with_reducible refine hK _ _ ?_); clear hK K; try simp only [Act.put, nA, nB, nC]
            (with_reducible refine wpList_plain rfl ?_); intro K hK; go_simp; (with_reducible refine hK _ _ ?_); clear hK K; try simp only [Act.put, nA, nB, nC]
            (with_reducible refine wpList_plain rfl ?_); intro K hK; go_simp; (with_reducible refine hK _ _ ?_); clear hK K; try simp only [Act.put, nA, nB, nC]
            with_reducible refine wpList_plain rfl ?_
            intro K hK
            go_simp
            refine (Put_uint32 (xs.length : Int) p p (be 4 next) w6 (by omega) W6.out (by simp [be_length])).mono ?_; rintro e w7 ⟨rfl, hw7, b7⟩; rw [Int.toNat_natCast] at hw7
            first | with_reducible refine hK _ _ ?_ | refine hK _ _ ?_
            clear hK K
            (try simp only [Act.put, nA, nB, nC])
            have W7 := Lib.hid hw7
            have B7 := Lib.hid (B6.out.trans b7)
            clear hw7 b7 W6 B6 wl
            go_upto_region 8 with fail
            go_loopw [52] (fun i wr => ∃ (k : Nat), k ≤ xs.length ∧ Hid (Wr wr p p (be 4 next ++ be 4 xs.length ++ (xs.take k).flatMap (be 4))) ∧ Hid (Below p w4 wr) ∧ i = .int .i64 (k : Int)) (fun i _ => xs.length - (intOf i).toNat)
            case atStart => exact ⟨0, Nat.zero_le _, by simpa using W7, B7, rfl⟩
            case round =>
              obtain ⟨k, hk, Wk, Bk, rfl⟩ := hrel
              by_cases hlt : k < xs.length
              case pos =>
                have dk : decide (k < xs.length) = true := decide_eq_true hlt
                have dk2 : decide ((k : Int) < (xs.length : Int)) = true := decide_eq_true (by omega)
                have ik : (k : Int) < (xs.length : Int) := by omega
                have vk : URow wr (.slice ad xs.length c) xs := V4.out.mod (S := fun k => p ≤ k) ⟨Bk.out.os, Bk.out.tape, Bk.out.output, Bk.out.size, fun k hk hn => Bk.out.block k (by omega)⟩ (fun hp k hk e => by have := V4.out.lt hp k hk; have := Hp.out; omega)
                have hx4 := vk.1 _ (List.getElem_mem hlt)
                obtain ⟨_, _, e9, _, hc⟩ := vk.form
                obtain ⟨vb, vo, e8, hcs⟩ := hc (by omega)
                have e7 := (Value.slice.inj e9).1
                rw [e8] at e7
                subst e7
                have hcc := hcs k hlt
                have hnx : (xs.take (k + 1)).flatMap (be 4) = (xs.take k).flatMap (be 4) ++ be 4 xs[k] := by rw [List.take_add_one, List.getElem?_eq_getElem hlt, List.flatMap_append]; simp
                have hfl := flat4 (xs.take k)
                rw [List.length_take] at hfl
                obtain ⟨x, hx⟩ : ∃ x, xs[k] = x := ⟨_, rfl⟩
                rw [hx] at hcc hnx hx4
                have HX := Lib.hid hnx
                have HF := Lib.hid hfl
                unfold uN at hcc
                have Hcc := Lib.hid hcc
                clear vk e8 e9 hcs hc hx hnx hfl hcc
                have hcc := Hcc.out
                go_upto_region 10 with fail
                clear dk dk2 hcc
                with_reducible refine wp_region_list ?_
                (with_reducible refine wpList_plain rfl ?_); intro K hK; go_simp; (with_reducible refine hK _ _ ?_); clear hK K; try simp only [Act.put, nA, nB, nC]
                (with_reducible refine wpList_plain rfl ?_); intro K hK; go_simp; (with_reducible refine hK _ _ ?_); clear hK K; try simp only [Act.put, nA, nB, nC]
                with_reducible refine wpList_plain rfl ?_
                intro K hK
                go_simp
                refine (Put_uint32 (x : Int) p p _ wr (by omega) Wk.out (by rw [List.length_append, List.length_append, be_length, be_length, HF.out]; omega)).mono ?_; rintro e w8 ⟨rfl, hw8, b8⟩; rw [Int.toNat_natCast] at hw8
                first | with_reducible refine hK _ _ ?_ | refine hK _ _ ?_
                clear hK K
                (try simp only [Act.put, nA, nB, nC])
                have W8 : Hid (Wr w8 p p (be 4 next ++ be 4 xs.length ++ (xs.take (k + 1)).flatMap (be 4))) := by show Wr _ _ _ _; rw [HX.out, ← List.append_assoc]; exact hw8
                have B8 := Lib.hid (Bk.out.trans b8)
                clear hw8 b8 Wk Bk
                go_wp2_with fail
                exact ⟨⟨k + 1, by omega, W8, B8, by go_num⟩, by simp [intOf]; omega⟩
              case neg =>
                have dk : decide (k < xs.length) = false := decide_eq_false hlt
                have dk2 : decide ((k : Int) < (xs.length : Int)) = false := decide_eq_false (by omega)
                have hfull : xs.take k = xs := List.take_of_length_le (by omega)
                have hW := Wk.out
                rw [hfull, List.append_assoc] at hW
                have HW := Lib.hid hW
                have hf := HOk.out wr (by rw [HB.out, H1.out, HOR.out, HLn.out, H4.out, H5.out]; rfl) (B4.out.trans (Bk.out.mono hz4))
                unfold bodyL at hf
                have Hf := Lib.hid hf
                clear hfull hW hf
                go_wp2_with (go_at_call 62; refine (WString_any p p _ _ HW.out).mono ?_; rintro e w9 ⟨rfl, rfl⟩)
                exact Hf.out
    case neg =>
      have n1 : ((next : Int) != 0) = true := by simp; omega
      have n2 : (next != 0) = true := by simp [hnz]
      have HOR : Hid ((decide (next = 0) || numB next) = q2) := by show _ = _; rw [decide_eq_false hnz, H2.out]; rfl
      (with_reducible refine wpList_step ?_); intro K hK; rw [if_pos (by rfl)]; go_simp; (with_reducible refine hK _ _ ?_); clear hK K; try simp only [Act.put, nA, nB, nC]
      (with_reducible refine wpList_step ?_); intro K hK; rw [if_pos (by rfl)]; go_simp; (with_reducible refine hK _ _ ?_); clear hK K; try simp only [Act.put, nA, nB, nC]
      (with_reducible refine wpList_step ?_); intro K hK; rw [if_pos (by rfl)]; go_simp; (with_reducible refine hK _ _ ?_); clear hK K; try simp only [Act.put, nA, nB, nC]
      (with_reducible refine wpList_step ?_); intro K hK; rw [if_pos (by rfl)]; go_simp; (with_reducible refine hK _ _ ?_); clear hK K; try simp only [Act.put, nA, nB, nC]
      with_reducible refine wpList_step ?_
      intro K hK
      rw [if_pos (by rfl)]
      go_simp
      refine (number_any next w1).mono ?_; rintro e w2 ⟨rfl, rfl⟩; rw [H2.out]
      first | with_reducible refine hK _ _ ?_ | refine hK _ _ ?_
      clear hK K
      (try simp only [Act.put, nA, nB, nC])
      cases q2
      case false =>
        (with_reducible refine wpList_step ?_); intro K hK; rw [if_pos (by rfl)]; go_simp; (with_reducible refine hK _ _ ?_); clear hK K; try simp only [Act.put, nA, nB, nC]
        (with_reducible refine wpList_step ?_); intro K hK; rw [if_pos (by rfl)]; go_simp; (with_reducible refine hK _ _ ?_); clear hK K; try simp only [Act.put, nA, nB, nC]
        (with_reducible refine wpList_plain rfl ?_); intro K hK; go_simp; (with_reducible refine hK _ _ ?_); clear hK K; try simp only [Act.put, nA, nB, nC]
        (with_reducible refine wpList_plain rfl ?_); intro K hK; go_simp; (with_reducible refine hK _ _ ?_); clear hK K; try simp only [Act.put, nA, nB, nC]
        (with_reducible refine wpList_step ?_); intro K hK; rw [if_neg (Bool.eq_false_iff.1 (by rfl))]; (with_reducible refine hK _ _ ?_); clear hK K; try simp only [Act.put, nA, nB, nC]
        (with_reducible refine wpList_step ?_); intro K hK; rw [if_neg (Bool.eq_false_iff.1 (by rfl))]; (with_reducible refine hK _ _ ?_); clear hK K; try simp only [Act.put, nA, nB, nC]
        (with_reducible refine wpList_step ?_); intro K hK; rw [if_neg (Bool.eq_false_iff.1 (by rfl))]; (with_reducible refine hK _ _ ?_); clear hK K; try simp only [Act.put, nA, nB, nC]
        (with_reducible refine wpList_step ?_); intro K hK; rw [if_neg (Bool.eq_false_iff.1 (by rfl))]; (with_reducible refine hK _ _ ?_); clear hK K; try simp only [Act.put, nA, nB, nC]
        (with_reducible refine wpList_step ?_); intro K hK; rw [if_neg (Bool.eq_false_iff.1 (by rfl))]; (with_reducible refine hK _ _ ?_); clear hK K; try simp only [Act.put, nA, nB, nC]
        (with_reducible refine wpList_plain rfl ?_); intro K hK; go_simp; (with_reducible refine hK _ _ ?_); clear hK K; try simp only [Act.put, nA, nB, nC]
        (with_reducible refine wpList_plain rfl ?_); intro K hK; go_simp; (with_reducible refine hK _ _ ?_); clear hK K; try simp only [Act.put, nA, nB, nC]
        (with_reducible refine wpList_step ?_); intro K hK; rw [if_neg (Bool.eq_false_iff.1 (by rfl))]; (with_reducible refine hK _ _ ?_); clear hK K; try simp only [Act.put, nA, nB, nC]
        (with_reducible refine wpList_step ?_); intro K hK; rw [if_neg (Bool.eq_false_iff.1 (by rfl))]; (with_reducible refine hK _ _ ?_); clear hK K; try simp only [Act.put, nA, nB, nC]
        (with_reducible refine wpList_step ?_); intro K hK; rw [if_neg (Bool.eq_false_iff.1 (by rfl))]; (with_reducible refine hK _ _ ?_); clear hK K; try simp only [Act.put, nA, nB, nC]
        (with_reducible refine wpList_plain rfl ?_); intro K hK; go_simp; (with_reducible refine hK _ _ ?_); clear hK K; try simp only [Act.put, nA, nB, nC]
        (with_reducible refine wpList_plain rfl ?_); intro K hK; go_simp; (with_reducible refine hK _ _ ?_); clear hK K; try simp only [Act.put, nA, nB, nC]
        (with_reducible refine wpList_step ?_); intro K hK; rw [if_neg (Bool.eq_false_iff.1 (by rfl))]; (with_reducible refine hK _ _ ?_); clear hK K; try simp only [Act.put, nA, nB, nC]
        (with_reducible refine wpList_step ?_); intro K hK; rw [if_neg (Bool.eq_false_iff.1 (by rfl))]; (with_reducible refine hK _ _ ?_); clear hK K; try simp only [Act.put, nA, nB, nC]
        (with_reducible refine wpList_step ?_); intro K hK; rw [if_neg (Bool.eq_false_iff.1 (by rfl))]; (with_reducible refine hK _ _ ?_); clear hK K; try simp only [Act.put, nA, nB, nC]
        (with_reducible refine wpList_plain rfl ?_); intro K hK; go_simp; (with_reducible refine hK _ _ ?_); clear hK K; try simp only [Act.put, nA, nB, nC]
        go_wp2_with fail
        exact HFail.out _ (by rw [HB.out, H1.out, HOR.out]; rfl) B1.out
      case true =>
        (with_reducible refine wpList_step ?_); intro K hK; rw [if_pos (by rfl)]; go_simp; (with_reducible refine hK _ _ ?_); clear hK K; try simp only [Act.put, nA, nB, nC]
        (with_reducible refine wpList_step ?_); intro K hK; rw [if_pos (by rfl)]; go_simp; (with_reducible refine hK _ _ ?_); clear hK K; try simp only [Act.put, nA, nB, nC]
        (with_reducible refine wpList_plain rfl ?_); intro K hK; go_simp; (with_reducible refine hK _ _ ?_); clear hK K; try simp only [Act.put, nA, nB, nC]
        (with_reducible refine wpList_plain rfl ?_); intro K hK; go_simp; (with_reducible refine hK _ _ ?_); clear hK K; try simp only [Act.put, nA, nB, nC]
        have k0 := heap_cell E1.out (o := 0)
        have k1 := heap_cell E1.out (o := 1)
        (with_reducible refine wpList_step ?_); intro K hK; rw [if_pos (by rfl)]; go_simp; (with_reducible refine hK _ _ ?_); clear hK K; try simp only [Act.put, nA, nB, nC]
        (with_reducible refine wpList_step ?_); intro K hK; rw [if_pos (by rfl)]; go_simp; (with_reducible refine hK _ _ ?_); clear hK K; try simp only [Act.put, nA, nB, nC]
        (with_reducible refine wpList_step ?_); intro K hK; rw [if_pos (by rfl)]; go_simp; (with_reducible refine hK _ _ ?_); clear hK K; try simp only [Act.put, nA, nB, nC]
        with_reducible refine wpList_step ?_
        intro K hK
        rw [if_pos (by rfl)]
        go_simp
        refine (Entries_any a b w1).mono ?_; rintro e w3 ⟨rfl, b3⟩; rw [HE.out]
        first | with_reducible refine hK _ _ ?_ | refine hK _ _ ?_
        clear hK K
        (try simp only [Act.put, nA, nB, nC])
        have B3 := Lib.hid (B1.out.trans (b3.mono (by have := B1.out.size; have := HN.out; omega)))
        have V3 := Lib.hid (hv.out.below (by rw [HN.out]; exact B3.out))
        clear b3 k0 k1 E1 B1
        by_cases hln : (xs.length : Int) ≤ E
        case neg =>
          have d1 : decide (E < (xs.length : Int)) = true := decide_eq_true (by omega)
          have HLn : Hid (decide ((xs.length : Int) ≤ entI a b) = false) := by show _ = _; rw [HE.out]; exact decide_eq_false hln
          (with_reducible refine wpList_step ?_); intro K hK; rw [if_pos (by rfl)]; go_simp; (with_reducible refine hK _ _ ?_); clear hK K; try simp only [Act.put, nA, nB, nC]
          (with_reducible refine wpList_plain rfl ?_); intro K hK; go_simp; (with_reducible refine hK _ _ ?_); clear hK K; try simp only [Act.put, nA, nB, nC]
          (with_reducible refine wpList_plain rfl ?_); intro K hK; go_simp; (with_reducible refine hK _ _ ?_); clear hK K; try simp only [Act.put, nA, nB, nC]
          (with_reducible refine wpList_step ?_); intro K hK; rw [if_neg (Bool.eq_false_iff.1 (by rfl))]; (with_reducible refine hK _ _ ?_); clear hK K; try simp only [Act.put, nA, nB, nC]
          (with_reducible refine wpList_step ?_); intro K hK; rw [if_neg (Bool.eq_false_iff.1 (by rfl))]; (with_reducible refine hK _ _ ?_); clear hK K; try simp only [Act.put, nA, nB, nC]
          (with_reducible refine wpList_step ?_); intro K hK; rw [if_neg (Bool.eq_false_iff.1 (by rfl))]; (with_reducible refine hK _ _ ?_); clear hK K; try simp only [Act.put, nA, nB, nC]
          (with_reducible refine wpList_plain rfl ?_); intro K hK; go_simp; (with_reducible refine hK _ _ ?_); clear hK K; try simp only [Act.put, nA, nB, nC]
          (with_reducible refine wpList_plain rfl ?_); intro K hK; go_simp; (with_reducible refine hK _ _ ?_); clear hK K; try simp only [Act.put, nA, nB, nC]
          (with_reducible refine wpList_step ?_); intro K hK; rw [if_neg (Bool.eq_false_iff.1 (by rfl))]; (with_reducible refine hK _ _ ?_); clear hK K; try simp only [Act.put, nA, nB, nC]
          (with_reducible refine wpList_step ?_); intro K hK; rw [if_neg (Bool.eq_false_iff.1 (by rfl))]; (with_reducible refine hK _ _ ?_); clear hK K; try simp only [Act.put, nA, nB, nC]
          (with_reducible refine wpList_step ?_); intro K hK; rw [if_neg (Bool.eq_false_iff.1 (by rfl))]; (with_reducible refine hK _ _ ?_); clear hK K; try simp only [Act.put, nA, nB, nC]
          (with_reducible refine wpList_plain rfl ?_); intro K hK; go_simp; (with_reducible refine hK _ _ ?_); clear hK K; try simp only [Act.put, nA, nB, nC]
          go_wp2_with fail
          exact HFail.out _ (by rw [HB.out, H1.out, HOR.out, HLn.out]; rfl) B3.out
        case pos =>
          have d1 : decide (E < (xs.length : Int)) = false := decide_eq_false (by omega)
          have HLn : Hid (decide ((xs.length : Int) ≤ entI a b) = true) := by show _ = _; rw [HE.out]; exact decide_eq_true hln
          (with_reducible refine wpList_step ?_); intro K hK; rw [if_pos (by rfl)]; go_simp; (with_reducible refine hK _ _ ?_); clear hK K; try simp only [Act.put, nA, nB, nC]
          (with_reducible refine wpList_plain rfl ?_); intro K hK; go_simp; (with_reducible refine hK _ _ ?_); clear hK K; try simp only [Act.put, nA, nB, nC]
          (with_reducible refine wpList_plain rfl ?_); intro K hK; go_simp; (with_reducible refine hK _ _ ?_); clear hK K; try simp only [Act.put, nA, nB, nC]
          (with_reducible refine wpList_step ?_); intro K hK; rw [if_pos (by rfl)]; go_simp; (with_reducible refine hK _ _ ?_); clear hK K; try simp only [Act.put, nA, nB, nC]
          (with_reducible refine wpList_step ?_); intro K hK; rw [if_pos (by rfl)]; go_simp; (with_reducible refine hK _ _ ?_); clear hK K; try simp only [Act.put, nA, nB, nC]
          with_reducible refine wpList_step ?_
          intro K hK
          rw [if_pos (by rfl)]
          go_simp
          refine (ContainsFunc_odd _ xs w3 V3).mono ?_; rintro e w4 ⟨rfl, rfl⟩; rw [H4.out]
          first | with_reducible refine hK _ _ ?_ | refine hK _ _ ?_
          clear hK K
          (try simp only [Act.put, nA, nB, nC])
          cases q4
          case true =>
            (with_reducible refine wpList_plain rfl ?_); intro K hK; go_simp; (with_reducible refine hK _ _ ?_); clear hK K; try simp only [Act.put, nA, nB, nC]
            (with_reducible refine wpList_plain rfl ?_); intro K hK; go_simp; (with_reducible refine hK _ _ ?_); clear hK K; try simp only [Act.put, nA, nB, nC]
            (with_reducible refine wpList_step ?_); intro K hK; rw [if_neg (Bool.eq_false_iff.1 (by rfl))]; (with_reducible refine hK _ _ ?_); clear hK K; try simp only [Act.put, nA, nB, nC]
            (with_reducible refine wpList_step ?_); intro K hK; rw [if_neg (Bool.eq_false_iff.1 (by rfl))]; (with_reducible refine hK _ _ ?_); clear hK K; try simp only [Act.put, nA, nB, nC]
            (with_reducible refine wpList_step ?_); intro K hK; rw [if_neg (Bool.eq_false_iff.1 (by rfl))]; (with_reducible refine hK _ _ ?_); clear hK K; try simp only [Act.put, nA, nB, nC]
            (with_reducible refine wpList_plain rfl ?_); intro K hK; go_simp; (with_reducible refine hK _ _ ?_); clear hK K; try simp only [Act.put, nA, nB, nC]
            go_wp2_with fail
            exact HFail.out _ (by rw [HB.out, H1.out, HOR.out, HLn.out, H4.out]; rfl) B3.out
          case false =>
            (with_reducible refine wpList_plain rfl ?_); intro K hK; go_simp; (with_reducible refine hK _ _ ?_); clear hK K; try simp only [Act.put, nA, nB, nC]
            (with_reducible refine wpList_plain rfl ?_); intro K hK; go_simp; (with_reducible refine hK _ _ ?_); clear hK K; try simp only [Act.put, nA, nB, nC]
            (with_reducible refine wpList_step ?_); intro K hK; rw [if_pos (by rfl)]; go_simp; (with_reducible refine hK _ _ ?_); clear hK K; try simp only [Act.put, nA, nB, nC]
            with_reducible refine wpList_step ?_
            intro K hK
            rw [if_pos (by rfl)]
            go_simp
            refine (rising_any _ xs w3 V3).mono ?_; rintro e w4 ⟨rfl, b4⟩; rw [H5.out]
            first | with_reducible refine hK _ _ ?_ | refine hK _ _ ?_
            clear hK K
            (try simp only [Act.put, nA, nB, nC])
            have B4 := Lib.hid (B3.out.trans (b4.mono (by have := B3.out.size; have := HN.out; omega)))
            have V4 := Lib.hid (V3.out.below b4)
            clear b4 B3 V3
            (with_reducible refine wpList_step ?_); intro K hK; rw [if_pos (by rfl)]; go_simp; (with_reducible refine hK _ _ ?_); clear hK K; try simp only [Act.put, nA, nB, nC]
            (with_reducible refine wpList_plain rfl ?_); intro K hK; go_simp; (with_reducible refine hK _ _ ?_); clear hK K; try simp only [Act.put, nA, nB, nC]
            cases q5
            case false =>
              go_wp2_with fail
              exact HFail.out _ (by rw [HB.out, H1.out, HOR.out, HLn.out, H4.out, H5.out]; rfl) B4.out
            case true =>
              go_upto_region 4 with fail
              with_reducible refine wp_region_list ?_
              with_reducible refine wpList_plain rfl ?_
              intro K hK
              go_simp
              refine (New_any w4).mono ?_; rintro e w5 ⟨rfl, hw5⟩
              first | with_reducible refine hK _ _ ?_ | refine hK _ _ ?_
              clear hK K
              (try simp only [Act.put, nA, nB, nC])
              obtain ⟨p, hp⟩ : ∃ p, w4.heap.size = p := ⟨_, rfl⟩
              have W5 : Hid (Wr w5 p p []) := by rw [← hp, ← hw5]; exact Wr.new w4
              have b5 : Below p w4 w5 := by rw [← hp, ← hw5]; exact (Below.refl _ _).alloc (Nat.le_refl _) _
              have B5 := Lib.hid b5
              have hz4 : N ≤ p := by have := B4.out.size; have := HN.out; omega
              have hz5 : p ≤ w5.heap.size := by have := b5.size; omega
              rw [hp]
              have Hp := Lib.hid hp
              clear hp hw5 b5
              (with_reducible refine wpList_plain rfl ?_); intro K hK; go_simp; (with_reducible refine hK _ _ ?_); clear hK K; try simp only [Act.put, nA, nB, nC]
              go_upto_region 5 with fail
              with_reducible refine wp_region_list ?_
              (with_reducible refine wpList_plain rfl ?_); intro K hK; go_simp; (with_reducible refine hK _ _ ?_); clear hK K; try simp only [Act.put, nA, nB, nC]
              (with_reducible refine wpList_plain rfl ?_); intro K hK; go_simp; (with_reducible refine hK _ _ ?_); clear hK K; try simp only [Act.put, nA, nB, nC]
              with_reducible refine wpList_plain rfl ?_
              intro K hK
              go_simp
              refine (Put_uint32 (next : Int) p p [] w5 (by omega) W5.out (by simp)).mono ?_; rintro e w6 ⟨rfl, hw6, b6⟩; rw [Int.toNat_natCast, List.nil_append] at hw6
              first | with_reducible refine hK _ _ ?_ | refine hK _ _ ?_
              clear hK K
              (try simp only [Act.put, nA, nB, nC])
              have W6 := Lib.hid hw6
              have B6 := Lib.hid (B5.out.trans b6)
              have hz6 : p ≤ w6.heap.size := by have := b6.size; omega
              clear hw6 b6 W5 B5
              have wl : IntKind.u32.wrap (xs.length : Int) = (xs.length : Int) := IntWalk.u32_in _ (by omega)
              go_upto_region 6 with fail
              with_reducible refine wp_region_list ?_
              (with_reducible refine wpList_plain rfl ?_); intro K hK; go_simp; (with_reducible refine hK _ _ ?_); clear hK K; try simp only [Act.put, nA, nB, nC]
              (with_reducible refine wpList_plain rfl ?_); intro K hK; go_simp; (with_reducible refine hK _ _ ?_); clear hK K; try simp only [Act.put, nA, nB, nC]
              (with_reducible refine wpList_plain rfl ?_); intro K hK; go_simp; (with_reducible refine hK _ _ ?_); clear hK K; try simp only [Act.put, nA, nB, nC]
              (with_reducible refine wpList_plain rfl ?_); intro K hK; go_simp; (with_reducible refine hK _ _ ?_); clear hK K; try simp only [Act.put, nA, nB, nC]
              with_reducible refine wpList_plain rfl ?_
              intro K hK
              go_simp
              refine (Put_uint32 (xs.length : Int) p p (be 4 next) w6 (by omega) W6.out (by simp [be_length])).mono ?_; rintro e w7 ⟨rfl, hw7, b7⟩; rw [Int.toNat_natCast] at hw7
              first | with_reducible refine hK _ _ ?_ | refine hK _ _ ?_
              clear hK K
              (try simp only [Act.put, nA, nB, nC])
              have W7 := Lib.hid hw7
              have B7 := Lib.hid (B6.out.trans b7)
              clear hw7 b7 W6 B6 wl
              go_upto_region 8 with fail
              go_loopw [52] (fun i wr => ∃ (k : Nat), k ≤ xs.length ∧ Hid (Wr wr p p (be 4 next ++ be 4 xs.length ++ (xs.take k).flatMap (be 4))) ∧ Hid (Below p w4 wr) ∧ i = .int .i64 (k : Int)) (fun i _ => xs.length - (intOf i).toNat)
              case atStart => exact ⟨0, Nat.zero_le _, by simpa using W7, B7, rfl⟩
              case round =>
                obtain ⟨k, hk, Wk, Bk, rfl⟩ := hrel
                by_cases hlt : k < xs.length
                case pos =>
                  have dk : decide (k < xs.length) = true := decide_eq_true hlt
                  have dk2 : decide ((k : Int) < (xs.length : Int)) = true := decide_eq_true (by omega)
                  have ik : (k : Int) < (xs.length : Int) := by omega
                  have vk : URow wr (.slice ad xs.length c) xs := V4.out.mod (S := fun k => p ≤ k) ⟨Bk.out.os, Bk.out.tape, Bk.out.output, Bk.out.size, fun k hk hn => Bk.out.block k (by omega)⟩ (fun hp k hk e => by have := V4.out.lt hp k hk; have := Hp.out; omega)
                  have hx4 := vk.1 _ (List.getElem_mem hlt)
                  obtain ⟨_, _, e9, _, hc⟩ := vk.form
                  obtain ⟨vb, vo, e8, hcs⟩ := hc (by omega)
                  have e7 := (Value.slice.inj e9).1
                  rw [e8] at e7
                  subst e7
                  have hcc := hcs k hlt
                  have hnx : (xs.take (k + 1)).flatMap (be 4) = (xs.take k).flatMap (be 4) ++ be 4 xs[k] := by rw [List.take_add_one, List.getElem?_eq_getElem hlt, List.flatMap_append]; simp
                  have hfl := flat4 (xs.take k)
                  rw [List.length_take] at hfl
                  obtain ⟨x, hx⟩ : ∃ x, xs[k] = x := ⟨_, rfl⟩
                  rw [hx] at hcc hnx hx4
                  have HX := Lib.hid hnx
                  have HF := Lib.hid hfl
                  unfold uN at hcc
                  have Hcc := Lib.hid hcc
                  clear vk e8 e9 hcs hc hx hnx hfl hcc
                  have hcc := Hcc.out
                  go_upto_region 10 with fail
                  clear dk dk2 hcc
                  with_reducible refine wp_region_list ?_
                  (with_reducible refine wpList_plain rfl ?_); intro K hK; go_simp; (with_reducible refine hK _ _ ?_); clear hK K; try simp only [Act.put, nA, nB, nC]
                  (with_reducible refine wpList_plain rfl ?_); intro K hK; go_simp; (with_reducible refine hK _ _ ?_); clear hK K; try simp only [Act.put, nA, nB, nC]
                  with_reducible refine wpList_plain rfl ?_
                  intro K hK
                  go_simp
                  refine (Put_uint32 (x : Int) p p _ wr (by omega) Wk.out (by rw [List.length_append, List.length_append, be_length, be_length, HF.out]; omega)).mono ?_; rintro e w8 ⟨rfl, hw8, b8⟩; rw [Int.toNat_natCast] at hw8
                  first | with_reducible refine hK _ _ ?_ | refine hK _ _ ?_
                  clear hK K
                  (try simp only [Act.put, nA, nB, nC])
                  have W8 : Hid (Wr w8 p p (be 4 next ++ be 4 xs.length ++ (xs.take (k + 1)).flatMap (be 4))) := by show Wr _ _ _ _; rw [HX.out, ← List.append_assoc]; exact hw8
                  have B8 := Lib.hid (Bk.out.trans b8)
                  clear hw8 b8 Wk Bk
                  go_wp2_with fail
                  exact ⟨⟨k + 1, by omega, W8, B8, by go_num⟩, by simp [intOf]; omega⟩
                case neg =>
                  have dk : decide (k < xs.length) = false := decide_eq_false hlt
                  have dk2 : decide ((k : Int) < (xs.length : Int)) = false := decide_eq_false (by omega)
                  have hfull : xs.take k = xs := List.take_of_length_le (by omega)
                  have hW := Wk.out
                  rw [hfull, List.append_assoc] at hW
                  have HW := Lib.hid hW
                  have hf := HOk.out wr (by rw [HB.out, H1.out, HOR.out, HLn.out, H4.out, H5.out]; rfl) (B4.out.trans (Bk.out.mono hz4))
                  unfold bodyL at hf
                  have Hf := Lib.hid hf
                  clear hfull hW hf
                  go_wp2_with (go_at_call 62; refine (WString_any p p _ _ HW.out).mono ?_; rintro e w9 ⟨rfl, rfl⟩)
                  exact Hf.out
end Go.Proofs.Ytkngmnfgdlnddaa

namespace Go.Proofs.Ytkngmnfgdlnddaa
open Go.RowKit Go.Lib Hw
set_option linter.unusedVariables false

set_option maxHeartbeats 2000000 in
theorem Take_m (B p : Nat) (s : ByteArray) (at_ : Nat) (w : World) (h : Rd w B p s at_) (hs : at_ + 4 ≤ s.size) (hz : s.size ≤ 9223372036854775000) :
    Calls Try.prog 65 #[.pointer (some ⟨p, 0, none⟩)] w fun e w' => e = .returned (.int .u32 (told (piece s at_ 4) : Int)) ∧ Rd w' B p s (at_ + 4) ∧ Mod (fun k => k = p) w w' := by
  go_enter Try.func65, Try.ntmps65
  go_wp2_with fail
  refine (Rdead_any B p s at_ _ h).mono ?_
  rintro e w1 ⟨rfl, rfl⟩
  go_wp2_with fail
  refine (width_uint32 _).mono ?_
  rintro e w1 ⟨rfl, rfl⟩
  go_wp2_with fail
  refine (Left_any B p s at_ _ h (by omega) (by omega)).mono ?_
  rintro e w1 ⟨rfl, rfl⟩
  have d1 : decide (((s.size - at_ : Nat) : Int) < 4) = false := by simp; omega
  go_wp2_with fail
  go_loopw [4, 20] (fun x i wr => ∃ (k : Nat) (X : Int), k ≤ 4 ∧ Hid (X = (told (piece s at_ k) : Int)) ∧ Hid (Rd wr B p s at_) ∧ Hid (Mod (fun k => k = p) w wr) ∧ x = .int .u64 X ∧ i = .int .i64 k) (fun _ i _ => 4 - (intOf i).toNat)
  case atStart => exact ⟨0, 0, by omega, by simp [Hid, told, piece], h, (Mod.refl _ _).drew, rfl, rfl⟩
  case round =>
    obtain ⟨k, X, hk, HX, HR, HB, rfl, rfl⟩ := hrel
    by_cases hlt : k < 4
    · have hX : 0 ≤ X ∧ X < 72057594037927936 := by
        have h1 := told_lt (piece s at_ k)
        rw [piece_length s at_ k (by omega)] at h1
        have h2 : 256 ^ k ≤ 256 ^ 7 := Nat.pow_le_pow_right (by decide) (by omega)
        have h3 : (256 : Nat) ^ 7 = 72057594037927936 := by decide
        have := HX.out
        omega
      have hik : at_ + k < s.size := by omega
      obtain ⟨b, hb⟩ : ∃ b : UInt8, s[at_ + k] = b := ⟨_, rfl⟩
      have hb2 : b.toNat < 256 := b.toNat_lt
      have HY : Hid (X * 256 + (b.toNat : Int) = (told (piece s at_ (k + 1)) : Int)) := by
        show _ = _
        rw [piece_snoc s at_ k hik, told_snoc, HX.out, ← byteAt_eq s _ hik, hb]; omega
      obtain ⟨c0, c1, c2, c3, c4⟩ := HR.out.cells
      clear c0 c3 c4
      go_wp2_with fail
      have i1 : IntKind.u64.wrap (X * 256) = X * 256 := IntWalk.u64_in _ (by omega)
      have i2 : IntKind.i64.wrap ((at_ : Int) + (k : Int)) = (at_ : Int) + (k : Int) := IntWalk.i64_in _ (by omega)
      have i3 : ((at_ : Int) + (k : Int)).toNat = at_ + k := by omega
      have i4 : 0 ≤ (at_ : Int) + (k : Int) := by omega
      have i5 : (at_ : Int) + (k : Int) < (s.size : Int) := by omega
      have i6 : IntKind.u64.wrap (b.toNat : Int) = (b.toNat : Int) := IntWalk.u64_in _ (by omega)
      have i7 := or_byte X b hX
      refine wp_region_held_drew (S := fun W => W.cell? ⟨p, 1, none⟩ = some (.string s) ∧ W.cell? ⟨p, 2, none⟩ = some (.int .i64 (at_ : Int))) (by kernel_rfl) ⟨c1, c2⟩ (fun hHeld => ?_)
      refine' wpAnyH_take (i := 0) (oi := ⟨some 23, .move (.tmp 4), 92, "pack.go:162", #[], none⟩) rfl (by kernel_rfl) (by kernel_rfl) (by kernel_rfl) (fun _ _ _ h => h) (Or.inl ⟨by rfl, _⟩) (by assumption) _
      rotate_left
      · (intro wS hSw; (try dsimp only at hSw); go_simp; try with_reducible rfl)
      try simp only [Act.put, nA, nB, nC]
      refine' wpAnyH_take (i := 1) (oi := ⟨some 24, .binOp .shl 92 (.tmp 23) (.const (.int .u64 8)) 143, 92, "pack.go:162", #[⟨0, .data⟩], none⟩) rfl (by kernel_rfl) (by kernel_rfl) (by kernel_rfl) (fun _ _ _ h => h) (Or.inl ⟨by rfl, _⟩) (by assumption) _
      rotate_left
      · (intro wS hSw; (try dsimp only at hSw); go_simp; try with_reducible rfl)
      try simp only [Act.put, nA, nB, nC]
      refine' wpAnyH_take (i := 2) (oi := ⟨some 25, .move (.tmp 0), 111, "pack.go:162", #[], none⟩) rfl (by kernel_rfl) (by kernel_rfl) (by kernel_rfl) (fun _ _ _ h => h) (Or.inl ⟨by rfl, _⟩) (by assumption) _
      rotate_left
      · (intro wS hSw; (try dsimp only at hSw); go_simp; try with_reducible rfl)
      try simp only [Act.put, nA, nB, nC]
      refine' wpAnyH_take (i := 3) (oi := ⟨some 26, .nilCheck (.tmp 25), 0, "pack.go:162", #[⟨2, .data⟩], none⟩) rfl (by kernel_rfl) (by kernel_rfl) (by kernel_rfl) (fun _ _ _ h => h) (Or.inl ⟨by rfl, _⟩) (by assumption) _
      rotate_left
      · (intro wS hSw; (try dsimp only at hSw); go_simp; try with_reducible rfl)
      try simp only [Act.put, nA, nB, nC]
      refine' wpAnyH_take (i := 4) (oi := ⟨some 27, .fieldAddr 145 (.tmp 26) 1, 0, "pack.go:162", #[⟨3, .data⟩], none⟩) rfl (by kernel_rfl) (by kernel_rfl) (by kernel_rfl) (fun _ _ _ h => h) (Or.inl ⟨by rfl, _⟩) (by assumption) _
      rotate_left
      · (intro wS hSw; (try dsimp only at hSw); go_simp; try with_reducible rfl)
      try simp only [Act.put, nA, nB, nC]
      refine' wpAnyH_take (i := 5) (oi := ⟨some 28, .load 9 (.tmp 27), 9, "pack.go:162", #[⟨4, .data⟩], none⟩) rfl (by kernel_rfl) (by kernel_rfl) (by kernel_rfl) (fun _ _ _ h => h) (Or.inl ⟨by rfl, _⟩) (by assumption) _
      rotate_left
      · (intro wS hSw; (try dsimp only at hSw); go_simp; try with_reducible rfl)
      try simp only [Act.put, nA, nB, nC]
      refine' wpAnyH_take (i := 6) (oi := ⟨some 29, .move (.tmp 0), 111, "pack.go:162", #[], none⟩) rfl (by kernel_rfl) (by kernel_rfl) (by kernel_rfl) (fun _ _ _ h => h) (Or.inl ⟨by rfl, _⟩) (by assumption) _
      rotate_left
      · (intro wS hSw; (try dsimp only at hSw); go_simp; try with_reducible rfl)
      try simp only [Act.put, nA, nB, nC]
      refine' wpAnyH_take (i := 7) (oi := ⟨some 30, .nilCheck (.tmp 29), 0, "pack.go:162", #[⟨6, .data⟩], none⟩) rfl (by kernel_rfl) (by kernel_rfl) (by kernel_rfl) (fun _ _ _ h => h) (Or.inl ⟨by rfl, _⟩) (by assumption) _
      rotate_left
      · (intro wS hSw; (try dsimp only at hSw); go_simp; try with_reducible rfl)
      try simp only [Act.put, nA, nB, nC]
      refine' wpAnyH_take (i := 8) (oi := ⟨some 31, .fieldAddr 145 (.tmp 30) 2, 0, "pack.go:162", #[⟨7, .data⟩], none⟩) rfl (by kernel_rfl) (by kernel_rfl) (by kernel_rfl) (fun _ _ _ h => h) (Or.inl ⟨by rfl, _⟩) (by assumption) _
      rotate_left
      · (intro wS hSw; (try dsimp only at hSw); go_simp; try with_reducible rfl)
      try simp only [Act.put, nA, nB, nC]
      refine' wpAnyH_take (i := 9) (oi := ⟨some 32, .load 3 (.tmp 31), 3, "pack.go:162", #[⟨8, .data⟩], none⟩) rfl (by kernel_rfl) (by kernel_rfl) (by kernel_rfl) (fun _ _ _ h => h) (Or.inl ⟨by rfl, _⟩) (by assumption) _
      rotate_left
      · (intro wS hSw; (try dsimp only at hSw); go_simp; try with_reducible rfl)
      try simp only [Act.put, nA, nB, nC]
      refine' wpAnyH_take (i := 10) (oi := ⟨some 33, .move (.tmp 5), 3, "pack.go:162", #[], none⟩) rfl (by kernel_rfl) (by kernel_rfl) (by kernel_rfl) (fun _ _ _ h => h) (Or.inl ⟨by rfl, _⟩) (by assumption) _
      rotate_left
      · (intro wS hSw; (try dsimp only at hSw); go_simp; try with_reducible rfl)
      try simp only [Act.put, nA, nB, nC]
      refine' wpAnyH_take (i := 11) (oi := ⟨some 34, .binOp .add 3 (.tmp 32) (.tmp 33) 3, 3, "pack.go:162", #[⟨9, .data⟩, ⟨10, .data⟩], none⟩) rfl (by kernel_rfl) (by kernel_rfl) (by kernel_rfl) (fun _ _ _ h => h) (Or.inl ⟨by rfl, _⟩) (by assumption) _
      rotate_left
      · (intro wS hSw; (try dsimp only at hSw); go_simp; try with_reducible rfl)
      try simp only [Act.put, nA, nB, nC]
      refine' wpAnyH_take (i := 12) (oi := ⟨some 35, .index 9 (.tmp 28) (.tmp 34), 5, "pack.go:162", #[⟨5, .data⟩, ⟨11, .data⟩], none⟩) rfl (by kernel_rfl) (by kernel_rfl) (by kernel_rfl) (fun _ _ _ h => h) (Or.inl ⟨by rfl, _⟩) (by assumption) _
      rotate_left
      · (intro wS hSw; (try dsimp only at hSw); go_simp; try with_reducible rfl)
      try simp only [Act.put, nA, nB, nC]
      refine' wpAnyH_take (i := 13) (oi := ⟨some 36, .convert 5 92 (.tmp 35), 92, "pack.go:162", #[⟨12, .data⟩], none⟩) rfl (by kernel_rfl) (by kernel_rfl) (by kernel_rfl) (fun _ _ _ h => h) (Or.inl ⟨by rfl, _⟩) (by assumption) _
      rotate_left
      · (intro wS hSw; (try dsimp only at hSw); go_simp; try with_reducible rfl)
      try simp only [Act.put, nA, nB, nC]
      refine' wpAnyH_take (i := 14) (oi := ⟨some 37, .binOp .or 92 (.tmp 24) (.tmp 36) 92, 92, "pack.go:162", #[⟨1, .data⟩, ⟨13, .data⟩], none⟩) rfl (by kernel_rfl) (by kernel_rfl) (by kernel_rfl) (fun _ _ _ h => h) (Or.inl ⟨by rfl, _⟩) (by assumption) _
      rotate_left
      · (intro wS hSw; (try dsimp only at hSw); go_simp; try with_reducible rfl)
      try simp only [Act.put, nA, nB, nC]
      refine' wpAnyH_take (i := 15) (oi := ⟨some 4, .assign (.tmp 37), 92, "pack.go:162", #[⟨14, .data⟩, ⟨0, .phase⟩, ⟨1, .phase⟩, ⟨2, .phase⟩, ⟨3, .phase⟩, ⟨4, .phase⟩, ⟨5, .phase⟩, ⟨6, .phase⟩, ⟨7, .phase⟩, ⟨8, .phase⟩, ⟨9, .phase⟩, ⟨10, .phase⟩, ⟨11, .phase⟩, ⟨12, .phase⟩, ⟨13, .phase⟩, ⟨14, .phase⟩], none⟩) rfl (by kernel_rfl) (by kernel_rfl) (by kernel_rfl) (fun _ _ _ h => h) (Or.inl ⟨by rfl, _⟩) (by assumption) _
      rotate_left
      · (intro wS hSw; (try dsimp only at hSw); go_simp; try with_reducible rfl)
      try simp only [Act.put, nA, nB, nC]
      refine wpAnyH_done (by kernel_rfl) ?_ _
      clear i1 i2 i3 i4 i5 i6 i7
      go_wp2
      go_roundw
      case rel => exact ⟨k + 1, _, by omega, HY.out, HR.out, HB.out.drew, rfl, by go_num⟩
      case measure => simp [intOf]; omega
    · have : k = 4 := by omega
      subst this
      have hXm : 0 ≤ X ∧ X < 4294967296 := by
        have h1 := told_lt (piece s at_ 4)
        rw [piece_length s at_ 4 (by omega)] at h1
        have h3 : (256 : Nat) ^ 4 = 4294967296 := by decide
        have := HX.out
        omega
      obtain ⟨c0, c1, c2, c3, c4⟩ := HR.out.cells
      clear c0 c1 c3
      go_wp2
      go_ret
      refine ⟨by rw [← HX.out]; rfl, ?_, HB.out.then (Mod.set (S := fun k => k = p) (o := 2) _ rfl _)⟩
      have hm := HR.out.move (at_ + 4)
      have e1 : ((at_ + 4 : Nat) : Int) = (at_ : Int) + 4 := by omega
      rw [e1] at hm
      exact hm

/-- a reader that met a fault -/
def Rf (w : World) (B p : Nat) : Prop := B ≤ p ∧ ∃ (s : ByteArray) (a : Int), w.heap[p]? = some (.cells #[.bool true, .string s, .int .i64 a, .int .i64 10] 145 (0, 0))
theorem fail_any (B p : Nat) (s : ByteArray) (at_ : Nat) (w : World) (h : Rd w B p s at_) :
    Calls Try.prog 82 #[.pointer (some ⟨p, 0, none⟩), .int .i64 10, .int .i64 (at_ : Int)] w fun e w' => e = .returned (.tuple #[]) ∧ Rf w' B p ∧ Mod (fun k => k = p) w w' := by
  have c3 : w.cell? ⟨p, 3, none⟩ = some (.int .i64 0) := by rw [heap_cell h.2]; rfl
  have f3 := heap_free h.2 3
  have h1 := heap_set (o := 3) h.2 (.int .i64 10)
  have c2 : w.cell? ⟨p, 2, none⟩ = some (.int .i64 (at_ : Int)) := by rw [heap_cell h.2]; rfl
  have f2 := heap_free h.2 2
  have h2 := heap_set (o := 2) h1 (.int .i64 (at_ : Int))
  have hR : Hid (Rf ((w.setCell ⟨p, 3, none⟩ (.int .i64 10)).setCell ⟨p, 2, none⟩ (.int .i64 (at_ : Int))) B p) := ⟨h.1, s, (at_ : Int), h2⟩
  have hM : Hid (Mod (fun k => k = p) w ((w.setCell ⟨p, 3, none⟩ (.int .i64 10)).setCell ⟨p, 2, none⟩ (.int .i64 (at_ : Int)))) := (Mod.set (S := fun k => k = p) (o := 3) w rfl _).then (Mod.set (S := fun k => k = p) (o := 2) _ rfl _)
  clear h h1 h2
  go_enter Try.func82, Try.ntmps82
  go_wp2_with fail
  go_end0
  exact ⟨rfl, hR.out, hM.out⟩
set_option maxHeartbeats 1000000 in
theorem Take_short (B p : Nat) (s : ByteArray) (at_ : Nat) (w : World) (h : Rd w B p s at_) (ha : at_ ≤ s.size) (hs : s.size < at_ + 4) (hz : s.size ≤ 9223372036854775000) :
    Calls Try.prog 65 #[.pointer (some ⟨p, 0, none⟩)] w fun e w' => e = .returned (.int .u32 0) ∧ Rf w' B p ∧ Mod (fun k => k = p) w w' := by
  have hd : Rd w.drew B p s at_ := h
  go_enter Try.func65, Try.ntmps65
  go_wp2_with fail
  refine (Rdead_any B p s at_ _ h).mono ?_
  rintro e w1 ⟨rfl, rfl⟩
  go_wp2_with fail
  refine (width_uint32 _).mono ?_
  rintro e w1 ⟨rfl, rfl⟩
  go_wp2_with fail
  refine (Left_any B p s at_ _ h (by omega) (by omega)).mono ?_
  rintro e w1 ⟨rfl, rfl⟩
  have d1 : decide (((s.size - at_ : Nat) : Int) < 4) = true := decide_eq_true (by omega)
  have c2 : w.drew.cell? ⟨p, 2, none⟩ = some (.int .i64 (at_ : Int)) := hd.cells.2.2.1
  go_wp2_with (go_at_call 82; refine (fail_any B p s at_ _ hd).mono ?_; rintro e w2 ⟨rfl, r2, m2⟩)
  go_ret
  exact ⟨rfl, r2, (Mod.refl _ w).drew.then m2⟩
theorem dead_f (B p : Nat) (w : World) (h : Rf w B p) :
    Calls Try.prog 81 #[.pointer (some ⟨p, 0, none⟩)] w fun e w' => e = .returned (.bool true) ∧ w = w' := by
  obtain ⟨_, s, a, hp⟩ := h
  have c0 : w.cell? ⟨p, 0, none⟩ = some (.bool true) := by rw [heap_cell hp]; rfl
  have c3 : w.cell? ⟨p, 3, none⟩ = some (.int .i64 10) := by rw [heap_cell hp]; rfl
  clear hp
  go_enter Try.func81, Try.ntmps81
  go_wp2
  go_ret
  exact ⟨rfl, rfl⟩
theorem Take_dead (B p : Nat) (w : World) (h : Rf w B p) :
    Calls Try.prog 65 #[.pointer (some ⟨p, 0, none⟩)] w fun e w' => e = .returned (.int .u32 0) ∧ w = w' := by
  go_enter Try.func65, Try.ntmps65
  go_wp2_with (go_at_call 81; refine (dead_f B p _ h).mono ?_; rintro e w1 ⟨rfl, rfl⟩)
  go_ret
  exact ⟨rfl, rfl⟩
theorem Fault_ok (B p : Nat) (s : ByteArray) (at_ : Nat) (w : World) (h : Rd w B p s at_) :
    Calls Try.prog 66 #[.pointer (some ⟨p, 0, none⟩)] w fun e w' => e = .returned (.pointer none) ∧ w = w' := by
  obtain ⟨h0, h1, h2, h3, h4⟩ := h.cells
  clear h4
  go_enter Try.func66, Try.ntmps66
  go_wp2
  go_ret
  exact ⟨rfl, rfl⟩
theorem Fault_bad (B p : Nat) (w : World) (h : Rf w B p) :
    Calls Try.prog 66 #[.pointer (some ⟨p, 0, none⟩)] w fun e w' => (∃ g, e = .returned (.pointer (some ⟨g, 0, none⟩))) ∧ Below w.heap.size w w' := by
  obtain ⟨_, s, a, hp⟩ := h
  have c2 : w.cell? ⟨p, 2, none⟩ = some (.int .i64 a) := by rw [heap_cell hp]; rfl
  have c3 : w.cell? ⟨p, 3, none⟩ = some (.int .i64 10) := by rw [heap_cell hp]; rfl
  have hpz : p < w.drew.heap.size := heap_lt hp
  clear hp
  obtain ⟨N, hN⟩ : ∃ N, w.heap.size = N := ⟨_, rfl⟩
  have HN := Lib.hid hN
  rw [hN]
  clear hN
  go_enter Try.func66, Try.ntmps66
  go_upto_region 3 with fail
  refine wp_region_held_drew (S := fun W => W.cell? ⟨p, 2, none⟩ = some (.int .i64 a) ∧ W.cell? ⟨p, 3, none⟩ = some (.int .i64 10)) (by kernel_rfl) ⟨c2, c3⟩ (fun hHeld => ?_)
  refine' wpAnyH_take (i := 0) (oi := ⟨some 12, .move (.tmp 0), 111, "pack.go:292", #[], none⟩) rfl (by kernel_rfl) (by kernel_rfl) (by kernel_rfl) (fun _ _ _ h => h) (Or.inl ⟨by rfl, _⟩) (by assumption) _
  rotate_left
  · (intro wS hSw; (try dsimp only at hSw); go_simp; try with_reducible rfl)
  try simp only [Act.put, nA, nB, nC]
  refine' wpAnyH_take (i := 1) (oi := ⟨some 13, .nilCheck (.tmp 12), 0, "pack.go:292", #[⟨0, .data⟩], none⟩) rfl (by kernel_rfl) (by kernel_rfl) (by kernel_rfl) (fun _ _ _ h => h) (Or.inl ⟨by rfl, _⟩) (by assumption) _
  rotate_left
  · (intro wS hSw; (try dsimp only at hSw); go_simp; try with_reducible rfl)
  try simp only [Act.put, nA, nB, nC]
  refine' wpAnyH_take (i := 2) (oi := ⟨some 14, .fieldAddr 145 (.tmp 13) 3, 0, "pack.go:292", #[⟨1, .data⟩], none⟩) rfl (by kernel_rfl) (by kernel_rfl) (by kernel_rfl) (fun _ _ _ h => h) (Or.inl ⟨by rfl, _⟩) (by assumption) _
  rotate_left
  · (intro wS hSw; (try dsimp only at hSw); go_simp; try with_reducible rfl)
  try simp only [Act.put, nA, nB, nC]
  refine' wpAnyH_take (i := 3) (oi := ⟨some 15, .load 32 (.tmp 14), 32, "pack.go:292", #[⟨2, .data⟩], none⟩) rfl (by kernel_rfl) (by kernel_rfl) (by kernel_rfl) (fun _ _ _ h => h) (Or.inl ⟨by rfl, _⟩) (by assumption) _
  rotate_left
  · (intro wS hSw; (try dsimp only at hSw); go_simp; try with_reducible rfl)
  try simp only [Act.put, nA, nB, nC]
  refine' wpAnyH_take (i := 4) (oi := ⟨some 16, .move (.tmp 0), 111, "pack.go:292", #[], none⟩) rfl (by kernel_rfl) (by kernel_rfl) (by kernel_rfl) (fun _ _ _ h => h) (Or.inl ⟨by rfl, _⟩) (by assumption) _
  rotate_left
  · (intro wS hSw; (try dsimp only at hSw); go_simp; try with_reducible rfl)
  try simp only [Act.put, nA, nB, nC]
  refine' wpAnyH_take (i := 5) (oi := ⟨some 17, .nilCheck (.tmp 16), 0, "pack.go:292", #[⟨4, .data⟩], none⟩) rfl (by kernel_rfl) (by kernel_rfl) (by kernel_rfl) (fun _ _ _ h => h) (Or.inl ⟨by rfl, _⟩) (by assumption) _
  rotate_left
  · (intro wS hSw; (try dsimp only at hSw); go_simp; try with_reducible rfl)
  try simp only [Act.put, nA, nB, nC]
  refine' wpAnyH_take (i := 6) (oi := ⟨some 18, .fieldAddr 145 (.tmp 17) 2, 0, "pack.go:292", #[⟨5, .data⟩], none⟩) rfl (by kernel_rfl) (by kernel_rfl) (by kernel_rfl) (fun _ _ _ h => h) (Or.inl ⟨by rfl, _⟩) (by assumption) _
  rotate_left
  · (intro wS hSw; (try dsimp only at hSw); go_simp; try with_reducible rfl)
  try simp only [Act.put, nA, nB, nC]
  refine' wpAnyH_take (i := 7) (oi := ⟨some 19, .load 3 (.tmp 18), 3, "pack.go:292", #[⟨6, .data⟩], none⟩) rfl (by kernel_rfl) (by kernel_rfl) (by kernel_rfl) (fun _ _ _ h => h) (Or.inl ⟨by rfl, _⟩) (by assumption) _
  rotate_left
  · (intro wS hSw; (try dsimp only at hSw); go_simp; try with_reducible rfl)
  try simp only [Act.put, nA, nB, nC]
  refine' wpAnyH_take (i := 8) (oi := ⟨some 20, .build 148 #[(0, .tmp 15), (1, .tmp 19)], 148, "pack.go:292", #[⟨3, .data⟩, ⟨7, .data⟩], none⟩) rfl (by kernel_rfl) (by kernel_rfl) (by kernel_rfl) (fun _ _ _ h => h) (Or.inl ⟨by rfl, _⟩) (by assumption) _
  rotate_left
  · (intro wS hSw; (try dsimp only at hSw); go_simp; try with_reducible rfl)
  try simp only [Act.put, nA, nB, nC]
  refine wpAnyH_ready (rs := [9]) (by kernel_rfl) (by simp) ?_
  refine AllReadyH.cons (o := ⟨some 21, .box 148 (.tmp 20), 114, "pack.go:292", #[⟨8, .data⟩], none⟩) rfl (fun K hK => ?_) AllReadyH.nil
  go_simp
  refine hK.out _ _ ?_ (fun hHeld => ?_)
  · exact ⟨cellB ((Below.refl _ _).alloc (Nat.le_refl _) _) hpz hHeld.1, cellB ((Below.refl _ _).alloc (Nat.le_refl _) _) hpz hHeld.2⟩
  clear hK K
  try simp only [Act.put, nA, nB, nC]
  refine' wpAnyH_take (i := 10) (oi := ⟨some 2, .assign (.tmp 21), 114, "pack.go:292", #[⟨9, .data⟩, ⟨0, .phase⟩, ⟨1, .phase⟩, ⟨2, .phase⟩, ⟨3, .phase⟩, ⟨4, .phase⟩, ⟨5, .phase⟩, ⟨6, .phase⟩, ⟨7, .phase⟩, ⟨8, .phase⟩, ⟨9, .phase⟩], none⟩) rfl (by kernel_rfl) (by kernel_rfl) (by kernel_rfl) (fun _ _ _ h => h) (Or.inl ⟨by rfl, _⟩) (by assumption) _
  rotate_left
  · (intro wS hSw; (try dsimp only at hSw); go_simp; try with_reducible rfl)
  try simp only [Act.put, nA, nB, nC]
  refine wpAnyH_done (by kernel_rfl) ?_ _
  go_wp2_with fail
  go_ret
  exact ⟨⟨_, rfl⟩, by rw [← HN.out]; exact ((Below.refl _ _).drew).alloc (Nat.le_refl _) _⟩
end Go.Proofs.Ytkngmnfgdlnddaa

namespace Go.Proofs.Ytkngmnfgdlnddaa
open Go.RowKit Go.Lib Hw
set_option linter.unusedVariables false

def nextOf (s : ByteArray) : Nat := told (piece s 0 4)
def cntOf (s : ByteArray) : Nat := told (piece s 4 4)
def numsOf (s : ByteArray) (n : Nat) : List Nat := (List.range n).map fun i => told (piece s (8 + 4 * i) 4)
theorem told4_lt (s : ByteArray) (o : Nat) : told (piece s o 4) < 4294967296 := by
  have h1 := told_lt (piece s o 4)
  have h2 : (piece s o 4).length ≤ 4 := by unfold piece; rw [List.length_take]; omega
  have h3 : 256 ^ (piece s o 4).length ≤ 256 ^ 4 := Nat.pow_le_pow_right (by decide) h2
  have h4 : (256 : Nat) ^ 4 = 4294967296 := by decide
  omega
theorem numsOf_len (s : ByteArray) (n : Nat) : (numsOf s n).length = n := by simp [numsOf]
theorem numsOf_all (s : ByteArray) (n : Nat) : All4 (numsOf s n) := fun x hx => by
  obtain ⟨i, _, rfl⟩ := List.mem_map.1 hx
  exact told4_lt s _
theorem numsOf_next (s : ByteArray) (k : Nat) : numsOf s (k + 1) = numsOf s k ++ [told (piece s (8 + 4 * k) 4)] := by simp [numsOf, List.range_succ]
/-- may it be read? -/
def fromB (a b : Int) (s : ByteArray) : Bool := mayB a b && (decide (8 ≤ s.size) && (decide (cntOf s * 4 = s.size - 8) && (bodyB a b (nextOf s) (numsOf s (cntOf s)) && decide (bodyS a b (nextOf s) (numsOf s (cntOf s)) = s))))
def FromPost (a b : Int) (s : ByteArray) (w : World) (e : Ending) (w' : World) : Prop :=
  (fromB a b s = true ∧ ∃ v, e = .returned (.tuple #[.int .u32 (nextOf s : Int), v, .int .i64 0]) ∧ OwnM w' w.heap.size v (numsOf s (cntOf s)) ∧ Below w.heap.size w w') ∨
  (fromB a b s = false ∧ e = .returned (.tuple #[.int .u32 0, .slice none 0 0, .int .i64 (if mayB a b = true then 90 else 2)]) ∧ Below w.heap.size w w')
set_option maxRecDepth 5000 in
set_option maxHeartbeats 8000000 in
theorem FromBody_any (a b : Int) (s : ByteArray) (w : World) (hs : s.size ≤ 140737488351232) :
    Calls Try.prog 26 #[.agg #[.int .i64 a, .int .i64 b], .string s] w (FromPost a b s w) := by
  obtain ⟨N, hN⟩ : ∃ N, w.heap.size = N := ⟨_, rfl⟩
  have HN := Lib.hid hN
  have HNo : Hid (∀ w', mayB a b = true → fromB a b s = false → Below N w w' → FromPost a b s w (.returned (.tuple #[.int .u32 0, .slice none 0 0, .int .i64 90])) w') := fun w' h1 h2 hb => .inr ⟨h2, by rw [if_pos h1], by rw [hN]; exact hb⟩
  have HArg : Hid (∀ w', mayB a b = false → Below N w w' → FromPost a b s w (.returned (.tuple #[.int .u32 0, .slice none 0 0, .int .i64 2])) w') := fun w' h1 hb => .inr ⟨by unfold fromB; rw [h1]; rfl, by rw [h1]; rfl, by rw [hN]; exact hb⟩
  have HOk : Hid (∀ w' v, fromB a b s = true → OwnM w' N v (numsOf s (cntOf s)) → Below N w w' → FromPost a b s w (.returned (.tuple #[.int .u32 (nextOf s : Int), v, .int .i64 0])) w') := fun w' v h1 ho hb => .inl ⟨h1, v, rfl, by rw [hN]; exact ho, by rw [hN]; exact hb⟩
  have HB : Hid (fromB a b s = (mayB a b && (decide (8 ≤ s.size) && (decide (cntOf s * 4 = s.size - 8) && (bodyB a b (nextOf s) (numsOf s (cntOf s)) && decide (bodyS a b (nextOf s) (numsOf s (cntOf s)) = s)))))) := rfl
  obtain ⟨R, hR⟩ : ∃ R, FromPost a b s w = R := ⟨_, rfl⟩
  rw [hR] at HNo HArg HOk ⊢
  obtain ⟨q1, hq1⟩ : ∃ q, mayB a b = q := ⟨_, rfl⟩
  have H1 := Lib.hid hq1
  clear hN hR hq1
  go_enter Try.func26, Try.ntmps26
  go_upto_region 0 with fail
  with_reducible refine wp_region_list ?_
  refine wpList_boxB rfl _ _ rfl N HN.out #[.int .i64 a, .int .i64 b] rfl ?_
  intro w0 e0 b0 z0
  (try simp only [Act.put, nA, nB, nC])
  (with_reducible refine wpList_plain rfl ?_); intro K hK; go_simp; (with_reducible refine hK _ _ ?_); clear hK K; try simp only [Act.put, nA, nB, nC]
  (with_reducible refine wpList_plain rfl ?_); intro K hK; go_simp; (with_reducible refine hK _ _ ?_); clear hK K; try simp only [Act.put, nA, nB, nC]
  (with_reducible refine wpList_plain rfl ?_); intro K hK; go_simp; (with_reducible refine hK _ _ ?_); clear hK K; try simp only [Act.put, nA, nB, nC]
  have E0 := Lib.hid e0
  have B0 := Lib.hid b0
  have Z0 := Lib.hid z0
  clear e0 b0 z0
  have k0 := heap_cell E0.out (o := 0)
  have k1 := heap_cell E0.out (o := 1)
  go_upto_region 1 with fail
  with_reducible refine wp_region_list ?_
  (with_reducible refine wpList_plain rfl ?_); intro K hK; go_simp; (with_reducible refine hK _ _ ?_); clear hK K; try simp only [Act.put, nA, nB, nC]
  with_reducible refine wpList_plain rfl ?_
  intro K hK
  go_simp
  refine (Right_any a b w0).mono ?_; rintro e w1 ⟨rfl, b1⟩; rw [H1.out]
  first | with_reducible refine hK _ _ ?_ | refine hK _ _ ?_
  clear hK K
  (try simp only [Act.put, nA, nB, nC])
  have E1 : Hid (w1.heap[N]? = some (.cells #[.int .i64 a, .int .i64 b] 23 (0, 0))) := heap_below E0.out b1 (heap_lt E0.out)
  have B1 := Lib.hid (B0.out.trans (b1.mono (by have := Z0.out; omega)))
  have hN1 : N < w1.heap.size := heap_lt E1.out
  clear b1 E0 B0 Z0 k0 k1
  (with_reducible refine wpList_plain rfl ?_); intro K hK; go_simp; (with_reducible refine hK _ _ ?_); clear hK K; try simp only [Act.put, nA, nB, nC]
  cases q1
  case false =>
    have hf := HArg.out w1 H1.out B1.out
    have Hf := Lib.hid hf
    clear hf
    go_wp2_with fail
    go_ret3
    exact Hf.out
  case true =>
    go_upto_region 3 with fail
    with_reducible refine wp_region_list ?_
    (with_reducible refine wpList_plain rfl ?_); intro K hK; go_simp; (with_reducible refine hK _ _ ?_); clear hK K; try simp only [Act.put, nA, nB, nC]
    with_reducible refine wpList_plain rfl ?_
    intro K hK
    go_simp
    refine (Open_any s w1).mono ?_; rintro e w2 ⟨rfl, hw2⟩
    first | with_reducible refine hK _ _ ?_ | refine hK _ _ ?_
    clear hK K
    (try simp only [Act.put, nA, nB, nC])
    obtain ⟨p, hp⟩ : ∃ p, w1.heap.size = p := ⟨_, rfl⟩
    have R2 : Hid (Rd w2 p p s 0) := by rw [← hp, ← hw2]; exact Rd.new w1 s
    have b2 : Below p w1 w2 := by rw [← hp, ← hw2]; exact (Below.refl _ _).alloc (Nat.le_refl _) _
    have z2 : w2.heap.size = p + 1 := by rw [← hw2, ← hp, World.size_alloc]
    have E2 : Hid (w2.heap[N]? = some (.cells #[.int .i64 a, .int .i64 b] 23 (0, 0))) := heap_below E1.out b2 (by omega)
    have B2 := Lib.hid (B1.out.trans (b2.mono (by omega)))
    have Z2 := Lib.hid z2
    have hNp : N < p := by omega
    rw [hp]
    clear hw2 hp b2 z2 E1 B1 hN1
    (with_reducible refine wpList_plain rfl ?_); intro K hK; go_simp; (with_reducible refine hK _ _ ?_); clear hK K; try simp only [Act.put, nA, nB, nC]
    go_upto_region 4 with fail
    with_reducible refine wp_region_list ?_
    (with_reducible refine wpList_plain rfl ?_); intro K hK; go_simp; (with_reducible refine hK _ _ ?_); clear hK K; try simp only [Act.put, nA, nB, nC]
    by_cases h4 : s.size < 4
    case pos =>
      with_reducible refine wpList_plain rfl ?_
      intro K hK
      go_simp
      refine (Take_short p p s 0 w2 R2.out (Nat.zero_le _) (by omega) (by omega)).mono ?_; rintro e w3 ⟨rfl, r3, m3⟩
      first | with_reducible refine hK _ _ ?_ | refine hK _ _ ?_
      clear hK K
      (try simp only [Act.put, nA, nB, nC])
      have R5 := Lib.hid r3
      have B3 := Lib.hid (B2.out.trans (m3.below (n := N) (fun k hk e => by omega) (by have := Z2.out; omega)))
      clear r3 m3 R2 B2
      (with_reducible refine wpList_plain rfl ?_); intro K hK; go_simp; (with_reducible refine hK _ _ ?_); clear hK K; try simp only [Act.put, nA, nB, nC]
      go_upto_region 5 with fail
      with_reducible refine wp_region_list ?_
      (with_reducible refine wpList_plain rfl ?_); intro K hK; go_simp; (with_reducible refine hK _ _ ?_); clear hK K; try simp only [Act.put, nA, nB, nC]
      with_reducible refine wpList_plain rfl ?_
      intro K hK
      go_simp
      refine (Take_dead p p w3 R5.out).mono ?_; rintro e w4 ⟨rfl, rfl⟩
      first | with_reducible refine hK _ _ ?_ | refine hK _ _ ?_
      clear hK K
      (try simp only [Act.put, nA, nB, nC])
      (with_reducible refine wpList_plain rfl ?_); intro K hK; go_simp; (with_reducible refine hK _ _ ?_); clear hK K; try simp only [Act.put, nA, nB, nC]
      go_upto_region 6 with fail
      with_reducible refine wp_region_list ?_
      (with_reducible refine wpList_plain rfl ?_); intro K hK; go_simp; (with_reducible refine hK _ _ ?_); clear hK K; try simp only [Act.put, nA, nB, nC]
      with_reducible refine wpList_plain rfl ?_
      intro K hK
      go_simp
      refine (Fault_bad p p w3 R5.out).mono ?_; rintro e w6 ⟨⟨g, rfl⟩, b6⟩
      first | with_reducible refine hK _ _ ?_ | refine hK _ _ ?_
      clear hK K
      (try simp only [Act.put, nA, nB, nC])
      have B6 := Lib.hid (B3.out.trans (b6.mono (by have := B3.out.size; have := HN.out; omega)))
      clear b6
      (with_reducible refine wpList_plain rfl ?_); intro K hK; go_simp; (with_reducible refine hK _ _ ?_); clear hK K; try simp only [Act.put, nA, nB, nC]
      (with_reducible refine wpList_plain rfl ?_); intro K hK; go_simp; (with_reducible refine hK _ _ ?_); clear hK K; try simp only [Act.put, nA, nB, nC]
      (with_reducible refine wpList_step ?_); intro K hK; rw [if_neg (Bool.eq_false_iff.1 (by rfl))]; (with_reducible refine hK _ _ ?_); clear hK K; try simp only [Act.put, nA, nB, nC]
      (with_reducible refine wpList_step ?_); intro K hK; rw [if_neg (Bool.eq_false_iff.1 (by rfl))]; (with_reducible refine hK _ _ ?_); clear hK K; try simp only [Act.put, nA, nB, nC]
      (with_reducible refine wpList_step ?_); intro K hK; rw [if_neg (Bool.eq_false_iff.1 (by rfl))]; (with_reducible refine hK _ _ ?_); clear hK K; try simp only [Act.put, nA, nB, nC]
      (with_reducible refine wpList_step ?_); intro K hK; rw [if_neg (Bool.eq_false_iff.1 (by rfl))]; (with_reducible refine hK _ _ ?_); clear hK K; try simp only [Act.put, nA, nB, nC]
      (with_reducible refine wpList_step ?_); intro K hK; rw [if_neg (Bool.eq_false_iff.1 (by rfl))]; (with_reducible refine hK _ _ ?_); clear hK K; try simp only [Act.put, nA, nB, nC]
      (with_reducible refine wpList_step ?_); intro K hK; rw [if_neg (Bool.eq_false_iff.1 (by rfl))]; (with_reducible refine hK _ _ ?_); clear hK K; try simp only [Act.put, nA, nB, nC]
      (with_reducible refine wpList_plain rfl ?_); intro K hK; go_simp; (with_reducible refine hK _ _ ?_); clear hK K; try simp only [Act.put, nA, nB, nC]
      have hf := HNo.out w6 H1.out (by rw [HB.out, H1.out, decide_eq_false (by omega)]; rfl) B6.out
      have Hf := Lib.hid hf
      clear hf
      go_wp2_with fail
      go_ret3
      exact Hf.out
    case neg =>
      with_reducible refine wpList_plain rfl ?_
      intro K hK
      go_simp
      refine (Take_m p p s 0 w2 R2.out (by omega) (by omega)).mono ?_; rintro e w3 ⟨rfl, r3, m3⟩
      first | with_reducible refine hK _ _ ?_ | refine hK _ _ ?_
      clear hK K
      (try simp only [Act.put, nA, nB, nC])
      have R3 := Lib.hid r3
      have E3 : Hid (w3.heap[N]? = some (.cells #[.int .i64 a, .int .i64 b] 23 (0, 0))) := m3.heap E2.out (by omega)
      have B3 := Lib.hid (B2.out.trans (m3.below (n := N) (fun k hk e => by omega) (by have := Z2.out; omega)))
      have hz3 : p + 1 ≤ w3.heap.size := by have := m3.size; have := Z2.out; omega
      obtain ⟨nx, hnx⟩ : ∃ n, told (piece s 0 4) = n := ⟨_, rfl⟩
      have hnx2 : nx < 4294967296 := by rw [← hnx]; exact told4_lt s 0
      have Hnx : Hid (nextOf s = nx) := hnx
      rw [hnx]
      clear r3 m3 R2 B2 hnx E2 Z2
      (with_reducible refine wpList_plain rfl ?_); intro K hK; go_simp; (with_reducible refine hK _ _ ?_); clear hK K; try simp only [Act.put, nA, nB, nC]
      go_upto_region 5 with fail
      with_reducible refine wp_region_list ?_
      (with_reducible refine wpList_plain rfl ?_); intro K hK; go_simp; (with_reducible refine hK _ _ ?_); clear hK K; try simp only [Act.put, nA, nB, nC]
      by_cases h8 : s.size < 8
      case pos =>
        with_reducible refine wpList_plain rfl ?_
        intro K hK
        go_simp
        refine (Take_short p p s 4 w3 R3.out (by omega) (by omega) (by omega)).mono ?_; rintro e w4 ⟨rfl, r4, m4⟩
        first | with_reducible refine hK _ _ ?_ | refine hK _ _ ?_
        clear hK K
        (try simp only [Act.put, nA, nB, nC])
        have R5 := Lib.hid r4
        have B4 := Lib.hid (B3.out.trans (m4.below (n := N) (fun k hk e => by omega) (by omega)))
        clear r4 m4 R3 B3
        (with_reducible refine wpList_plain rfl ?_); intro K hK; go_simp; (with_reducible refine hK _ _ ?_); clear hK K; try simp only [Act.put, nA, nB, nC]
        go_upto_region 6 with fail
        with_reducible refine wp_region_list ?_
        (with_reducible refine wpList_plain rfl ?_); intro K hK; go_simp; (with_reducible refine hK _ _ ?_); clear hK K; try simp only [Act.put, nA, nB, nC]
        with_reducible refine wpList_plain rfl ?_
        intro K hK
        go_simp
        refine (Fault_bad p p w4 R5.out).mono ?_; rintro e w6 ⟨⟨g, rfl⟩, b6⟩
        first | with_reducible refine hK _ _ ?_ | refine hK _ _ ?_
        clear hK K
        (try simp only [Act.put, nA, nB, nC])
        have B6 := Lib.hid (B4.out.trans (b6.mono (by have := B4.out.size; have := HN.out; omega)))
        clear b6
        (with_reducible refine wpList_plain rfl ?_); intro K hK; go_simp; (with_reducible refine hK _ _ ?_); clear hK K; try simp only [Act.put, nA, nB, nC]
        (with_reducible refine wpList_plain rfl ?_); intro K hK; go_simp; (with_reducible refine hK _ _ ?_); clear hK K; try simp only [Act.put, nA, nB, nC]
        (with_reducible refine wpList_step ?_); intro K hK; rw [if_neg (Bool.eq_false_iff.1 (by rfl))]; (with_reducible refine hK _ _ ?_); clear hK K; try simp only [Act.put, nA, nB, nC]
        (with_reducible refine wpList_step ?_); intro K hK; rw [if_neg (Bool.eq_false_iff.1 (by rfl))]; (with_reducible refine hK _ _ ?_); clear hK K; try simp only [Act.put, nA, nB, nC]
        (with_reducible refine wpList_step ?_); intro K hK; rw [if_neg (Bool.eq_false_iff.1 (by rfl))]; (with_reducible refine hK _ _ ?_); clear hK K; try simp only [Act.put, nA, nB, nC]
        (with_reducible refine wpList_step ?_); intro K hK; rw [if_neg (Bool.eq_false_iff.1 (by rfl))]; (with_reducible refine hK _ _ ?_); clear hK K; try simp only [Act.put, nA, nB, nC]
        (with_reducible refine wpList_step ?_); intro K hK; rw [if_neg (Bool.eq_false_iff.1 (by rfl))]; (with_reducible refine hK _ _ ?_); clear hK K; try simp only [Act.put, nA, nB, nC]
        (with_reducible refine wpList_step ?_); intro K hK; rw [if_neg (Bool.eq_false_iff.1 (by rfl))]; (with_reducible refine hK _ _ ?_); clear hK K; try simp only [Act.put, nA, nB, nC]
        (with_reducible refine wpList_plain rfl ?_); intro K hK; go_simp; (with_reducible refine hK _ _ ?_); clear hK K; try simp only [Act.put, nA, nB, nC]
        have hf := HNo.out w6 H1.out (by rw [HB.out, H1.out, decide_eq_false (by omega)]; rfl) B6.out
        have Hf := Lib.hid hf
        clear hf
        go_wp2_with fail
        go_ret3
        exact Hf.out
      case neg =>
        with_reducible refine wpList_plain rfl ?_
        intro K hK
        go_simp
        refine (Take_m p p s 4 w3 R3.out (by omega) (by omega)).mono ?_; rintro e w4 ⟨rfl, r4, m4⟩
        first | with_reducible refine hK _ _ ?_ | refine hK _ _ ?_
        clear hK K
        (try simp only [Act.put, nA, nB, nC])
        have R4 := Lib.hid r4
        have E4 : Hid (w4.heap[N]? = some (.cells #[.int .i64 a, .int .i64 b] 23 (0, 0))) := m4.heap E3.out (by omega)
        have B4 := Lib.hid (B3.out.trans (m4.below (n := N) (fun k hk e => by omega) (by omega)))
        have hz4 : p + 1 ≤ w4.heap.size := by have := m4.size; omega
        obtain ⟨n, hn⟩ : ∃ n, told (piece s 4 4) = n := ⟨_, rfl⟩
        have hn2 : n < 4294967296 := by rw [← hn]; exact told4_lt s 4
        have Hn : Hid (cntOf s = n) := hn
        rw [hn]
        clear r4 m4 R3 B3 hn E3
        (with_reducible refine wpList_plain rfl ?_); intro K hK; go_simp; (with_reducible refine hK _ _ ?_); clear hK K; try simp only [Act.put, nA, nB, nC]
        obtain ⟨n4, hn4⟩ : ∃ x, n * 4 = x := ⟨_, rfl⟩
        obtain ⟨lf, hlf⟩ : ∃ x, s.size - 8 = x := ⟨_, rfl⟩
        have v1 : IntKind.i64.wrap (n : Int) = (n : Int) := IntWalk.i64_in _ (by omega)
        have v2 : (n : Int) * 4 = (n4 : Int) := by omega
        have v3 : IntKind.i64.wrap (n4 : Int) = (n4 : Int) := IntWalk.i64_in _ (by omega)
        have Hn4 := Lib.hid hn4
        have Hlf := Lib.hid hlf
        clear hn4 hlf
        go_upto_region 6 with fail
        with_reducible refine wp_region_list ?_
        (with_reducible refine wpList_plain rfl ?_); intro K hK; go_simp; (with_reducible refine hK _ _ ?_); clear hK K; try simp only [Act.put, nA, nB, nC]
        with_reducible refine wpList_plain rfl ?_
        intro K hK
        go_simp
        refine (Fault_ok p p s 8 w4 R4.out).mono ?_; rintro e w5 ⟨rfl, rfl⟩
        first | with_reducible refine hK _ _ ?_ | refine hK _ _ ?_
        clear hK K
        (try simp only [Act.put, nA, nB, nC])
        (with_reducible refine wpList_plain rfl ?_); intro K hK; go_simp; (with_reducible refine hK _ _ ?_); clear hK K; try simp only [Act.put, nA, nB, nC]
        (with_reducible refine wpList_plain rfl ?_); intro K hK; go_simp; (with_reducible refine hK _ _ ?_); clear hK K; try simp only [Act.put, nA, nB, nC]
        (with_reducible refine wpList_step ?_); intro K hK; rw [if_pos (by rfl)]; go_simp; (with_reducible refine hK _ _ ?_); clear hK K; try simp only [Act.put, nA, nB, nC]
        (with_reducible refine wpList_step ?_); intro K hK; rw [if_pos (by rfl)]; go_simp; (with_reducible refine hK _ _ ?_); clear hK K; try simp only [Act.put, nA, nB, nC]
        (with_reducible refine wpList_step ?_); intro K hK; rw [if_pos (by rfl)]; go_simp; (with_reducible refine hK _ _ ?_); clear hK K; try simp only [Act.put, nA, nB, nC]
        (with_reducible refine wpList_step ?_); intro K hK; rw [if_pos (by rfl)]; go_simp; (with_reducible refine hK _ _ ?_); clear hK K; try simp only [Act.put, nA, nB, nC]
        with_reducible refine wpList_step ?_
        intro K hK
        rw [if_pos (by rfl)]
        go_simp
        refine (Left_any p p s 8 w4 R4.out (by omega) (by omega)).mono ?_; rintro e w5 ⟨rfl, rfl⟩; rw [Hlf.out]
        first | with_reducible refine hK _ _ ?_ | refine hK _ _ ?_
        clear hK K
        (try simp only [Act.put, nA, nB, nC])
        by_cases heq : n4 = lf
        case neg =>
          have e1 : ((n4 : Int) != (lf : Int)) = true := by simp; omega
          have e2 : (n4 != lf) = true := by simp [heq]
          (with_reducible refine wpList_step ?_); intro K hK; rw [if_pos (by rfl)]; go_simp; (with_reducible refine hK _ _ ?_); clear hK K; try simp only [Act.put, nA, nB, nC]
          (with_reducible refine wpList_plain rfl ?_); intro K hK; go_simp; (with_reducible refine hK _ _ ?_); clear hK K; try simp only [Act.put, nA, nB, nC]
          have hf := HNo.out w4.drew H1.out (by rw [HB.out, H1.out, Hn.out, Hn4.out, Hlf.out, decide_eq_false heq]; simp) B4.out.drew
          have Hf := Lib.hid hf
          clear hf
          go_wp2_with fail
          go_ret3
          exact Hf.out
        case pos =>
          subst heq
          have e1 : ((n4 : Int) != (n4 : Int)) = false := by simp
          have e2 : (n4 != n4) = false := by simp
          (with_reducible refine wpList_step ?_); intro K hK; rw [if_pos (by rfl)]; go_simp; (with_reducible refine hK _ _ ?_); clear hK K; try simp only [Act.put, nA, nB, nC]
          (with_reducible refine wpList_plain rfl ?_); intro K hK; go_simp; (with_reducible refine hK _ _ ?_); clear hK K; try simp only [Act.put, nA, nB, nC]
          clear e1 e2 v1 v2 v3
          have hsz : n * 4 + 8 = s.size := by have := Hn4.out; have := Hlf.out; omega
          have Hsz := Lib.hid hsz
          clear hsz
          have R5 : Hid (Rd w4.drew p p s 8) := R4.out
          have B5 := Lib.hid B4.out.drew
          go_upto_region 10 with fail
          go_loopw [10, 34] (fun lv iv wr => ∃ (k : Nat), k ≤ n ∧ Hid (OwnM wr (p + 1) lv (numsOf s k)) ∧ Hid (Rd wr p p s (8 + 4 * k)) ∧ Hid (Below p w4 wr) ∧ Hid (p + 1 ≤ wr.heap.size) ∧ iv = .int .u32 (k : Int)) (fun _ iv _ => n - (intOf iv).toNat)
          case atStart => exact ⟨0, Nat.zero_le _, OwnM.nil _ _, R5, (Below.refl _ _).drew, by show _ ≤ _; exact hz4, rfl⟩
          case round =>
            obtain ⟨k, hk, Ok, Rk, Bk, Zk, rfl⟩ := hrel
            obtain ⟨lad, lcap, hlv, _⟩ := Ok.out.shape
            rw [numsOf_len] at hlv
            subst hlv
            by_cases hlt : k < n
            case pos =>
              have dk : decide (k < n) = true := decide_eq_true hlt
              have dk2 : decide ((k : Int) < (n : Int)) = true := decide_eq_true (by omega)
              have wk : IntKind.u32.wrap ((k : Int) + 1) = (k : Int) + 1 := IntWalk.u32_in _ (by omega)
              have hx2 := numsOf_next s k
              obtain ⟨x, hx⟩ : ∃ x, told (piece s (8 + 4 * k) 4) = x := ⟨_, rfl⟩
              rw [hx] at hx2
              have Hx := Lib.hid hx
              have Hx2 := Lib.hid hx2
              clear hx hx2
              go_upto_region 11 with fail
              clear dk dk2
              with_reducible refine wp_region_list ?_
              (with_reducible refine wpList_plain rfl ?_); intro K hK; go_simp; (with_reducible refine hK _ _ ?_); clear hK K; try simp only [Act.put, nA, nB, nC]
              (with_reducible refine wpList_plain rfl ?_); intro K hK; go_simp; (with_reducible refine hK _ _ ?_); clear hK K; try simp only [Act.put, nA, nB, nC]
              with_reducible refine wpList_plain rfl ?_
              intro K hK
              go_simp
              refine (Take_m p p s (8 + 4 * k) wr Rk.out (by have := Hsz.out; omega) (by omega)).mono ?_; rintro e w6 ⟨rfl, r6, m6⟩; rw [Hx.out]
              first | with_reducible refine hK _ _ ?_ | refine hK _ _ ?_
              clear hK K
              (try simp only [Act.put, nA, nB, nC])
              have O6 := Lib.hid (Ok.out.mod m6 (fun g hg e => by have := (Ok.out.lt g hg).1; omega))
              have R6 := Lib.hid r6
              have B6 := Lib.hid (Bk.out.trans (m6.below (n := p) (fun k hk e => by omega) (by have := Zk.out; omega)))
              have hz6 : p + 1 ≤ w6.heap.size := by have := m6.size; have := Zk.out; omega
              clear r6 m6 Ok Rk Bk Zk
              (with_reducible refine wpList_plain rfl ?_); intro K hK; go_simp; (with_reducible refine hK _ _ ?_); clear hK K; try simp only [Act.put, nA, nB, nC]
              refine wpList_appM w6 27 x rfl _ _ rfl (p + 1) (.slice lad k lcap) (numsOf s k) rfl O6.out _ rfl (by rw [numsOf_len]; have := Hsz.out; omega) hz6 ?_
              intro v7 w7 o7 m7 n7
              (try simp only [Act.put, nA, nB, nC])
              have O7 : Hid (OwnM w7 (p + 1) v7 (numsOf s (k + 1))) := by show OwnM _ _ _ _; rw [Hx2.out]; exact o7
              have R7 : Hid (Rd w7 p p s (8 + 4 * (k + 1))) := ⟨R6.out.1, m7.heap R6.out.2 (fun e => by have := (O6.out.lt p e).1; omega)⟩
              have B7 := Lib.hid (B6.out.trans (m7.below (n := p) (fun k hk e => by have := (O6.out.lt k e).1; omega) (by omega)))
              have Z7 : Hid (p + 1 ≤ w7.heap.size) := by show _ ≤ _; have := m7.size; omega
              clear o7 m7 n7 O6 R6 B6
              (with_reducible refine wpList_plain rfl ?_); intro K hK; go_simp; (with_reducible refine hK _ _ ?_); clear hK K; try simp only [Act.put, nA, nB, nC]
              go_wp2_with fail
              exact ⟨⟨k + 1, by omega, O7, R7, B7, Z7, by go_num⟩, by simp [intOf]; omega⟩
            case neg =>
              have dk : decide (k < n) = false := decide_eq_false hlt
              have dk2 : decide ((k : Int) < (n : Int)) = false := decide_eq_false (by omega)
              obtain rfl : k = n := by omega
              have E5 : Hid (wr.heap[N]? = some (.cells #[.int .i64 a, .int .i64 b] 23 (0, 0))) := heap_below E4.out Bk.out hNp
              have B9 := Lib.hid (B4.out.trans (Bk.out.mono (by omega)))
              have k0 := heap_cell E5.out (o := 0)
              have k1 := heap_cell E5.out (o := 1)
              have UR := Lib.hid (Ok.out.row (numsOf_all s k))
              obtain ⟨BS, hBS⟩ : ∃ x, bodyS a b nx (numsOf s k) = x := ⟨_, rfl⟩
              obtain ⟨q2, hq2⟩ : ∃ q, bodyB a b nx (numsOf s k) = q := ⟨_, rfl⟩
              have HBS := Lib.hid hBS
              have H2 := Lib.hid hq2
              clear hBS hq2
              go_upto_region 13 with fail
              clear dk dk2
              with_reducible refine wp_region_list ?_
              (with_reducible refine wpList_plain rfl ?_); intro K hK; go_simp; (with_reducible refine hK _ _ ?_); clear hK K; try simp only [Act.put, nA, nB, nC]
              (with_reducible refine wpList_plain rfl ?_); intro K hK; go_simp; (with_reducible refine hK _ _ ?_); clear hK K; try simp only [Act.put, nA, nB, nC]
              (with_reducible refine wpList_plain rfl ?_); intro K hK; go_simp; (with_reducible refine hK _ _ ?_); clear hK K; try simp only [Act.put, nA, nB, nC]
              with_reducible refine wpList_plain rfl ?_
              intro K hK
              go_simp
              refine (Body_any a b nx _ (numsOf s k) wr hnx2 UR).mono ?_; rintro e w8 ⟨rfl, b8⟩; rw [HBS.out]
              first | with_reducible refine hK _ _ ?_ | refine hK _ _ ?_
              clear hK K
              (try simp only [Act.put, nA, nB, nC])
              have O8 := Lib.hid ((Ok.out.below b8 (fun g hg => (Ok.out.lt g hg).2)).mono (C := N) (by omega))
              have B8 := Lib.hid (B9.out.trans (b8.mono (by have := B9.out.size; have := HN.out; omega)))
              clear b8 Ok Rk Bk Zk E5 B9 k0 k1 UR
              cases q2
              case false =>
                have hE : bodyE a b nx (numsOf s k) = 2 := (body_no H2.out).2
                rw [hE]
                clear hE
                (with_reducible refine wpList_plain rfl ?_); intro K hK; go_simp; (with_reducible refine hK _ _ ?_); clear hK K; try simp only [Act.put, nA, nB, nC]
                (with_reducible refine wpList_plain rfl ?_); intro K hK; go_simp; (with_reducible refine hK _ _ ?_); clear hK K; try simp only [Act.put, nA, nB, nC]
                (with_reducible refine wpList_plain rfl ?_); intro K hK; go_simp; (with_reducible refine hK _ _ ?_); clear hK K; try simp only [Act.put, nA, nB, nC]
                (with_reducible refine wpList_plain rfl ?_); intro K hK; go_simp; (with_reducible refine hK _ _ ?_); clear hK K; try simp only [Act.put, nA, nB, nC]
                (with_reducible refine wpList_plain rfl ?_); intro K hK; go_simp; (with_reducible refine hK _ _ ?_); clear hK K; try simp only [Act.put, nA, nB, nC]
                have hf := HNo.out w8 H1.out (by rw [HB.out, H1.out, Hn.out, Hnx.out, H2.out]; simp) B8.out
                have Hf := Lib.hid hf
                clear hf
                go_wp2_with fail
                go_ret3
                exact Hf.out
              case true =>
                have hE : bodyE a b nx (numsOf s k) = 0 := (body_yes H2.out).2
                rw [hE]
                clear hE
                (with_reducible refine wpList_plain rfl ?_); intro K hK; go_simp; (with_reducible refine hK _ _ ?_); clear hK K; try simp only [Act.put, nA, nB, nC]
                (with_reducible refine wpList_plain rfl ?_); intro K hK; go_simp; (with_reducible refine hK _ _ ?_); clear hK K; try simp only [Act.put, nA, nB, nC]
                (with_reducible refine wpList_plain rfl ?_); intro K hK; go_simp; (with_reducible refine hK _ _ ?_); clear hK K; try simp only [Act.put, nA, nB, nC]
                (with_reducible refine wpList_plain rfl ?_); intro K hK; go_simp; (with_reducible refine hK _ _ ?_); clear hK K; try simp only [Act.put, nA, nB, nC]
                (with_reducible refine wpList_plain rfl ?_); intro K hK; go_simp; (with_reducible refine hK _ _ ?_); clear hK K; try simp only [Act.put, nA, nB, nC]
                by_cases hbs : BS = s
                case pos =>
                  subst hbs
                  have hf := HOk.out w8 (.slice lad k lcap) (by rw [HB.out, H1.out, Hn.out, Hnx.out, H2.out, HBS.out, decide_eq_true (by omega), decide_eq_true (by have := Hsz.out; omega)]; simp) (by rw [Hn.out]; exact O8.out) B8.out
                  rw [Hnx.out] at hf
                  have Hf := Lib.hid hf
                  clear hf
                  have e1 : (BS.toList == BS.toList) = true := by simp
                  go_wp2_with fail
                  go_ret3
                  exact Hf.out
                case neg =>
                  have hf := HNo.out w8 H1.out (by rw [HB.out, H1.out, Hn.out, Hnx.out, H2.out, HBS.out, decide_eq_false hbs]; simp) B8.out
                  have Hf := Lib.hid hf
                  have e1 : (BS.toList == s.toList) = false := by
                    rw [Bool.eq_false_iff]
                    intro h
                    apply hbs
                    have h2 := eq_of_beq h
                    rw [ByteArray.toList_eq, ByteArray.toList_eq] at h2
                    exact ByteArray.ext (Array.toList_inj.1 h2)
                  clear hf hbs
                  go_wp2_with fail
                  go_ret3
                  exact Hf.out
end Go.Proofs.Ytkngmnfgdlnddaa

namespace Go.Proofs.Ytkngmnfgdlnddaa
open Go.RowKit Go.Lib Hw Go.Maps
set_option linter.unusedSimpArgs false
set_option linter.unusedVariables false

/-- a map that tells a set of numbers -/
def SetM (w : World) (b n : Nat) (m : Nat → Bool) : Prop :=
  ∃ D : DataW Unit, w.ownsMap Try.prog 27 (plainElem Try.prog 3) b n D ∧ IsMap D ∧ ∀ x : Nat, x < 4294967296 → has D (.int .u32 (x : Int)) = m x
theorem keyed_u : Keyed Try.prog 27 := int_keyed Try.underlying27
theorem key_u (x : Nat) (hx : x < 4294967296) : keyOf Try.prog 27 (.int .u32 (x : Int)) = some (.int .u32 (x : Int)) := keyOf_int_mk Try.underlying27 (by simp [Lit.wf, IntKind.min, IntKind.max, IntKind.signed, IntKind.bits]; omega)
theorem zero_i (w : World) : (zeroValue 3).run Try.prog w = .ok (.int .i64 0) w := by kernel_rfl
theorem lit_ne {z y : Nat} (h : ¬ z = y) : (Lit.int .u32 (z : Int)) ≠ Lit.int .u32 (y : Int) := fun e => h (by injection e with _ e3; omega)
theorem SetM.made (w : World) : SetM (w.alloc (.map #[] 0)) w.heap.size 0 (fun _ => false) :=
  ⟨.map [], World.ownsMap_made w _ _ _, isMap_empty, fun x hx => rfl⟩
theorem SetM.lt {w : World} {b n : Nat} {m : Nat → Bool} (h : SetM w b n m) : b < w.heap.size := by
  obtain ⟨D, h1, _⟩ := h
  exact h1.lt
theorem SetM.heap {w w' : World} {b n : Nat} {m : Nat → Bool} (h : SetM w b n m) (e : w'.heap[b]? = w.heap[b]?) : SetM w' b n m := by
  obtain ⟨D, ⟨es, clock, hb, r⟩, h2⟩ := h
  exact ⟨D, ⟨es, clock, e.trans hb, r⟩, h2⟩
theorem SetM.mod {w w' : World} {S : Nat → Prop} {b n : Nat} {m : Nat → Bool} (h : SetM w b n m) (hm : Mod S w w') (hS : ¬ S b) : SetM w' b n m := h.heap (hm.block b h.lt hS)
theorem SetM.mono {w : World} {b n n' : Nat} {m : Nat → Bool} (h : SetM w b n m) (hn : n ≤ n') : SetM w b n' m := by
  obtain ⟨D, h1, h2⟩ := h
  exact ⟨D, h1.mono hn, h2⟩
/-- v, ok := m[x] -/
theorem wpList_lookM {ops : Array Oper} {rest : List Oper} {o : Oper} {a : Act} {w : World} {Q : Exit → Act → World → Prop} (hg : o.guard = none) (p x : Operand) (hop : o.op = Op.lookup 60 p x true) {b n : Nat} {m : Nat → Bool} (h : SetM w b n m) (hm : a.eval p = .map (some b)) (y : Nat) (hy : y < 4294967296) (hx : a.eval x = .int .u32 (y : Int))
    (hK : ∀ c : Int, wpList Try.prog ops Q rest (a.put o.dst (.tuple #[.int .i64 c, .bool (m y)])) w) : wpList Try.prog ops Q (o :: rest) a w := by
  obtain ⟨D, h1, h2, h3⟩ := h
  refine wpList_lookup_own_ok_int w hg p x 60 hop 27 3 .i64 keyed_u Try.underlying60 Try.underlying3 (zero_i w) b n D hm h1 _ _ hx (key_u y hy) (fun c _ _ => ?_)
  rw [h3 y hy]
  exact hK c
/-- m[x] = 1 -/
theorem wpList_putM {ops : Array Oper} {rest : List Oper} {o : Oper} {a : Act} {w : World} {Q : Exit → Act → World → Prop} (hg : o.guard = none) (p x v : Operand) (hop : o.op = Op.mapUpdate 60 p x v) {b n : Nat} {m : Nat → Bool} (h : SetM w b n m) (hn : n < 9223372036854775807) (hm : a.eval p = .map (some b)) (y : Nat) (hy : y < 4294967296) (hx : a.eval x = .int .u32 (y : Int)) (hv : a.eval v = .int .i64 1)
    (hK : ∀ w', SetM w' b (n + 1) (fun z => decide (z = y) || m z) → Mod (fun k => k = b) w w' → wpList Try.prog ops Q rest (a.put o.dst undef) w') : wpList Try.prog ops Q (o :: rest) a w := by
  obtain ⟨D, h1, h2, h3⟩ := h
  refine wpList_mapUpdate_own w hg p x v 60 hop 27 3 keyed_u Try.underlying60 _ b n D hm h1 (by unfold maxLen; omega) _ _ _ hx hv (key_u y hy) _ [] (plainElem_int Try.underlying3 (by decide)) (fun w' r1 r2 => ?_)
  refine hK w' ⟨_, r1, h2.put _ _, fun z hz => ?_⟩ (Mod.grown r2 (fun k e => (Option.some.inj e).symm))
  show _ = (decide (z = y) || m z)
  by_cases e : z = y
  · subst e
    rw [decide_eq_true rfl, Bool.true_or]
    exact has_put_same h2 (keyed_u.key (key_u z hz)) _
  · rw [decide_eq_false e, Bool.false_or, ← h3 z hz]
    exact has_put_other (lit_ne e) _
/-- m[x] is no more -/
theorem wpList_delM {ops : Array Oper} {rest : List Oper} {o : Oper} {a : Act} {w : World} {Q : Exit → Act → World → Prop} (hg : o.guard = none) (p x : Operand) (hop : o.op = Op.call { callee := Callee.builtin Builtin.delete, args := #[p, x], argTypes := #[60, 27] }) {b n : Nat} {m : Nat → Bool} (h : SetM w b n m) (hm : a.eval p = .map (some b)) (y : Nat) (hy : y < 4294967296) (hx : a.eval x = .int .u32 (y : Int))
    (hK : ∀ w', SetM w' b n (fun z => !decide (z = y) && m z) → w.mapTurned w' b → wpList Try.prog ops Q rest (a.put o.dst (.tuple #[])) w') : wpList Try.prog ops Q (o :: rest) a w := by
  obtain ⟨D, h1, h2, h3⟩ := h
  refine wpList_delete_own w hg p x 60 27 hop 3 keyed_u Try.underlying60 _ b n D hm h1 _ _ hx (key_u y hy) (fun w' r1 r2 => ?_)
  refine hK w' ⟨_, r1, h2.del _, fun z hz => ?_⟩ r2
  show _ = (!decide (z = y) && m z)
  by_cases e : z = y
  · subst e
    rw [decide_eq_true rfl]
    exact has_del_same
  · rw [decide_eq_false e, ← h3 z hz]
    exact has_del_other (lit_ne e)
/-- what seen's closure tells -/
def freshB (m : Nat → Bool) (pages no : Nat) : Bool := (!m no) && (decide (2 ≤ no) && decide (no < pages))
set_option maxHeartbeats 1000000 in
theorem put_any (w : World) (b mb pb n : Nat) (m : Nat → Bool) (pages no : Nat) (h : Hid (SetM w b n m)) (hn : n < 9223372036854775807) (hno : no < 4294967296) (hmb : Hid (w.heap[mb]? = some (.cells #[.map (some b)] 60 (0, 0)))) (hpb : Hid (w.heap[pb]? = some (.cells #[.int .u32 (pages : Int)] 27 (0, 0)))) (hne : b ≠ pb) :
    Calls Try.prog 86 #[.int .u32 (no : Int), .pointer (some ⟨mb, 0, none⟩), .pointer (some ⟨pb, 0, none⟩)] w fun e w' => e = .returned (.bool (freshB m pages no)) ∧ SetM w' b (n + 1) (fun z => decide (z = no) || m z) ∧ Mod (fun k => k = b) w w' := by
  have c0 := heap_cell hmb.out (o := 0)
  obtain ⟨q, hq⟩ : ∃ q, m no = q := ⟨_, rfl⟩
  have HQ := Lib.hid hq
  have HF : Hid (freshB m pages no = ((!q) && (decide (2 ≤ no) && decide (no < pages)))) := by show _ = _; unfold freshB; rw [hq]
  clear hq
  go_enter Try.func86, Try.ntmps86
  go_upto_region 1 with fail
  with_reducible refine wp_region_list ?_
  (with_reducible refine wpList_plain rfl ?_); intro K hK; go_simp; (with_reducible refine hK _ _ ?_); clear hK K; try simp only [Act.put, nA, nB, nC]
  (with_reducible refine wpList_plain rfl ?_); intro K hK; go_simp; (with_reducible refine hK _ _ ?_); clear hK K; try simp only [Act.put, nA, nB, nC]
  refine wpList_lookM rfl _ _ rfl h.out rfl no hno rfl (fun c => ?_)
  rw [HQ.out]
  (try simp only [Act.put, nA, nB, nC])
  (with_reducible refine wpList_plain rfl ?_); intro K hK; go_simp; (with_reducible refine hK _ _ ?_); clear hK K; try simp only [Act.put, nA, nB, nC]
  (with_reducible refine wpList_plain rfl ?_); intro K hK; go_simp; (with_reducible refine hK _ _ ?_); clear hK K; try simp only [Act.put, nA, nB, nC]
  (with_reducible refine wpList_plain rfl ?_); intro K hK; go_simp; (with_reducible refine hK _ _ ?_); clear hK K; try simp only [Act.put, nA, nB, nC]
  (with_reducible refine wpList_plain rfl ?_); intro K hK; go_simp; (with_reducible refine hK _ _ ?_); clear hK K; try simp only [Act.put, nA, nB, nC]
  (with_reducible refine wpList_plain rfl ?_); intro K hK; go_simp; (with_reducible refine hK _ _ ?_); clear hK K; try simp only [Act.put, nA, nB, nC]
  go_upto_region 2 with fail
  with_reducible refine wp_region_list ?_
  (with_reducible refine wpList_plain rfl ?_); intro K hK; go_simp; (with_reducible refine hK _ _ ?_); clear hK K; try simp only [Act.put, nA, nB, nC]
  (with_reducible refine wpList_plain rfl ?_); intro K hK; go_simp; (with_reducible refine hK _ _ ?_); clear hK K; try simp only [Act.put, nA, nB, nC]
  refine wpList_putM rfl _ _ _ rfl h.out hn rfl no hno rfl rfl (fun w2 h2 m2 => ?_)
  (try simp only [Act.put, nA, nB, nC])
  have H2 := Lib.hid h2
  have M2 := Lib.hid m2
  have PB2 : Hid (w2.heap[pb]? = some (.cells #[.int .u32 (pages : Int)] 27 (0, 0))) := m2.heap hpb.out (fun e => hne e.symm)
  clear h2 m2 c0
  have cp := heap_cell PB2.out (o := 0)
  cases q
  case true =>
    go_wp2_with fail
    go_ret
    exact ⟨by rw [HF.out]; rfl, H2.out, M2.out⟩
  case false =>
    by_cases h1 : 2 ≤ no
    case neg =>
      have d1 : decide (2 ≤ no) = false := decide_eq_false h1
      have d2 : decide ((2 : Int) ≤ (no : Int)) = false := decide_eq_false (by omega)
      go_wp2_with fail
      go_ret
      exact ⟨by rw [HF.out, d1]; rfl, H2.out, M2.out⟩
    case pos =>
      have d1 : decide (2 ≤ no) = true := decide_eq_true h1
      have d2 : decide ((2 : Int) ≤ (no : Int)) = true := decide_eq_true (by omega)
      by_cases h3 : no < pages
      · have d3 : decide (no < pages) = true := decide_eq_true h3
        have d4 : decide ((no : Int) < (pages : Int)) = true := decide_eq_true (by omega)
        go_wp2_with fail
        go_ret
        exact ⟨by rw [HF.out, d1, d3]; rfl, H2.out, M2.out⟩
      · have d3 : decide (no < pages) = false := decide_eq_false h3
        have d4 : decide ((no : Int) < (pages : Int)) = false := decide_eq_false (by omega)
        go_wp2_with fail
        go_ret
        exact ⟨by rw [HF.out, d1, d3]; rfl, H2.out, M2.out⟩
end Go.Proofs.Ytkngmnfgdlnddaa

