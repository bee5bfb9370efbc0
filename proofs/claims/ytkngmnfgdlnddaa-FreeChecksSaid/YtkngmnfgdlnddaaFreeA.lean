/-
  The walks of slices.Index and Contains over ints, node.Right, free.Entries; the reference's MayFrame and Entries.
-/
import Derived.Test.YtkngmnfgdlnddaaPageW1
import Derived.Test.YtkngmnfgdlnddaaNumU
namespace Go.Proofs.Ytkngmnfgdlnddaa
open Go.RowKit Go.Lib Hw
set_option linter.unusedSimpArgs false
set_option linter.unusedVariables false

/-- a row of ints that can be read -/
def IRow (w : World) (v : Value) (xs : List Int) : Prop := ∃ b c, v = .slice (some ⟨b, 0, none⟩) xs.length c ∧ xs.length ≤ 9223372036854775807 ∧ ∀ i (h : i < xs.length), w.cell? ⟨b, i, none⟩ = some (.int .i64 xs[i])
def IdxPost (xs : List Int) (x : Int) (w : World) (e : Ending) (w' : World) : Prop := (∃ r : Int, e = .returned (.int .i64 r) ∧ decide (0 ≤ r) = xs.contains x) ∧ w = w'
set_option maxHeartbeats 1000000 in
theorem Index_int (v : Value) (xs : List Int) (x : Int) (w : World) (hv : Hid (IRow w v xs)) :
    Calls Try.prog 93 #[v, .int .i64 x] w (IdxPost xs x w) := by
  obtain ⟨b, c, hv1, hl, hc⟩ := hv.out
  subst hv1
  have HC := Lib.hid hc
  have HY : Hid (∀ k (h : k < xs.length), xs[k] = x → IdxPost xs x w (.returned (.int .i64 (k : Int))) w) := fun k h e => ⟨⟨_, rfl, by
    rw [decide_eq_true (by omega), eq_comm, List.contains_iff_mem]
    rw [← e]; exact List.getElem_mem h⟩, rfl⟩
  have HZ : Hid ((∀ k (h : k < xs.length), xs[k] ≠ x) → IdxPost xs x w (.returned (.int .i64 (-1))) w) := fun h => ⟨⟨_, rfl, by
    rw [decide_eq_false (by omega), eq_comm]
    refine Bool.eq_false_iff.2 (fun hc => ?_)
    obtain ⟨k, hk, e⟩ := List.mem_iff_getElem.1 (List.contains_iff_mem.1 hc)
    exact h k hk e⟩, rfl⟩
  obtain ⟨R, hR⟩ : ∃ R, IdxPost xs x w = R := ⟨_, rfl⟩
  rw [hR] at HY HZ ⊢
  clear hc hR
  go_enter Try.func93, Try.ntmps93
  go_upto_region 2 with fail
  go_loopw [8] (fun i wr => ∃ (k : Nat), k ≤ xs.length ∧ Hid (∀ j (h : j < xs.length), j < k → xs[j] ≠ x) ∧ wr = w ∧ i = .int .i64 (k : Int)) (fun i _ => xs.length - (intOf i).toNat)
  case atStart => exact ⟨0, Nat.zero_le _, fun j _ h => by omega, by first | rfl | trivial, rfl⟩
  case round =>
    obtain ⟨k, hk, HN, rfl, rfl⟩ := hrel
    by_cases hlt : k < xs.length
    case pos =>
      have dk : decide (k < xs.length) = true := decide_eq_true hlt
      have dk2 : decide ((k : Int) < (xs.length : Int)) = true := decide_eq_true (by omega)
      have ik : (k : Int) < (xs.length : Int) := by omega
      have hc := HC.out k hlt
      have hy := HY.out k hlt
      obtain ⟨y, hy1⟩ : ∃ y, xs[k] = y := ⟨_, rfl⟩
      rw [hy1] at hc hy
      have Hy := Lib.hid hy1
      have HY2 := Lib.hid hy
      clear hy1 hy
      by_cases hxy : x = y
      case pos =>
        have e1 : (x == y) = true := by simp [hxy]
        have hf := HY2.out hxy.symm
        have Hf := Lib.hid hf
        clear hf hxy
        go_wp2_with fail
        exact Hf.out
      case neg =>
        have e1 : (x == y) = false := by simp [hxy]
        have HN2 : Hid (∀ j (h : j < xs.length), j < k + 1 → xs[j] ≠ x) := fun j h hj => by
          by_cases e : j = k
          · subst e; rw [Hy.out]; exact fun e => hxy e.symm
          · exact HN.out j h (by omega)
        clear hxy HN
        go_wp2_with fail
        exact ⟨⟨k + 1, by omega, HN2, by first | rfl | trivial, by go_num⟩, by simp [intOf]; omega⟩
    case neg =>
      have dk : decide (k < xs.length) = false := decide_eq_false hlt
      have dk2 : decide ((k : Int) < (xs.length : Int)) = false := decide_eq_false (by omega)
      have hf := HZ.out (fun j h => HN.out j h (by omega))
      have Hf := Lib.hid hf
      clear hf
      go_wp2_with fail
      exact Hf.out
theorem Contains_int (v : Value) (xs : List Int) (x : Int) (w : World) (hv : Hid (IRow w v xs)) :
    Calls Try.prog 78 #[v, .int .i64 x] w fun e w' => e = .returned (.bool (xs.contains x)) ∧ w = w' := by
  obtain ⟨b, c, hv1, _, _⟩ := hv.out
  subst hv1
  obtain ⟨q, hq⟩ : ∃ q, xs.contains x = q := ⟨_, rfl⟩
  have HQ := Lib.hid hq
  rw [hq]
  clear hq
  go_enter Try.func78, Try.ntmps78
  go_upto_region 1 with fail
  with_reducible refine wp_region_list ?_
  with_reducible refine wpList_plain rfl ?_
  intro K hK
  go_simp
  first | with_reducible refine hK _ _ ?_ | refine hK _ _ ?_
  clear hK K
  (try simp only [Act.put, List.setIfInBounds_toArray, List.set_cons_zero, List.set_cons_succ])
  with_reducible refine wpList_plain rfl ?_
  intro K hK
  go_simp
  first | with_reducible refine hK _ _ ?_ | refine hK _ _ ?_
  clear hK K
  (try simp only [Act.put, List.setIfInBounds_toArray, List.set_cons_zero, List.set_cons_succ])
  with_reducible refine wpList_plain rfl ?_
  intro K hK
  go_simp
  refine (Index_int _ xs x w hv).mono ?_; rintro e w2 ⟨⟨r, rfl, hr⟩, rfl⟩; rw [HQ.out] at hr
  first | with_reducible refine hK _ _ ?_ | refine hK _ _ ?_
  clear hK K
  (try simp only [Act.put, List.setIfInBounds_toArray, List.set_cons_zero, List.set_cons_succ])
  have Hr := Lib.hid hr
  clear hr
  with_reducible refine wpList_plain rfl ?_
  intro K hK
  go_simp
  first | with_reducible refine hK _ _ ?_ | refine hK _ _ ?_
  clear hK K
  (try simp only [Act.put, List.setIfInBounds_toArray, List.set_cons_zero, List.set_cons_succ])
  with_reducible refine wpList_plain rfl ?_
  intro K hK
  go_simp
  first | with_reducible refine hK _ _ ?_ | refine hK _ _ ?_
  clear hK K
  (try simp only [Act.put, List.setIfInBounds_toArray, List.set_cons_zero, List.set_cons_succ])
  go_wp2_with fail
  go_ret
  exact ⟨by rw [← Hr.out]; rfl, rfl⟩
def pages4 : List Int := [1024, 2048, 4096, 8192]
theorem pages4_b (a : Int) : pages4.contains a = (a == 1024 || a == 2048 || a == 4096 || a == 8192) := by
  simp only [pages4, List.contains_cons, List.contains_nil, Bool.or_false, Bool.or_assoc]
set_option maxHeartbeats 1000000 in
theorem Right_any (a b : Int) (w : World) :
    Calls Try.prog 51 #[.agg #[.int .i64 a, .int .i64 b]] w fun e w' => e = .returned (.bool (mayB a b)) ∧ Below w.heap.size w w' := by
  obtain ⟨N, hN⟩ : ∃ N, w.heap.size = N := ⟨_, rfl⟩
  have HN := Lib.hid hN
  rw [hN]
  obtain ⟨q, hq⟩ : ∃ q, pages4.contains a = q := ⟨_, rfl⟩
  have HQ := Lib.hid hq
  have hm : mayB a b = (q && (decide (1 ≤ b) && decide (b ≤ 32))) := by unfold mayB; rw [← hq, pages4_b]
  rw [hm]
  clear hN hq hm
  go_enter Try.func51, Try.ntmps51
  go_upto_region 0 with fail
  with_reducible refine wp_region_list ?_
  refine wpList_boxB rfl _ _ rfl N HN.out #[.int .i64 a, .int .i64 b] rfl ?_
  intro w0 e0 b0 z0
  (try simp only [Act.put, List.setIfInBounds_toArray, List.set_cons_zero, List.set_cons_succ])
  with_reducible refine wpList_plain rfl ?_
  intro K hK
  go_simp
  first | with_reducible refine hK _ _ ?_ | refine hK _ _ ?_
  clear hK K
  (try simp only [Act.put, List.setIfInBounds_toArray, List.set_cons_zero, List.set_cons_succ])
  have E0 := Lib.hid e0
  have B0 := Lib.hid b0
  have Z0 := Lib.hid z0
  clear e0 b0 z0
  have k0 := heap_cell E0.out (o := 0)
  go_upto_region 1 with fail
  with_reducible refine wp_region_list ?_
  with_reducible refine wpList_plain rfl ?_
  intro K hK
  go_simp
  first | with_reducible refine hK _ _ ?_ | refine hK _ _ ?_
  clear hK K
  (try simp only [Act.put, List.setIfInBounds_toArray, List.set_cons_zero, List.set_cons_succ])
  obtain ⟨w1, hw1⟩ : ∃ W, w0.alloc (.cells #[.int .i64 1024, .int .i64 2048, .int .i64 4096, .int .i64 8192] 3) = W := ⟨_, rfl⟩
  have hb1 : Below w0.heap.size w0 w1 := by rw [← hw1]; exact (Below.refl _ _).alloc (Nat.le_refl _) _
  have IR : Hid (IRow w1 (.slice (some ⟨w0.heap.size, 0, none⟩) 4 4) pages4) := ⟨w0.heap.size, 4, rfl, by decide, fun i hi => by
    rw [← hw1, heap_cell (heap_alloc_new w0 _)]
    match i, hi with
    | 0, _ => rfl
    | 1, _ => rfl
    | 2, _ => rfl
    | 3, _ => rfl⟩
  have E1 : Hid (w1.heap[N]? = some (.cells #[.int .i64 a, .int .i64 b] 23 (0, 0))) := heap_below E0.out hb1 (heap_lt E0.out)
  have B1 := Lib.hid (B0.out.trans (hb1.mono (by have := Z0.out; omega)))
  rw [hw1]
  clear hw1 hb1 E0 B0 k0
  have k0 := heap_cell E1.out (o := 0)
  have k1 := heap_cell E1.out (o := 1)
  with_reducible refine wpList_plain rfl ?_
  intro K hK
  go_simp
  first | with_reducible refine hK _ _ ?_ | refine hK _ _ ?_
  clear hK K
  (try simp only [Act.put, List.setIfInBounds_toArray, List.set_cons_zero, List.set_cons_succ])
  with_reducible refine wpList_plain rfl ?_
  intro K hK
  go_simp
  first | with_reducible refine hK _ _ ?_ | refine hK _ _ ?_
  clear hK K
  (try simp only [Act.put, List.setIfInBounds_toArray, List.set_cons_zero, List.set_cons_succ])
  with_reducible refine wpList_plain rfl ?_
  intro K hK
  go_simp
  refine (Contains_int _ pages4 a w1 IR).mono ?_; rintro e w2 ⟨rfl, rfl⟩; rw [HQ.out]
  first | with_reducible refine hK _ _ ?_ | refine hK _ _ ?_
  clear hK K
  (try simp only [Act.put, List.setIfInBounds_toArray, List.set_cons_zero, List.set_cons_succ])
  with_reducible refine wpList_plain rfl ?_
  intro K hK
  go_simp
  first | with_reducible refine hK _ _ ?_ | refine hK _ _ ?_
  clear hK K
  (try simp only [Act.put, List.setIfInBounds_toArray, List.set_cons_zero, List.set_cons_succ])
  cases q
  case false =>
    with_reducible refine wpList_step ?_
    intro K hK
    rw [if_neg (Bool.eq_false_iff.1 (by rfl))]
    first | with_reducible refine hK _ _ ?_ | refine hK _ _ ?_
    clear hK K
    (try simp only [Act.put, List.setIfInBounds_toArray, List.set_cons_zero, List.set_cons_succ])
    with_reducible refine wpList_step ?_
    intro K hK
    rw [if_neg (Bool.eq_false_iff.1 (by rfl))]
    first | with_reducible refine hK _ _ ?_ | refine hK _ _ ?_
    clear hK K
    (try simp only [Act.put, List.setIfInBounds_toArray, List.set_cons_zero, List.set_cons_succ])
    with_reducible refine wpList_step ?_
    intro K hK
    rw [if_neg (Bool.eq_false_iff.1 (by rfl))]
    first | with_reducible refine hK _ _ ?_ | refine hK _ _ ?_
    clear hK K
    (try simp only [Act.put, List.setIfInBounds_toArray, List.set_cons_zero, List.set_cons_succ])
    with_reducible refine wpList_plain rfl ?_
    intro K hK
    go_simp
    first | with_reducible refine hK _ _ ?_ | refine hK _ _ ?_
    clear hK K
    (try simp only [Act.put, List.setIfInBounds_toArray, List.set_cons_zero, List.set_cons_succ])
    with_reducible refine wpList_plain rfl ?_
    intro K hK
    go_simp
    first | with_reducible refine hK _ _ ?_ | refine hK _ _ ?_
    clear hK K
    (try simp only [Act.put, List.setIfInBounds_toArray, List.set_cons_zero, List.set_cons_succ])
    with_reducible refine wpList_step ?_
    intro K hK
    rw [if_neg (Bool.eq_false_iff.1 (by rfl))]
    first | with_reducible refine hK _ _ ?_ | refine hK _ _ ?_
    clear hK K
    (try simp only [Act.put, List.setIfInBounds_toArray, List.set_cons_zero, List.set_cons_succ])
    with_reducible refine wpList_step ?_
    intro K hK
    rw [if_neg (Bool.eq_false_iff.1 (by rfl))]
    first | with_reducible refine hK _ _ ?_ | refine hK _ _ ?_
    clear hK K
    (try simp only [Act.put, List.setIfInBounds_toArray, List.set_cons_zero, List.set_cons_succ])
    with_reducible refine wpList_step ?_
    intro K hK
    rw [if_neg (Bool.eq_false_iff.1 (by rfl))]
    first | with_reducible refine hK _ _ ?_ | refine hK _ _ ?_
    clear hK K
    (try simp only [Act.put, List.setIfInBounds_toArray, List.set_cons_zero, List.set_cons_succ])
    with_reducible refine wpList_plain rfl ?_
    intro K hK
    go_simp
    first | with_reducible refine hK _ _ ?_ | refine hK _ _ ?_
    clear hK K
    (try simp only [Act.put, List.setIfInBounds_toArray, List.set_cons_zero, List.set_cons_succ])
    with_reducible refine wpList_plain rfl ?_
    intro K hK
    go_simp
    first | with_reducible refine hK _ _ ?_ | refine hK _ _ ?_
    clear hK K
    (try simp only [Act.put, List.setIfInBounds_toArray, List.set_cons_zero, List.set_cons_succ])
    go_wp2_with fail
    go_ret
    exact ⟨by simp, B1.out⟩
  case true =>
    with_reducible refine wpList_step ?_
    intro K hK
    rw [if_pos (by rfl)]
    go_simp
    first | with_reducible refine hK _ _ ?_ | refine hK _ _ ?_
    clear hK K
    (try simp only [Act.put, List.setIfInBounds_toArray, List.set_cons_zero, List.set_cons_succ])
    with_reducible refine wpList_step ?_
    intro K hK
    rw [if_pos (by rfl)]
    go_simp
    first | with_reducible refine hK _ _ ?_ | refine hK _ _ ?_
    clear hK K
    (try simp only [Act.put, List.setIfInBounds_toArray, List.set_cons_zero, List.set_cons_succ])
    with_reducible refine wpList_step ?_
    intro K hK
    rw [if_pos (by rfl)]
    go_simp
    first | with_reducible refine hK _ _ ?_ | refine hK _ _ ?_
    clear hK K
    (try simp only [Act.put, List.setIfInBounds_toArray, List.set_cons_zero, List.set_cons_succ])
    with_reducible refine wpList_plain rfl ?_
    intro K hK
    go_simp
    first | with_reducible refine hK _ _ ?_ | refine hK _ _ ?_
    clear hK K
    (try simp only [Act.put, List.setIfInBounds_toArray, List.set_cons_zero, List.set_cons_succ])
    with_reducible refine wpList_plain rfl ?_
    intro K hK
    go_simp
    first | with_reducible refine hK _ _ ?_ | refine hK _ _ ?_
    clear hK K
    (try simp only [Act.put, List.setIfInBounds_toArray, List.set_cons_zero, List.set_cons_succ])
    by_cases h1 : 1 ≤ b
    · have d1 : decide (1 ≤ b) = true := decide_eq_true h1
      rw [d1]
      with_reducible refine wpList_step ?_
      intro K hK
      rw [if_pos (by rfl)]
      go_simp
      first | with_reducible refine hK _ _ ?_ | refine hK _ _ ?_
      clear hK K
      (try simp only [Act.put, List.setIfInBounds_toArray, List.set_cons_zero, List.set_cons_succ])
      with_reducible refine wpList_step ?_
      intro K hK
      rw [if_pos (by rfl)]
      go_simp
      first | with_reducible refine hK _ _ ?_ | refine hK _ _ ?_
      clear hK K
      (try simp only [Act.put, List.setIfInBounds_toArray, List.set_cons_zero, List.set_cons_succ])
      with_reducible refine wpList_step ?_
      intro K hK
      rw [if_pos (by rfl)]
      go_simp
      first | with_reducible refine hK _ _ ?_ | refine hK _ _ ?_
      clear hK K
      (try simp only [Act.put, List.setIfInBounds_toArray, List.set_cons_zero, List.set_cons_succ])
      with_reducible refine wpList_plain rfl ?_
      intro K hK
      go_simp
      first | with_reducible refine hK _ _ ?_ | refine hK _ _ ?_
      clear hK K
      (try simp only [Act.put, List.setIfInBounds_toArray, List.set_cons_zero, List.set_cons_succ])
      with_reducible refine wpList_plain rfl ?_
      intro K hK
      go_simp
      first | with_reducible refine hK _ _ ?_ | refine hK _ _ ?_
      clear hK K
      (try simp only [Act.put, List.setIfInBounds_toArray, List.set_cons_zero, List.set_cons_succ])
      go_wp2_with fail
      go_ret
      exact ⟨by simp [h1], B1.out⟩
    · have d1 : decide (1 ≤ b) = false := decide_eq_false h1
      rw [d1]
      with_reducible refine wpList_step ?_
      intro K hK
      rw [if_neg (Bool.eq_false_iff.1 (by rfl))]
      first | with_reducible refine hK _ _ ?_ | refine hK _ _ ?_
      clear hK K
      (try simp only [Act.put, List.setIfInBounds_toArray, List.set_cons_zero, List.set_cons_succ])
      with_reducible refine wpList_step ?_
      intro K hK
      rw [if_neg (Bool.eq_false_iff.1 (by rfl))]
      first | with_reducible refine hK _ _ ?_ | refine hK _ _ ?_
      clear hK K
      (try simp only [Act.put, List.setIfInBounds_toArray, List.set_cons_zero, List.set_cons_succ])
      with_reducible refine wpList_step ?_
      intro K hK
      rw [if_neg (Bool.eq_false_iff.1 (by rfl))]
      first | with_reducible refine hK _ _ ?_ | refine hK _ _ ?_
      clear hK K
      (try simp only [Act.put, List.setIfInBounds_toArray, List.set_cons_zero, List.set_cons_succ])
      with_reducible refine wpList_plain rfl ?_
      intro K hK
      go_simp
      first | with_reducible refine hK _ _ ?_ | refine hK _ _ ?_
      clear hK K
      (try simp only [Act.put, List.setIfInBounds_toArray, List.set_cons_zero, List.set_cons_succ])
      with_reducible refine wpList_plain rfl ?_
      intro K hK
      go_simp
      first | with_reducible refine hK _ _ ?_ | refine hK _ _ ?_
      clear hK K
      (try simp only [Act.put, List.setIfInBounds_toArray, List.set_cons_zero, List.set_cons_succ])
      go_wp2_with fail
      go_ret
      exact ⟨by simp [h1], B1.out⟩
set_option maxHeartbeats 1000000 in
theorem MayFrame_any (a b : Int) (w : World) :
    Calls Try.prog 52 #[.agg #[.int .i64 a, .int .i64 b]] w fun e w' => e = .returned (.bool (mayB a b)) ∧ Below w.heap.size w w' := by
  by_cases h1 : a = 1024 ∨ a = 2048 ∨ a = 4096 ∨ a = 8192
  · rcases h1 with rfl | rfl | rfl | rfl
    all_goals
      by_cases h2 : 1 ≤ b
      · have hd : decide (1 ≤ b) = true := by simpa using h2
        go_enter Try.func52, Try.ntmps52
        go_wp2
        go_ret
        exact ⟨by simp [mayB, h2], (Below.refl _ _).alloc (Nat.le_refl _) _⟩
      · have hd : decide (1 ≤ b) = false := by simpa using h2
        go_enter Try.func52, Try.ntmps52
        go_wp2
        go_ret
        exact ⟨by simp only [mayB, hd]; rfl, (Below.refl _ _).alloc (Nat.le_refl _) _⟩
  · have e1 : (a == 1024) = false := by simp; omega
    have e2 : (a == 2048) = false := by simp; omega
    have e3 : (a == 4096) = false := by simp; omega
    have e4 : (a == 8192) = false := by simp; omega
    go_enter Try.func52, Try.ntmps52
    go_wp2
    go_ret
    exact ⟨by simp only [mayB, e1, e2, e3, e4]; rfl, (Below.refl _ _).alloc (Nat.le_refl _) _⟩

/-- how many numbers a list page holds -/
def entI (a b : Int) : Int := if mayB a b then (if a = 1024 then 246 else if a = 2048 then 502 else if a = 4096 then 1014 else 2038) else 0
theorem entI_bd (a b : Int) : 0 ≤ entI a b ∧ entI a b ≤ 2038 := by
  unfold entI
  split
  · split
    · omega
    · split
      · omega
      · split <;> omega
  · omega
theorem entI_true {a b : Int} (h : mayB a b = true) : entI a b = if a = 1024 then 246 else if a = 2048 then 502 else if a = 4096 then 1014 else 2038 := by
  unfold entI
  rw [h]
  rfl
theorem mayB_of {a b : Int} (h : mayB a b = true) : a = 1024 ∨ a = 2048 ∨ a = 4096 ∨ a = 8192 := by
  unfold mayB at h
  simp only [Bool.and_eq_true, Bool.or_eq_true, beq_iff_eq] at h
  omega
set_option maxHeartbeats 1000000 in
theorem Entries_any (a b : Int) (w : World) :
    Calls Try.prog 18 #[.agg #[.int .i64 a, .int .i64 b]] w fun e w' => e = .returned (.int .i64 (entI a b)) ∧ Below w.heap.size w w' := by
  obtain ⟨N, hN⟩ : ∃ N, w.heap.size = N := ⟨_, rfl⟩
  have HN := Lib.hid hN
  rw [hN]
  obtain ⟨q, hq⟩ : ∃ q, mayB a b = q := ⟨_, rfl⟩
  have HQ := Lib.hid hq
  clear hN hq
  go_enter Try.func18, Try.ntmps18
  go_upto_region 0 with fail
  with_reducible refine wp_region_list ?_
  refine wpList_boxB rfl _ _ rfl N HN.out #[.int .i64 a, .int .i64 b] rfl ?_
  intro w0 e0 b0 z0
  (try simp only [Act.put, List.setIfInBounds_toArray, List.set_cons_zero, List.set_cons_succ])
  with_reducible refine wpList_plain rfl ?_
  intro K hK
  go_simp
  first | with_reducible refine hK _ _ ?_ | refine hK _ _ ?_
  clear hK K
  (try simp only [Act.put, List.setIfInBounds_toArray, List.set_cons_zero, List.set_cons_succ])
  have E0 := Lib.hid e0
  have B0 := Lib.hid b0
  have Z0 := Lib.hid z0
  clear e0 b0 z0
  have k0 := heap_cell E0.out (o := 0)
  have k1 := heap_cell E0.out (o := 1)
  go_upto_region 1 with fail
  with_reducible refine wp_region_list ?_
  with_reducible refine wpList_plain rfl ?_
  intro K hK
  go_simp
  first | with_reducible refine hK _ _ ?_ | refine hK _ _ ?_
  clear hK K
  (try simp only [Act.put, List.setIfInBounds_toArray, List.set_cons_zero, List.set_cons_succ])
  with_reducible refine wpList_plain rfl ?_
  intro K hK
  go_simp
  refine (Right_any a b w0).mono ?_; rintro e w2 ⟨rfl, b2⟩; rw [HQ.out]
  first | with_reducible refine hK _ _ ?_ | refine hK _ _ ?_
  clear hK K
  (try simp only [Act.put, List.setIfInBounds_toArray, List.set_cons_zero, List.set_cons_succ])
  have E2 : Hid (w2.heap[N]? = some (.cells #[.int .i64 a, .int .i64 b] 23 (0, 0))) := heap_below E0.out b2 (heap_lt E0.out)
  have B2 := Lib.hid (B0.out.trans (b2.mono (by have := Z0.out; omega)))
  clear b2 E0 B0 k0 k1
  with_reducible refine wpList_plain rfl ?_
  intro K hK
  go_simp
  first | with_reducible refine hK _ _ ?_ | refine hK _ _ ?_
  clear hK K
  (try simp only [Act.put, List.setIfInBounds_toArray, List.set_cons_zero, List.set_cons_succ])
  cases q
  case false =>
    have he : entI a b = 0 := by unfold entI; rw [HQ.out]; rfl
    have He := Lib.hid he
    clear he
    go_wp2_with fail
    go_ret
    exact ⟨by rw [He.out]; rfl, B2.out⟩
  case true =>
    have he := entI_true HQ.out
    have ha := mayB_of HQ.out
    have k0 := heap_cell E2.out (o := 0)
    rcases ha with rfl | rfl | rfl | rfl
    all_goals
      have He := Lib.hid he
      clear he
      go_wp2_with fail
      go_ret
      exact ⟨by rw [He.out]; rfl, B2.out⟩
set_option maxHeartbeats 1000000 in
theorem refEntries_any (a b : Int) (w : World) :
    Calls Try.prog 19 #[.agg #[.int .i64 a, .int .i64 b]] w fun e w' => e = .returned (.int .i64 (entI a b)) ∧ Below w.heap.size w w' := by
  obtain ⟨N, hN⟩ : ∃ N, w.heap.size = N := ⟨_, rfl⟩
  have HN := Lib.hid hN
  rw [hN]
  obtain ⟨q, hq⟩ : ∃ q, mayB a b = q := ⟨_, rfl⟩
  have HQ := Lib.hid hq
  clear hN hq
  go_enter Try.func19, Try.ntmps19
  go_upto_region 0 with fail
  with_reducible refine wp_region_list ?_
  refine wpList_boxB rfl _ _ rfl N HN.out #[.int .i64 a, .int .i64 b] rfl ?_
  intro w0 e0 b0 z0
  (try simp only [Act.put, List.setIfInBounds_toArray, List.set_cons_zero, List.set_cons_succ])
  with_reducible refine wpList_plain rfl ?_
  intro K hK
  go_simp
  first | with_reducible refine hK _ _ ?_ | refine hK _ _ ?_
  clear hK K
  (try simp only [Act.put, List.setIfInBounds_toArray, List.set_cons_zero, List.set_cons_succ])
  have E0 := Lib.hid e0
  have B0 := Lib.hid b0
  have Z0 := Lib.hid z0
  clear e0 b0 z0
  have k0 := heap_cell E0.out (o := 0)
  have k1 := heap_cell E0.out (o := 1)
  go_upto_region 1 with fail
  with_reducible refine wp_region_list ?_
  with_reducible refine wpList_plain rfl ?_
  intro K hK
  go_simp
  first | with_reducible refine hK _ _ ?_ | refine hK _ _ ?_
  clear hK K
  (try simp only [Act.put, List.setIfInBounds_toArray, List.set_cons_zero, List.set_cons_succ])
  with_reducible refine wpList_plain rfl ?_
  intro K hK
  go_simp
  refine (MayFrame_any a b w0).mono ?_; rintro e w2 ⟨rfl, b2⟩; rw [HQ.out]
  first | with_reducible refine hK _ _ ?_ | refine hK _ _ ?_
  clear hK K
  (try simp only [Act.put, List.setIfInBounds_toArray, List.set_cons_zero, List.set_cons_succ])
  have E2 : Hid (w2.heap[N]? = some (.cells #[.int .i64 a, .int .i64 b] 23 (0, 0))) := heap_below E0.out b2 (heap_lt E0.out)
  have B2 := Lib.hid (B0.out.trans (b2.mono (by have := Z0.out; omega)))
  clear b2 E0 B0 k0 k1
  with_reducible refine wpList_plain rfl ?_
  intro K hK
  go_simp
  first | with_reducible refine hK _ _ ?_ | refine hK _ _ ?_
  clear hK K
  (try simp only [Act.put, List.setIfInBounds_toArray, List.set_cons_zero, List.set_cons_succ])
  cases q
  case false =>
    have he : entI a b = 0 := by unfold entI; rw [HQ.out]; rfl
    have He := Lib.hid he
    clear he
    go_wp2_with fail
    go_ret
    exact ⟨by rw [He.out]; rfl, B2.out⟩
  case true =>
    have he := entI_true HQ.out
    have ha := mayB_of HQ.out
    have k0 := heap_cell E2.out (o := 0)
    rcases ha with rfl | rfl | rfl | rfl
    all_goals
      have He := Lib.hid he
      clear he
      go_wp2_with fail
      go_ret
      exact ⟨by rw [He.out]; rfl, B2.out⟩
end Go.Proofs.Ytkngmnfgdlnddaa
