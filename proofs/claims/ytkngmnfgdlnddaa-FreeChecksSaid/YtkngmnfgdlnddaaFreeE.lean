/-
  The walk of free.FromBody.
-/
import Derived.Test.YtkngmnfgdlnddaaFreeD
namespace Go.Proofs.Ytkngmnfgdlnddaa
open Go.RowKit Go.Lib Hw
set_option linter.unusedVariables false

def nextOf (s : ByteArray) : Nat := told (piece s 0 4)
def cntOf (s : ByteArray) : Nat := told (piece s 4 4)
def numsOf (s : ByteArray) (n : Nat) : List Nat := (List.range n).map fun i => told (piece s (8 + 4 * i) 4)
theorem told4_lt (s : ByteArray) (o : Nat) : told (piece s o 4) < 4294967296 := by
  have h1 := told_lt (piece s o 4)
  have h2 : (piece s o 4).length ≤ 4 := by unfold piece; rw [List.length_take]; omega
  have h3 : 256 ^ (piece s o 4).length ≤ 256 ^ 4 := Nat.pow_le_pow_right (by decide) h2
  have h4 : (256 : Nat) ^ 4 = 4294967296 := by decide
  omega
theorem numsOf_len (s : ByteArray) (n : Nat) : (numsOf s n).length = n := by simp [numsOf]
theorem numsOf_all (s : ByteArray) (n : Nat) : All4 (numsOf s n) := fun x hx => by
  obtain ⟨i, _, rfl⟩ := List.mem_map.1 hx
  exact told4_lt s _
theorem numsOf_next (s : ByteArray) (k : Nat) : numsOf s (k + 1) = numsOf s k ++ [told (piece s (8 + 4 * k) 4)] := by simp [numsOf, List.range_succ]
/-- may it be read? -/
def fromB (a b : Int) (s : ByteArray) : Bool := mayB a b && (decide (8 ≤ s.size) && (decide (cntOf s * 4 = s.size - 8) && (bodyB a b (nextOf s) (numsOf s (cntOf s)) && decide (bodyS a b (nextOf s) (numsOf s (cntOf s)) = s))))
def FromPost (a b : Int) (s : ByteArray) (w : World) (e : Ending) (w' : World) : Prop :=
  (fromB a b s = true ∧ ∃ v, e = .returned (.tuple #[.int .u32 (nextOf s : Int), v, .int .i64 0]) ∧ OwnM w' w.heap.size v (numsOf s (cntOf s)) ∧ Below w.heap.size w w') ∨
  (fromB a b s = false ∧ e = .returned (.tuple #[.int .u32 0, .slice none 0 0, .int .i64 (if mayB a b = true then 90 else 2)]) ∧ Below w.heap.size w w')
set_option maxRecDepth 5000 in
set_option maxHeartbeats 8000000 in
theorem FromBody_any (a b : Int) (s : ByteArray) (w : World) (hs : s.size ≤ 140737488351232) :
    Calls Try.prog 26 #[.agg #[.int .i64 a, .int .i64 b], .string s] w (FromPost a b s w) := by
  obtain ⟨N, hN⟩ : ∃ N, w.heap.size = N := ⟨_, rfl⟩
  have HN := Lib.hid hN
  have HNo : Hid (∀ w', mayB a b = true → fromB a b s = false → Below N w w' → FromPost a b s w (.returned (.tuple #[.int .u32 0, .slice none 0 0, .int .i64 90])) w') := fun w' h1 h2 hb => .inr ⟨h2, by rw [if_pos h1], by rw [hN]; exact hb⟩
  have HArg : Hid (∀ w', mayB a b = false → Below N w w' → FromPost a b s w (.returned (.tuple #[.int .u32 0, .slice none 0 0, .int .i64 2])) w') := fun w' h1 hb => .inr ⟨by unfold fromB; rw [h1]; rfl, by rw [h1]; rfl, by rw [hN]; exact hb⟩
  have HOk : Hid (∀ w' v, fromB a b s = true → OwnM w' N v (numsOf s (cntOf s)) → Below N w w' → FromPost a b s w (.returned (.tuple #[.int .u32 (nextOf s : Int), v, .int .i64 0])) w') := fun w' v h1 ho hb => .inl ⟨h1, v, rfl, by rw [hN]; exact ho, by rw [hN]; exact hb⟩
  have HB : Hid (fromB a b s = (mayB a b && (decide (8 ≤ s.size) && (decide (cntOf s * 4 = s.size - 8) && (bodyB a b (nextOf s) (numsOf s (cntOf s)) && decide (bodyS a b (nextOf s) (numsOf s (cntOf s)) = s)))))) := rfl
  obtain ⟨R, hR⟩ : ∃ R, FromPost a b s w = R := ⟨_, rfl⟩
  rw [hR] at HNo HArg HOk ⊢
  obtain ⟨q1, hq1⟩ : ∃ q, mayB a b = q := ⟨_, rfl⟩
  have H1 := Lib.hid hq1
  clear hN hR hq1
  go_enter Try.func26, Try.ntmps26
  go_upto_region 0 with fail
  with_reducible refine wp_region_list ?_
  refine wpList_boxB rfl _ _ rfl N HN.out #[.int .i64 a, .int .i64 b] rfl ?_
  intro w0 e0 b0 z0
  (try simp only [Act.put, List.setIfInBounds_toArray, List.set_cons_zero, List.set_cons_succ])
  with_reducible refine wpList_plain rfl ?_
  intro K hK
  go_simp
  first | with_reducible refine hK _ _ ?_ | refine hK _ _ ?_
  clear hK K
  (try simp only [Act.put, List.setIfInBounds_toArray, List.set_cons_zero, List.set_cons_succ])
  with_reducible refine wpList_plain rfl ?_
  intro K hK
  go_simp
  first | with_reducible refine hK _ _ ?_ | refine hK _ _ ?_
  clear hK K
  (try simp only [Act.put, List.setIfInBounds_toArray, List.set_cons_zero, List.set_cons_succ])
  with_reducible refine wpList_plain rfl ?_
  intro K hK
  go_simp
  first | with_reducible refine hK _ _ ?_ | refine hK _ _ ?_
  clear hK K
  (try simp only [Act.put, List.setIfInBounds_toArray, List.set_cons_zero, List.set_cons_succ])
  have E0 := Lib.hid e0
  have B0 := Lib.hid b0
  have Z0 := Lib.hid z0
  clear e0 b0 z0
  have k0 := heap_cell E0.out (o := 0)
  have k1 := heap_cell E0.out (o := 1)
  go_upto_region 1 with fail
  with_reducible refine wp_region_list ?_
  with_reducible refine wpList_plain rfl ?_
  intro K hK
  go_simp
  first | with_reducible refine hK _ _ ?_ | refine hK _ _ ?_
  clear hK K
  (try simp only [Act.put, List.setIfInBounds_toArray, List.set_cons_zero, List.set_cons_succ])
  with_reducible refine wpList_plain rfl ?_
  intro K hK
  go_simp
  refine (Right_any a b w0).mono ?_; rintro e w1 ⟨rfl, b1⟩; rw [H1.out]
  first | with_reducible refine hK _ _ ?_ | refine hK _ _ ?_
  clear hK K
  (try simp only [Act.put, List.setIfInBounds_toArray, List.set_cons_zero, List.set_cons_succ])
  have E1 : Hid (w1.heap[N]? = some (.cells #[.int .i64 a, .int .i64 b] 23 (0, 0))) := heap_below E0.out b1 (heap_lt E0.out)
  have B1 := Lib.hid (B0.out.trans (b1.mono (by have := Z0.out; omega)))
  have hN1 : N < w1.heap.size := heap_lt E1.out
  clear b1 E0 B0 Z0 k0 k1
  with_reducible refine wpList_plain rfl ?_
  intro K hK
  go_simp
  first | with_reducible refine hK _ _ ?_ | refine hK _ _ ?_
  clear hK K
  (try simp only [Act.put, List.setIfInBounds_toArray, List.set_cons_zero, List.set_cons_succ])
  cases q1
  case false =>
    have hf := HArg.out w1 H1.out B1.out
    have Hf := Lib.hid hf
    clear hf
    go_wp2_with fail
    go_ret3
    exact Hf.out
  case true =>
    go_upto_region 3 with fail
    with_reducible refine wp_region_list ?_
    with_reducible refine wpList_plain rfl ?_
    intro K hK
    go_simp
    first | with_reducible refine hK _ _ ?_ | refine hK _ _ ?_
    clear hK K
    (try simp only [Act.put, List.setIfInBounds_toArray, List.set_cons_zero, List.set_cons_succ])
    with_reducible refine wpList_plain rfl ?_
    intro K hK
    go_simp
    refine (Open_any s w1).mono ?_; rintro e w2 ⟨rfl, hw2⟩
    first | with_reducible refine hK _ _ ?_ | refine hK _ _ ?_
    clear hK K
    (try simp only [Act.put, List.setIfInBounds_toArray, List.set_cons_zero, List.set_cons_succ])
    obtain ⟨p, hp⟩ : ∃ p, w1.heap.size = p := ⟨_, rfl⟩
    have R2 : Hid (Rd w2 p p s 0) := by rw [← hp, ← hw2]; exact Rd.new w1 s
    have b2 : Below p w1 w2 := by rw [← hp, ← hw2]; exact (Below.refl _ _).alloc (Nat.le_refl _) _
    have z2 : w2.heap.size = p + 1 := by rw [← hw2, ← hp, World.size_alloc]
    have E2 : Hid (w2.heap[N]? = some (.cells #[.int .i64 a, .int .i64 b] 23 (0, 0))) := heap_below E1.out b2 (by omega)
    have B2 := Lib.hid (B1.out.trans (b2.mono (by omega)))
    have Z2 := Lib.hid z2
    have hNp : N < p := by omega
    rw [hp]
    clear hw2 hp b2 z2 E1 B1 hN1
    with_reducible refine wpList_plain rfl ?_
    intro K hK
    go_simp
    first | with_reducible refine hK _ _ ?_ | refine hK _ _ ?_
    clear hK K
    (try simp only [Act.put, List.setIfInBounds_toArray, List.set_cons_zero, List.set_cons_succ])
    go_upto_region 4 with fail
    with_reducible refine wp_region_list ?_
    with_reducible refine wpList_plain rfl ?_
    intro K hK
    go_simp
    first | with_reducible refine hK _ _ ?_ | refine hK _ _ ?_
    clear hK K
    (try simp only [Act.put, List.setIfInBounds_toArray, List.set_cons_zero, List.set_cons_succ])
    by_cases h4 : s.size < 4
    case pos =>
      with_reducible refine wpList_plain rfl ?_
      intro K hK
      go_simp
      refine (Take_short p p s 0 w2 R2.out (Nat.zero_le _) (by omega) (by omega)).mono ?_; rintro e w3 ⟨rfl, r3, m3⟩
      first | with_reducible refine hK _ _ ?_ | refine hK _ _ ?_
      clear hK K
      (try simp only [Act.put, List.setIfInBounds_toArray, List.set_cons_zero, List.set_cons_succ])
      have R5 := Lib.hid r3
      have B3 := Lib.hid (B2.out.trans (m3.below (n := N) (fun k hk e => by omega) (by have := Z2.out; omega)))
      clear r3 m3 R2 B2
      with_reducible refine wpList_plain rfl ?_
      intro K hK
      go_simp
      first | with_reducible refine hK _ _ ?_ | refine hK _ _ ?_
      clear hK K
      (try simp only [Act.put, List.setIfInBounds_toArray, List.set_cons_zero, List.set_cons_succ])
      go_upto_region 5 with fail
      with_reducible refine wp_region_list ?_
      with_reducible refine wpList_plain rfl ?_
      intro K hK
      go_simp
      first | with_reducible refine hK _ _ ?_ | refine hK _ _ ?_
      clear hK K
      (try simp only [Act.put, List.setIfInBounds_toArray, List.set_cons_zero, List.set_cons_succ])
      with_reducible refine wpList_plain rfl ?_
      intro K hK
      go_simp
      refine (Take_dead p p w3 R5.out).mono ?_; rintro e w4 ⟨rfl, rfl⟩
      first | with_reducible refine hK _ _ ?_ | refine hK _ _ ?_
      clear hK K
      (try simp only [Act.put, List.setIfInBounds_toArray, List.set_cons_zero, List.set_cons_succ])
      with_reducible refine wpList_plain rfl ?_
      intro K hK
      go_simp
      first | with_reducible refine hK _ _ ?_ | refine hK _ _ ?_
      clear hK K
      (try simp only [Act.put, List.setIfInBounds_toArray, List.set_cons_zero, List.set_cons_succ])
      go_upto_region 6 with fail
      with_reducible refine wp_region_list ?_
      with_reducible refine wpList_plain rfl ?_
      intro K hK
      go_simp
      first | with_reducible refine hK _ _ ?_ | refine hK _ _ ?_
      clear hK K
      (try simp only [Act.put, List.setIfInBounds_toArray, List.set_cons_zero, List.set_cons_succ])
      with_reducible refine wpList_plain rfl ?_
      intro K hK
      go_simp
      refine (Fault_bad p p w3 R5.out).mono ?_; rintro e w6 ⟨⟨g, rfl⟩, b6⟩
      first | with_reducible refine hK _ _ ?_ | refine hK _ _ ?_
      clear hK K
      (try simp only [Act.put, List.setIfInBounds_toArray, List.set_cons_zero, List.set_cons_succ])
      have B6 := Lib.hid (B3.out.trans (b6.mono (by have := B3.out.size; have := HN.out; omega)))
      clear b6
      with_reducible refine wpList_plain rfl ?_
      intro K hK
      go_simp
      first | with_reducible refine hK _ _ ?_ | refine hK _ _ ?_
      clear hK K
      (try simp only [Act.put, List.setIfInBounds_toArray, List.set_cons_zero, List.set_cons_succ])
      with_reducible refine wpList_plain rfl ?_
      intro K hK
      go_simp
      first | with_reducible refine hK _ _ ?_ | refine hK _ _ ?_
      clear hK K
      (try simp only [Act.put, List.setIfInBounds_toArray, List.set_cons_zero, List.set_cons_succ])
      with_reducible refine wpList_step ?_
      intro K hK
      rw [if_neg (Bool.eq_false_iff.1 (by rfl))]
      first | with_reducible refine hK _ _ ?_ | refine hK _ _ ?_
      clear hK K
      (try simp only [Act.put, List.setIfInBounds_toArray, List.set_cons_zero, List.set_cons_succ])
      with_reducible refine wpList_step ?_
      intro K hK
      rw [if_neg (Bool.eq_false_iff.1 (by rfl))]
      first | with_reducible refine hK _ _ ?_ | refine hK _ _ ?_
      clear hK K
      (try simp only [Act.put, List.setIfInBounds_toArray, List.set_cons_zero, List.set_cons_succ])
      with_reducible refine wpList_step ?_
      intro K hK
      rw [if_neg (Bool.eq_false_iff.1 (by rfl))]
      first | with_reducible refine hK _ _ ?_ | refine hK _ _ ?_
      clear hK K
      (try simp only [Act.put, List.setIfInBounds_toArray, List.set_cons_zero, List.set_cons_succ])
      with_reducible refine wpList_step ?_
      intro K hK
      rw [if_neg (Bool.eq_false_iff.1 (by rfl))]
      first | with_reducible refine hK _ _ ?_ | refine hK _ _ ?_
      clear hK K
      (try simp only [Act.put, List.setIfInBounds_toArray, List.set_cons_zero, List.set_cons_succ])
      with_reducible refine wpList_step ?_
      intro K hK
      rw [if_neg (Bool.eq_false_iff.1 (by rfl))]
      first | with_reducible refine hK _ _ ?_ | refine hK _ _ ?_
      clear hK K
      (try simp only [Act.put, List.setIfInBounds_toArray, List.set_cons_zero, List.set_cons_succ])
      with_reducible refine wpList_step ?_
      intro K hK
      rw [if_neg (Bool.eq_false_iff.1 (by rfl))]
      first | with_reducible refine hK _ _ ?_ | refine hK _ _ ?_
      clear hK K
      (try simp only [Act.put, List.setIfInBounds_toArray, List.set_cons_zero, List.set_cons_succ])
      with_reducible refine wpList_plain rfl ?_
      intro K hK
      go_simp
      first | with_reducible refine hK _ _ ?_ | refine hK _ _ ?_
      clear hK K
      (try simp only [Act.put, List.setIfInBounds_toArray, List.set_cons_zero, List.set_cons_succ])
      have hf := HNo.out w6 H1.out (by rw [HB.out, H1.out, decide_eq_false (by omega)]; rfl) B6.out
      have Hf := Lib.hid hf
      clear hf
      go_wp2_with fail
      go_ret3
      exact Hf.out
    case neg =>
      with_reducible refine wpList_plain rfl ?_
      intro K hK
      go_simp
      refine (Take_m p p s 0 w2 R2.out (by omega) (by omega)).mono ?_; rintro e w3 ⟨rfl, r3, m3⟩
      first | with_reducible refine hK _ _ ?_ | refine hK _ _ ?_
      clear hK K
      (try simp only [Act.put, List.setIfInBounds_toArray, List.set_cons_zero, List.set_cons_succ])
      have R3 := Lib.hid r3
      have E3 : Hid (w3.heap[N]? = some (.cells #[.int .i64 a, .int .i64 b] 23 (0, 0))) := m3.heap E2.out (by omega)
      have B3 := Lib.hid (B2.out.trans (m3.below (n := N) (fun k hk e => by omega) (by have := Z2.out; omega)))
      have hz3 : p + 1 ≤ w3.heap.size := by have := m3.size; have := Z2.out; omega
      obtain ⟨nx, hnx⟩ : ∃ n, told (piece s 0 4) = n := ⟨_, rfl⟩
      have hnx2 : nx < 4294967296 := by rw [← hnx]; exact told4_lt s 0
      have Hnx : Hid (nextOf s = nx) := hnx
      rw [hnx]
      clear r3 m3 R2 B2 hnx E2 Z2
      with_reducible refine wpList_plain rfl ?_
      intro K hK
      go_simp
      first | with_reducible refine hK _ _ ?_ | refine hK _ _ ?_
      clear hK K
      (try simp only [Act.put, List.setIfInBounds_toArray, List.set_cons_zero, List.set_cons_succ])
      go_upto_region 5 with fail
      with_reducible refine wp_region_list ?_
      with_reducible refine wpList_plain rfl ?_
      intro K hK
      go_simp
      first | with_reducible refine hK _ _ ?_ | refine hK _ _ ?_
      clear hK K
      (try simp only [Act.put, List.setIfInBounds_toArray, List.set_cons_zero, List.set_cons_succ])
      by_cases h8 : s.size < 8
      case pos =>
        with_reducible refine wpList_plain rfl ?_
        intro K hK
        go_simp
        refine (Take_short p p s 4 w3 R3.out (by omega) (by omega) (by omega)).mono ?_; rintro e w4 ⟨rfl, r4, m4⟩
        first | with_reducible refine hK _ _ ?_ | refine hK _ _ ?_
        clear hK K
        (try simp only [Act.put, List.setIfInBounds_toArray, List.set_cons_zero, List.set_cons_succ])
        have R5 := Lib.hid r4
        have B4 := Lib.hid (B3.out.trans (m4.below (n := N) (fun k hk e => by omega) (by omega)))
        clear r4 m4 R3 B3
        with_reducible refine wpList_plain rfl ?_
        intro K hK
        go_simp
        first | with_reducible refine hK _ _ ?_ | refine hK _ _ ?_
        clear hK K
        (try simp only [Act.put, List.setIfInBounds_toArray, List.set_cons_zero, List.set_cons_succ])
        go_upto_region 6 with fail
        with_reducible refine wp_region_list ?_
        with_reducible refine wpList_plain rfl ?_
        intro K hK
        go_simp
        first | with_reducible refine hK _ _ ?_ | refine hK _ _ ?_
        clear hK K
        (try simp only [Act.put, List.setIfInBounds_toArray, List.set_cons_zero, List.set_cons_succ])
        with_reducible refine wpList_plain rfl ?_
        intro K hK
        go_simp
        refine (Fault_bad p p w4 R5.out).mono ?_; rintro e w6 ⟨⟨g, rfl⟩, b6⟩
        first | with_reducible refine hK _ _ ?_ | refine hK _ _ ?_
        clear hK K
        (try simp only [Act.put, List.setIfInBounds_toArray, List.set_cons_zero, List.set_cons_succ])
        have B6 := Lib.hid (B4.out.trans (b6.mono (by have := B4.out.size; have := HN.out; omega)))
        clear b6
        with_reducible refine wpList_plain rfl ?_
        intro K hK
        go_simp
        first | with_reducible refine hK _ _ ?_ | refine hK _ _ ?_
        clear hK K
        (try simp only [Act.put, List.setIfInBounds_toArray, List.set_cons_zero, List.set_cons_succ])
        with_reducible refine wpList_plain rfl ?_
        intro K hK
        go_simp
        first | with_reducible refine hK _ _ ?_ | refine hK _ _ ?_
        clear hK K
        (try simp only [Act.put, List.setIfInBounds_toArray, List.set_cons_zero, List.set_cons_succ])
        with_reducible refine wpList_step ?_
        intro K hK
        rw [if_neg (Bool.eq_false_iff.1 (by rfl))]
        first | with_reducible refine hK _ _ ?_ | refine hK _ _ ?_
        clear hK K
        (try simp only [Act.put, List.setIfInBounds_toArray, List.set_cons_zero, List.set_cons_succ])
        with_reducible refine wpList_step ?_
        intro K hK
        rw [if_neg (Bool.eq_false_iff.1 (by rfl))]
        first | with_reducible refine hK _ _ ?_ | refine hK _ _ ?_
        clear hK K
        (try simp only [Act.put, List.setIfInBounds_toArray, List.set_cons_zero, List.set_cons_succ])
        with_reducible refine wpList_step ?_
        intro K hK
        rw [if_neg (Bool.eq_false_iff.1 (by rfl))]
        first | with_reducible refine hK _ _ ?_ | refine hK _ _ ?_
        clear hK K
        (try simp only [Act.put, List.setIfInBounds_toArray, List.set_cons_zero, List.set_cons_succ])
        with_reducible refine wpList_step ?_
        intro K hK
        rw [if_neg (Bool.eq_false_iff.1 (by rfl))]
        first | with_reducible refine hK _ _ ?_ | refine hK _ _ ?_
        clear hK K
        (try simp only [Act.put, List.setIfInBounds_toArray, List.set_cons_zero, List.set_cons_succ])
        with_reducible refine wpList_step ?_
        intro K hK
        rw [if_neg (Bool.eq_false_iff.1 (by rfl))]
        first | with_reducible refine hK _ _ ?_ | refine hK _ _ ?_
        clear hK K
        (try simp only [Act.put, List.setIfInBounds_toArray, List.set_cons_zero, List.set_cons_succ])
        with_reducible refine wpList_step ?_
        intro K hK
        rw [if_neg (Bool.eq_false_iff.1 (by rfl))]
        first | with_reducible refine hK _ _ ?_ | refine hK _ _ ?_
        clear hK K
        (try simp only [Act.put, List.setIfInBounds_toArray, List.set_cons_zero, List.set_cons_succ])
        with_reducible refine wpList_plain rfl ?_
        intro K hK
        go_simp
        first | with_reducible refine hK _ _ ?_ | refine hK _ _ ?_
        clear hK K
        (try simp only [Act.put, List.setIfInBounds_toArray, List.set_cons_zero, List.set_cons_succ])
        have hf := HNo.out w6 H1.out (by rw [HB.out, H1.out, decide_eq_false (by omega)]; rfl) B6.out
        have Hf := Lib.hid hf
        clear hf
        go_wp2_with fail
        go_ret3
        exact Hf.out
      case neg =>
        with_reducible refine wpList_plain rfl ?_
        intro K hK
        go_simp
        refine (Take_m p p s 4 w3 R3.out (by omega) (by omega)).mono ?_; rintro e w4 ⟨rfl, r4, m4⟩
        first | with_reducible refine hK _ _ ?_ | refine hK _ _ ?_
        clear hK K
        (try simp only [Act.put, List.setIfInBounds_toArray, List.set_cons_zero, List.set_cons_succ])
        have R4 := Lib.hid r4
        have E4 : Hid (w4.heap[N]? = some (.cells #[.int .i64 a, .int .i64 b] 23 (0, 0))) := m4.heap E3.out (by omega)
        have B4 := Lib.hid (B3.out.trans (m4.below (n := N) (fun k hk e => by omega) (by omega)))
        have hz4 : p + 1 ≤ w4.heap.size := by have := m4.size; omega
        obtain ⟨n, hn⟩ : ∃ n, told (piece s 4 4) = n := ⟨_, rfl⟩
        have hn2 : n < 4294967296 := by rw [← hn]; exact told4_lt s 4
        have Hn : Hid (cntOf s = n) := hn
        rw [hn]
        clear r4 m4 R3 B3 hn E3
        with_reducible refine wpList_plain rfl ?_
        intro K hK
        go_simp
        first | with_reducible refine hK _ _ ?_ | refine hK _ _ ?_
        clear hK K
        (try simp only [Act.put, List.setIfInBounds_toArray, List.set_cons_zero, List.set_cons_succ])
        obtain ⟨n4, hn4⟩ : ∃ x, n * 4 = x := ⟨_, rfl⟩
        obtain ⟨lf, hlf⟩ : ∃ x, s.size - 8 = x := ⟨_, rfl⟩
        have v1 : IntKind.i64.wrap (n : Int) = (n : Int) := IntWalk.i64_in _ (by omega)
        have v2 : (n : Int) * 4 = (n4 : Int) := by omega
        have v3 : IntKind.i64.wrap (n4 : Int) = (n4 : Int) := IntWalk.i64_in _ (by omega)
        have Hn4 := Lib.hid hn4
        have Hlf := Lib.hid hlf
        clear hn4 hlf
        go_upto_region 6 with fail
        with_reducible refine wp_region_list ?_
        with_reducible refine wpList_plain rfl ?_
        intro K hK
        go_simp
        first | with_reducible refine hK _ _ ?_ | refine hK _ _ ?_
        clear hK K
        (try simp only [Act.put, List.setIfInBounds_toArray, List.set_cons_zero, List.set_cons_succ])
        with_reducible refine wpList_plain rfl ?_
        intro K hK
        go_simp
        refine (Fault_ok p p s 8 w4 R4.out).mono ?_; rintro e w5 ⟨rfl, rfl⟩
        first | with_reducible refine hK _ _ ?_ | refine hK _ _ ?_
        clear hK K
        (try simp only [Act.put, List.setIfInBounds_toArray, List.set_cons_zero, List.set_cons_succ])
        with_reducible refine wpList_plain rfl ?_
        intro K hK
        go_simp
        first | with_reducible refine hK _ _ ?_ | refine hK _ _ ?_
        clear hK K
        (try simp only [Act.put, List.setIfInBounds_toArray, List.set_cons_zero, List.set_cons_succ])
        with_reducible refine wpList_plain rfl ?_
        intro K hK
        go_simp
        first | with_reducible refine hK _ _ ?_ | refine hK _ _ ?_
        clear hK K
        (try simp only [Act.put, List.setIfInBounds_toArray, List.set_cons_zero, List.set_cons_succ])
        with_reducible refine wpList_step ?_
        intro K hK
        rw [if_pos (by rfl)]
        go_simp
        first | with_reducible refine hK _ _ ?_ | refine hK _ _ ?_
        clear hK K
        (try simp only [Act.put, List.setIfInBounds_toArray, List.set_cons_zero, List.set_cons_succ])
        with_reducible refine wpList_step ?_
        intro K hK
        rw [if_pos (by rfl)]
        go_simp
        first | with_reducible refine hK _ _ ?_ | refine hK _ _ ?_
        clear hK K
        (try simp only [Act.put, List.setIfInBounds_toArray, List.set_cons_zero, List.set_cons_succ])
        with_reducible refine wpList_step ?_
        intro K hK
        rw [if_pos (by rfl)]
        go_simp
        first | with_reducible refine hK _ _ ?_ | refine hK _ _ ?_
        clear hK K
        (try simp only [Act.put, List.setIfInBounds_toArray, List.set_cons_zero, List.set_cons_succ])
        with_reducible refine wpList_step ?_
        intro K hK
        rw [if_pos (by rfl)]
        go_simp
        first | with_reducible refine hK _ _ ?_ | refine hK _ _ ?_
        clear hK K
        (try simp only [Act.put, List.setIfInBounds_toArray, List.set_cons_zero, List.set_cons_succ])
        with_reducible refine wpList_step ?_
        intro K hK
        rw [if_pos (by rfl)]
        go_simp
        refine (Left_any p p s 8 w4 R4.out (by omega) (by omega)).mono ?_; rintro e w5 ⟨rfl, rfl⟩; rw [Hlf.out]
        first | with_reducible refine hK _ _ ?_ | refine hK _ _ ?_
        clear hK K
        (try simp only [Act.put, List.setIfInBounds_toArray, List.set_cons_zero, List.set_cons_succ])
        by_cases heq : n4 = lf
        case neg =>
          have e1 : ((n4 : Int) != (lf : Int)) = true := by simp; omega
          have e2 : (n4 != lf) = true := by simp [heq]
          with_reducible refine wpList_step ?_
          intro K hK
          rw [if_pos (by rfl)]
          go_simp
          first | with_reducible refine hK _ _ ?_ | refine hK _ _ ?_
          clear hK K
          (try simp only [Act.put, List.setIfInBounds_toArray, List.set_cons_zero, List.set_cons_succ])
          with_reducible refine wpList_plain rfl ?_
          intro K hK
          go_simp
          first | with_reducible refine hK _ _ ?_ | refine hK _ _ ?_
          clear hK K
          (try simp only [Act.put, List.setIfInBounds_toArray, List.set_cons_zero, List.set_cons_succ])
          have hf := HNo.out w4.drew H1.out (by rw [HB.out, H1.out, Hn.out, Hn4.out, Hlf.out, decide_eq_false heq]; simp) B4.out.drew
          have Hf := Lib.hid hf
          clear hf
          go_wp2_with fail
          go_ret3
          exact Hf.out
        case pos =>
          subst heq
          have e1 : ((n4 : Int) != (n4 : Int)) = false := by simp
          have e2 : (n4 != n4) = false := by simp
          with_reducible refine wpList_step ?_
          intro K hK
          rw [if_pos (by rfl)]
          go_simp
          first | with_reducible refine hK _ _ ?_ | refine hK _ _ ?_
          clear hK K
          (try simp only [Act.put, List.setIfInBounds_toArray, List.set_cons_zero, List.set_cons_succ])
          with_reducible refine wpList_plain rfl ?_
          intro K hK
          go_simp
          first | with_reducible refine hK _ _ ?_ | refine hK _ _ ?_
          clear hK K
          (try simp only [Act.put, List.setIfInBounds_toArray, List.set_cons_zero, List.set_cons_succ])
          clear e1 e2 v1 v2 v3
          have hsz : n * 4 + 8 = s.size := by have := Hn4.out; have := Hlf.out; omega
          have Hsz := Lib.hid hsz
          clear hsz
          have R5 : Hid (Rd w4.drew p p s 8) := R4.out
          have B5 := Lib.hid B4.out.drew
          go_upto_region 10 with fail
          go_loopw [10, 34] (fun lv iv wr => ∃ (k : Nat), k ≤ n ∧ Hid (OwnM wr (p + 1) lv (numsOf s k)) ∧ Hid (Rd wr p p s (8 + 4 * k)) ∧ Hid (Below p w4 wr) ∧ Hid (p + 1 ≤ wr.heap.size) ∧ iv = .int .u32 (k : Int)) (fun _ iv _ => n - (intOf iv).toNat)
          case atStart => exact ⟨0, Nat.zero_le _, OwnM.nil _ _, R5, (Below.refl _ _).drew, by show _ ≤ _; exact hz4, rfl⟩
          case round =>
            obtain ⟨k, hk, Ok, Rk, Bk, Zk, rfl⟩ := hrel
            obtain ⟨lad, lcap, hlv, _⟩ := Ok.out.shape
            rw [numsOf_len] at hlv
            subst hlv
            by_cases hlt : k < n
            case pos =>
              have dk : decide (k < n) = true := decide_eq_true hlt
              have dk2 : decide ((k : Int) < (n : Int)) = true := decide_eq_true (by omega)
              have wk : IntKind.u32.wrap ((k : Int) + 1) = (k : Int) + 1 := IntWalk.u32_in _ (by omega)
              have hx2 := numsOf_next s k
              obtain ⟨x, hx⟩ : ∃ x, told (piece s (8 + 4 * k) 4) = x := ⟨_, rfl⟩
              rw [hx] at hx2
              have Hx := Lib.hid hx
              have Hx2 := Lib.hid hx2
              clear hx hx2
              go_upto_region 11 with fail
              clear dk dk2
              with_reducible refine wp_region_list ?_
              with_reducible refine wpList_plain rfl ?_
              intro K hK
              go_simp
              first | with_reducible refine hK _ _ ?_ | refine hK _ _ ?_
              clear hK K
              (try simp only [Act.put, List.setIfInBounds_toArray, List.set_cons_zero, List.set_cons_succ])
              with_reducible refine wpList_plain rfl ?_
              intro K hK
              go_simp
              first | with_reducible refine hK _ _ ?_ | refine hK _ _ ?_
              clear hK K
              (try simp only [Act.put, List.setIfInBounds_toArray, List.set_cons_zero, List.set_cons_succ])
              with_reducible refine wpList_plain rfl ?_
              intro K hK
              go_simp
              refine (Take_m p p s (8 + 4 * k) wr Rk.out (by have := Hsz.out; omega) (by omega)).mono ?_; rintro e w6 ⟨rfl, r6, m6⟩; rw [Hx.out]
              first | with_reducible refine hK _ _ ?_ | refine hK _ _ ?_
              clear hK K
              (try simp only [Act.put, List.setIfInBounds_toArray, List.set_cons_zero, List.set_cons_succ])
              have O6 := Lib.hid (Ok.out.mod m6 (fun g hg e => by have := (Ok.out.lt g hg).1; omega))
              have R6 := Lib.hid r6
              have B6 := Lib.hid (Bk.out.trans (m6.below (n := p) (fun k hk e => by omega) (by have := Zk.out; omega)))
              have hz6 : p + 1 ≤ w6.heap.size := by have := m6.size; have := Zk.out; omega
              clear r6 m6 Ok Rk Bk Zk
              with_reducible refine wpList_plain rfl ?_
              intro K hK
              go_simp
              first | with_reducible refine hK _ _ ?_ | refine hK _ _ ?_
              clear hK K
              (try simp only [Act.put, List.setIfInBounds_toArray, List.set_cons_zero, List.set_cons_succ])
              refine wpList_appM w6 27 x rfl _ _ rfl (p + 1) (.slice lad k lcap) (numsOf s k) rfl O6.out _ rfl (by rw [numsOf_len]; have := Hsz.out; omega) hz6 ?_
              intro v7 w7 o7 m7 n7
              (try simp only [Act.put, List.setIfInBounds_toArray, List.set_cons_zero, List.set_cons_succ])
              have O7 : Hid (OwnM w7 (p + 1) v7 (numsOf s (k + 1))) := by show OwnM _ _ _ _; rw [Hx2.out]; exact o7
              have R7 : Hid (Rd w7 p p s (8 + 4 * (k + 1))) := ⟨R6.out.1, m7.heap R6.out.2 (fun e => by have := (O6.out.lt p e).1; omega)⟩
              have B7 := Lib.hid (B6.out.trans (m7.below (n := p) (fun k hk e => by have := (O6.out.lt k e).1; omega) (by omega)))
              have Z7 : Hid (p + 1 ≤ w7.heap.size) := by show _ ≤ _; have := m7.size; omega
              clear o7 m7 n7 O6 R6 B6
              with_reducible refine wpList_plain rfl ?_
              intro K hK
              go_simp
              first | with_reducible refine hK _ _ ?_ | refine hK _ _ ?_
              clear hK K
              (try simp only [Act.put, List.setIfInBounds_toArray, List.set_cons_zero, List.set_cons_succ])
              go_wp2_with fail
              exact ⟨⟨k + 1, by omega, O7, R7, B7, Z7, by go_num⟩, by simp [intOf]; omega⟩
            case neg =>
              have dk : decide (k < n) = false := decide_eq_false hlt
              have dk2 : decide ((k : Int) < (n : Int)) = false := decide_eq_false (by omega)
              obtain rfl : k = n := by omega
              have E5 : Hid (wr.heap[N]? = some (.cells #[.int .i64 a, .int .i64 b] 23 (0, 0))) := heap_below E4.out Bk.out hNp
              have B9 := Lib.hid (B4.out.trans (Bk.out.mono (by omega)))
              have k0 := heap_cell E5.out (o := 0)
              have k1 := heap_cell E5.out (o := 1)
              have UR := Lib.hid (Ok.out.row (numsOf_all s k))
              obtain ⟨BS, hBS⟩ : ∃ x, bodyS a b nx (numsOf s k) = x := ⟨_, rfl⟩
              obtain ⟨q2, hq2⟩ : ∃ q, bodyB a b nx (numsOf s k) = q := ⟨_, rfl⟩
              have HBS := Lib.hid hBS
              have H2 := Lib.hid hq2
              clear hBS hq2
              go_upto_region 13 with fail
              clear dk dk2
              with_reducible refine wp_region_list ?_
              with_reducible refine wpList_plain rfl ?_
              intro K hK
              go_simp
              first | with_reducible refine hK _ _ ?_ | refine hK _ _ ?_
              clear hK K
              (try simp only [Act.put, List.setIfInBounds_toArray, List.set_cons_zero, List.set_cons_succ])
              with_reducible refine wpList_plain rfl ?_
              intro K hK
              go_simp
              first | with_reducible refine hK _ _ ?_ | refine hK _ _ ?_
              clear hK K
              (try simp only [Act.put, List.setIfInBounds_toArray, List.set_cons_zero, List.set_cons_succ])
              with_reducible refine wpList_plain rfl ?_
              intro K hK
              go_simp
              first | with_reducible refine hK _ _ ?_ | refine hK _ _ ?_
              clear hK K
              (try simp only [Act.put, List.setIfInBounds_toArray, List.set_cons_zero, List.set_cons_succ])
              with_reducible refine wpList_plain rfl ?_
              intro K hK
              go_simp
              refine (Body_any a b nx _ (numsOf s k) wr hnx2 UR).mono ?_; rintro e w8 ⟨rfl, b8⟩; rw [HBS.out]
              first | with_reducible refine hK _ _ ?_ | refine hK _ _ ?_
              clear hK K
              (try simp only [Act.put, List.setIfInBounds_toArray, List.set_cons_zero, List.set_cons_succ])
              have O8 := Lib.hid ((Ok.out.below b8 (fun g hg => (Ok.out.lt g hg).2)).mono (C := N) (by omega))
              have B8 := Lib.hid (B9.out.trans (b8.mono (by have := B9.out.size; have := HN.out; omega)))
              clear b8 Ok Rk Bk Zk E5 B9 k0 k1 UR
              cases q2
              case false =>
                have hE : bodyE a b nx (numsOf s k) = 2 := (body_no H2.out).2
                rw [hE]
                clear hE
                with_reducible refine wpList_plain rfl ?_
                intro K hK
                go_simp
                first | with_reducible refine hK _ _ ?_ | refine hK _ _ ?_
                clear hK K
                (try simp only [Act.put, List.setIfInBounds_toArray, List.set_cons_zero, List.set_cons_succ])
                with_reducible refine wpList_plain rfl ?_
                intro K hK
                go_simp
                first | with_reducible refine hK _ _ ?_ | refine hK _ _ ?_
                clear hK K
                (try simp only [Act.put, List.setIfInBounds_toArray, List.set_cons_zero, List.set_cons_succ])
                with_reducible refine wpList_plain rfl ?_
                intro K hK
                go_simp
                first | with_reducible refine hK _ _ ?_ | refine hK _ _ ?_
                clear hK K
                (try simp only [Act.put, List.setIfInBounds_toArray, List.set_cons_zero, List.set_cons_succ])
                with_reducible refine wpList_plain rfl ?_
                intro K hK
                go_simp
                first | with_reducible refine hK _ _ ?_ | refine hK _ _ ?_
                clear hK K
                (try simp only [Act.put, List.setIfInBounds_toArray, List.set_cons_zero, List.set_cons_succ])
                with_reducible refine wpList_plain rfl ?_
                intro K hK
                go_simp
                first | with_reducible refine hK _ _ ?_ | refine hK _ _ ?_
                clear hK K
                (try simp only [Act.put, List.setIfInBounds_toArray, List.set_cons_zero, List.set_cons_succ])
                have hf := HNo.out w8 H1.out (by rw [HB.out, H1.out, Hn.out, Hnx.out, H2.out]; simp) B8.out
                have Hf := Lib.hid hf
                clear hf
                go_wp2_with fail
                go_ret3
                exact Hf.out
              case true =>
                have hE : bodyE a b nx (numsOf s k) = 0 := (body_yes H2.out).2
                rw [hE]
                clear hE
                with_reducible refine wpList_plain rfl ?_
                intro K hK
                go_simp
                first | with_reducible refine hK _ _ ?_ | refine hK _ _ ?_
                clear hK K
                (try simp only [Act.put, List.setIfInBounds_toArray, List.set_cons_zero, List.set_cons_succ])
                with_reducible refine wpList_plain rfl ?_
                intro K hK
                go_simp
                first | with_reducible refine hK _ _ ?_ | refine hK _ _ ?_
                clear hK K
                (try simp only [Act.put, List.setIfInBounds_toArray, List.set_cons_zero, List.set_cons_succ])
                with_reducible refine wpList_plain rfl ?_
                intro K hK
                go_simp
                first | with_reducible refine hK _ _ ?_ | refine hK _ _ ?_
                clear hK K
                (try simp only [Act.put, List.setIfInBounds_toArray, List.set_cons_zero, List.set_cons_succ])
                with_reducible refine wpList_plain rfl ?_
                intro K hK
                go_simp
                first | with_reducible refine hK _ _ ?_ | refine hK _ _ ?_
                clear hK K
                (try simp only [Act.put, List.setIfInBounds_toArray, List.set_cons_zero, List.set_cons_succ])
                with_reducible refine wpList_plain rfl ?_
                intro K hK
                go_simp
                first | with_reducible refine hK _ _ ?_ | refine hK _ _ ?_
                clear hK K
                (try simp only [Act.put, List.setIfInBounds_toArray, List.set_cons_zero, List.set_cons_succ])
                by_cases hbs : BS = s
                case pos =>
                  subst hbs
                  have hf := HOk.out w8 (.slice lad k lcap) (by rw [HB.out, H1.out, Hn.out, Hnx.out, H2.out, HBS.out, decide_eq_true (by omega), decide_eq_true (by have := Hsz.out; omega)]; simp) (by rw [Hn.out]; exact O8.out) B8.out
                  rw [Hnx.out] at hf
                  have Hf := Lib.hid hf
                  clear hf
                  have e1 : (BS.toList == BS.toList) = true := by simp
                  go_wp2_with fail
                  go_ret3
                  exact Hf.out
                case neg =>
                  have hf := HNo.out w8 H1.out (by rw [HB.out, H1.out, Hn.out, Hnx.out, H2.out, HBS.out, decide_eq_false hbs]; simp) B8.out
                  have Hf := Lib.hid hf
                  have e1 : (BS.toList == s.toList) = false := by
                    rw [Bool.eq_false_iff]
                    intro h
                    apply hbs
                    have h2 := eq_of_beq h
                    rw [ByteArray.toList_eq, ByteArray.toList_eq] at h2
                    exact ByteArray.ext (Array.toList_inj.1 h2)
                  clear hf hbs
                  go_wp2_with fail
                  go_ret3
                  exact Hf.out
end Go.Proofs.Ytkngmnfgdlnddaa
