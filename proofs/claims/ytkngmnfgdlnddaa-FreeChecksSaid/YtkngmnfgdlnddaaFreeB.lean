/-
  The walks of free.number, Body's closure, IndexFunc and ContainsFunc with it, free.rising.
-/
import Derived.Test.YtkngmnfgdlnddaaFreeA
namespace Go.Proofs.Ytkngmnfgdlnddaa
open Go.RowKit Go.Lib Hw
set_option linter.unusedVariables false

/-- may it be a page's number that a list tells? -/
def numB (n : Nat) : Bool := decide (2 ≤ n) && decide (n < 65536)
theorem number_any (n : Nat) (w : World) : Calls Try.prog 57 #[.int .u32 (n : Int)] w fun e w' => e = .returned (.bool (numB n)) ∧ w = w' := by
  by_cases h1 : 2 ≤ n
  · have d1 : decide (2 ≤ n) = true := decide_eq_true h1
    have d2 : decide ((2 : Int) ≤ (n : Int)) = true := decide_eq_true (by omega)
    by_cases h2 : n < 65536
    · have d3 : decide (n < 65536) = true := decide_eq_true h2
      have d4 : decide ((n : Int) < 65536) = true := decide_eq_true (by omega)
      have hn : numB n = true := by unfold numB; rw [d1, d3]; rfl
      rw [hn]
      clear hn
      go_enter Try.func57, Try.ntmps57
      go_wp2_with fail
      go_ret
      exact ⟨rfl, rfl⟩
    · have d3 : decide (n < 65536) = false := decide_eq_false h2
      have d4 : decide ((n : Int) < 65536) = false := decide_eq_false (by omega)
      have hn : numB n = false := by unfold numB; rw [d1, d3]; rfl
      rw [hn]
      clear hn
      go_enter Try.func57, Try.ntmps57
      go_wp2_with fail
      go_ret
      exact ⟨rfl, rfl⟩
  · have d1 : decide (2 ≤ n) = false := decide_eq_false h1
    have d2 : decide ((2 : Int) ≤ (n : Int)) = false := decide_eq_false (by omega)
    have hn : numB n = false := by unfold numB; rw [d1]; rfl
    rw [hn]
    clear hn
    go_enter Try.func57, Try.ntmps57
    go_wp2_with fail
    go_ret
    exact ⟨rfl, rfl⟩
theorem odd_any (n : Nat) (w : World) : Calls Try.prog 56 #[.int .u32 (n : Int)] w fun e w' => e = .returned (.bool (!numB n)) ∧ w = w' := by
  go_enter Try.func56, Try.ntmps56
  go_wp2_with (go_at_call 57; refine (number_any n _).mono ?_; rintro e w2 ⟨rfl, rfl⟩)
  go_ret
  exact ⟨rfl, rfl⟩
def oddV : Value := .func (.func 56) #[] #[]
def AnyPost (p : Nat → Bool) (xs : List Nat) (w : World) (e : Ending) (w' : World) : Prop := (∃ r : Int, e = .returned (.int .i64 r) ∧ decide (0 ≤ r) = xs.any p) ∧ w = w'
set_option maxHeartbeats 1000000 in
theorem IndexFunc_odd (v : Value) (xs : List Nat) (w : World) (hv : Hid (URow w v xs)) :
    Calls Try.prog 79 #[v, oddV] w (AnyPost (fun n => !numB n) xs w) := by
  obtain ⟨ad, c, hv1, hl, hc⟩ := hv.out.form
  subst hv1
  have HC := Lib.hid hc
  have HY : Hid (∀ k (h : k < xs.length), (!numB xs[k]) = true → AnyPost (fun n => !numB n) xs w (.returned (.int .i64 (k : Int))) w) := fun k h e => ⟨⟨_, rfl, by
    rw [decide_eq_true (by omega), eq_comm, List.any_eq_true]
    exact ⟨xs[k], List.getElem_mem h, e⟩⟩, rfl⟩
  have HZ : Hid ((∀ k (h : k < xs.length), (!numB xs[k]) = false) → AnyPost (fun n => !numB n) xs w (.returned (.int .i64 (-1))) w) := fun h => ⟨⟨_, rfl, by
    rw [decide_eq_false (by omega), eq_comm, List.any_eq_false]
    intro x hx
    obtain ⟨k, hk, rfl⟩ := List.mem_iff_getElem.1 hx
    rw [h k hk]
    decide⟩, rfl⟩
  obtain ⟨R, hR⟩ : ∃ R, AnyPost (fun n => !numB n) xs w = R := ⟨_, rfl⟩
  rw [hR] at HY HZ ⊢
  clear hc hR
  unfold oddV
  go_enter Try.func79, Try.ntmps79
  go_upto_region 2 with fail
  go_loopw [8] (fun i wr => ∃ (k : Nat), k ≤ xs.length ∧ Hid (∀ j (h : j < xs.length), j < k → (!numB xs[j]) = false) ∧ wr = w ∧ i = .int .i64 (k : Int)) (fun i _ => xs.length - (intOf i).toNat)
  case atStart => exact ⟨0, Nat.zero_le _, fun j _ h => by omega, by first | rfl | trivial, rfl⟩
  case round =>
    obtain ⟨k, hk, HN, rfl, rfl⟩ := hrel
    by_cases hlt : k < xs.length
    case pos =>
      have dk : decide (k < xs.length) = true := decide_eq_true hlt
      have dk2 : decide ((k : Int) < (xs.length : Int)) = true := decide_eq_true (by omega)
      have ik : (k : Int) < (xs.length : Int) := by omega
      obtain ⟨vb, vo, rfl, hcs⟩ := HC.out (by omega)
      have hc := hcs k hlt
      have hy := HY.out k hlt
      obtain ⟨y, hy1⟩ : ∃ y, xs[k] = y := ⟨_, rfl⟩
      rw [hy1] at hc hy
      have Hy := Lib.hid hy1
      have HY2 := Lib.hid hy
      unfold uN at hc
      obtain ⟨q, hq⟩ : ∃ q, numB y = q := ⟨_, rfl⟩
      have HQ := Lib.hid hq
      clear hy1 hy hcs hq
      cases q
      case false =>
        have hf := HY2.out (by rw [HQ.out]; rfl)
        have Hf := Lib.hid hf
        clear hf
        go_wp2_with (go_at_call 56; refine (odd_any y _).mono ?_; rintro e w2 ⟨rfl, rfl⟩; rw [HQ.out])
        exact Hf.out
      case true =>
        have HN2 : Hid (∀ j (h : j < xs.length), j < k + 1 → (!numB xs[j]) = false) := fun j h hj => by
          by_cases e : j = k
          · subst e; rw [Hy.out, HQ.out]; rfl
          · exact HN.out j h (by omega)
        clear HN
        go_wp2_with (go_at_call 56; refine (odd_any y _).mono ?_; rintro e w2 ⟨rfl, rfl⟩; rw [HQ.out])
        exact ⟨⟨k + 1, by omega, HN2, by first | rfl | trivial, by go_num⟩, by simp [intOf]; omega⟩
    case neg =>
      have dk : decide (k < xs.length) = false := decide_eq_false hlt
      have dk2 : decide ((k : Int) < (xs.length : Int)) = false := decide_eq_false (by omega)
      have hf := HZ.out (fun j h => HN.out j h (by omega))
      have Hf := Lib.hid hf
      clear hf
      go_wp2_with fail
      exact Hf.out
theorem ContainsFunc_odd (v : Value) (xs : List Nat) (w : World) (hv : Hid (URow w v xs)) :
    Calls Try.prog 58 #[v, oddV] w fun e w' => e = .returned (.bool (xs.any fun n => !numB n)) ∧ w = w' := by
  obtain ⟨ad, c, hv1, _⟩ := hv.out.form
  subst hv1
  obtain ⟨q, hq⟩ : ∃ q, (xs.any fun n => !numB n) = q := ⟨_, rfl⟩
  have HQ := Lib.hid hq
  rw [hq]
  clear hq
  unfold oddV
  go_enter Try.func58, Try.ntmps58
  go_upto_region 1 with fail
  with_reducible refine wp_region_list ?_
  with_reducible refine wpList_plain rfl ?_
  intro K hK
  go_simp
  first | with_reducible refine hK _ _ ?_ | refine hK _ _ ?_
  clear hK K
  (try simp only [Act.put, List.setIfInBounds_toArray, List.set_cons_zero, List.set_cons_succ])
  with_reducible refine wpList_plain rfl ?_
  intro K hK
  go_simp
  first | with_reducible refine hK _ _ ?_ | refine hK _ _ ?_
  clear hK K
  (try simp only [Act.put, List.setIfInBounds_toArray, List.set_cons_zero, List.set_cons_succ])
  with_reducible refine wpList_plain rfl ?_
  intro K hK
  go_simp
  refine (IndexFunc_odd _ xs w hv).mono ?_; rintro e w2 ⟨⟨r, rfl, hr⟩, rfl⟩; rw [HQ.out] at hr
  first | with_reducible refine hK _ _ ?_ | refine hK _ _ ?_
  clear hK K
  (try simp only [Act.put, List.setIfInBounds_toArray, List.set_cons_zero, List.set_cons_succ])
  have Hr := Lib.hid hr
  clear hr
  with_reducible refine wpList_plain rfl ?_
  intro K hK
  go_simp
  first | with_reducible refine hK _ _ ?_ | refine hK _ _ ?_
  clear hK K
  (try simp only [Act.put, List.setIfInBounds_toArray, List.set_cons_zero, List.set_cons_succ])
  with_reducible refine wpList_plain rfl ?_
  intro K hK
  go_simp
  first | with_reducible refine hK _ _ ?_ | refine hK _ _ ?_
  clear hK K
  (try simp only [Act.put, List.setIfInBounds_toArray, List.set_cons_zero, List.set_cons_succ])
  go_wp2_with fail
  go_ret
  exact ⟨by rw [← Hr.out]; rfl, rfl⟩
/-- do numbers rise? -/
def risB : List Nat → Bool
  | [] => true
  | [_] => true
  | x :: y :: r => decide (x < y) && risB (y :: r)
theorem risB_iff : ∀ xs : List Nat, risB xs = true ↔ ∀ i (h : i + 1 < xs.length), xs[i] < xs[i + 1]
  | [] => ⟨fun _ i h => by simp at h, fun _ => rfl⟩
  | [x] => ⟨fun _ i h => by simp at h, fun _ => rfl⟩
  | x :: y :: r => by
    rw [risB, Bool.and_eq_true, decide_eq_true_eq, risB_iff (y :: r)]
    constructor
    · rintro ⟨h1, h2⟩ i hi
      match i with
      | 0 => exact h1
      | i + 1 => exact h2 i (by simpa using hi)
    · intro h
      exact ⟨h 0 (by simp), fun i hi => h (i + 1) (by simpa using hi)⟩
set_option maxHeartbeats 1000000 in
theorem rising_any (v : Value) (xs : List Nat) (w : World) (hv : Hid (URow w v xs)) :
    Calls Try.prog 59 #[v] w fun e w' => e = .returned (.bool (risB xs)) ∧ Below w.heap.size w w' := by
  obtain ⟨ad, c, hv1, hl, _⟩ := hv.out.form
  subst hv1
  obtain ⟨q, hq⟩ : ∃ q, risB xs = q := ⟨_, rfl⟩
  have HF : Hid (∀ i (h : i + 1 < xs.length), xs[i + 1] ≤ xs[i] → q = false) := fun i h hle => by
    rw [← hq]
    refine Bool.eq_false_iff.2 (fun hr => ?_)
    have := (risB_iff xs).1 hr i h
    omega
  have HT : Hid ((∀ i (h : i + 1 < xs.length), xs[i] < xs[i + 1]) → q = true) := fun h => by rw [← hq]; exact (risB_iff xs).2 h
  rw [hq]
  clear hq
  go_enter Try.func59, Try.ntmps59
  go_upto_region 2 with fail
  go_loopw [3] (fun i wr => ∃ (k : Nat), 1 ≤ k ∧ k ≤ xs.length + 1 ∧ Hid (∀ j (h : j + 1 < xs.length), j + 1 < k → xs[j] < xs[j + 1]) ∧ Hid (Below w.heap.size w wr) ∧ i = .int .i64 (k : Int)) (fun i _ => xs.length + 1 - (intOf i).toNat)
  case atStart => exact ⟨1, Nat.le_refl _, by omega, fun j _ h => by omega, Below.refl _ _, rfl⟩
  case round =>
    obtain ⟨k, hk1, hk, HN, Bw, rfl⟩ := hrel
    by_cases hlt : k < xs.length
    case pos =>
      have dk : decide (k < xs.length) = true := decide_eq_true hlt
      have dk2 : decide ((k : Int) < (xs.length : Int)) = true := decide_eq_true (by omega)
      have ik : (k : Int) < (xs.length : Int) := by omega
      obtain ⟨j, hj⟩ : ∃ j, k = j + 1 := ⟨k - 1, by omega⟩
      have hjl : j + 1 < xs.length := by omega
      have hj0 : j < xs.length := by omega
      obtain ⟨_, _, e9, _, hc⟩ := (hv.out.below Bw.out).form
      obtain ⟨vb, vo, e8, hcs⟩ := hc (by omega)
      have e7 := (Value.slice.inj e9).1
      rw [e8] at e7
      subst e7
      have c0 := hcs j hj0
      have c1 := hcs k hlt
      have hf := HF.out j hjl
      have hkj : xs[k]'hlt = xs[j + 1]'hjl := by simp only [hj]
      obtain ⟨x, hx⟩ : ∃ y, xs[j]'hj0 = y := ⟨_, rfl⟩
      obtain ⟨y, hy⟩ : ∃ y, xs[j + 1]'hjl = y := ⟨_, rfl⟩
      rw [hx] at c0 hf
      rw [hkj, hy] at c1
      rw [hy] at hf
      have Hx := Lib.hid hx
      have Hy := Lib.hid hy
      have Hf := Lib.hid hf
      unfold uN at c0 c1
      have j1 : (k : Int) - 1 = (j : Int) := by omega
      have j2 : IntKind.i64.wrap (j : Int) = (j : Int) := IntWalk.i64_in (j : Int) (by omega)
      have ij : (j : Int) < (xs.length : Int) := by omega
      have Hj := Lib.hid hj
      clear hcs hx hy hf hj hkj e8 e9 hc
      by_cases hxy : x < y
      case pos =>
        have e1 : decide (y ≤ x) = false := decide_eq_false (by omega)
        have e2 : decide ((y : Int) ≤ (x : Int)) = false := decide_eq_false (by omega)
        have HN2 : Hid (∀ i (h : i + 1 < xs.length), i + 1 < k + 1 → xs[i] < xs[i + 1]) := fun i h hi => by
          by_cases e : i = j
          · subst e; rw [Hx.out, Hy.out]; exact hxy
          · exact HN.out i h (by have := Hj.out; omega)
        clear HN
        go_upto_region 4 with fail
        refine wp_region_held_drew (S := fun W => W.cell? ⟨vb, vo + j, none⟩ = some (.int .u32 (x : Int)) ∧ W.cell? ⟨vb, vo + k, none⟩ = some (.int .u32 (y : Int))) (by kernel_rfl) ⟨c0, c1⟩ (fun hHeld => ?_)
        refine' wpAnyH_take (i := 0) (oi := { dst := Option.some 10, op := Op.move (Operand.tmp 0), type := 28, pos := "free.go:27", after := #[], guard := Option.none }) rfl (by kernel_rfl) (by kernel_rfl) (by kernel_rfl) (fun _ _ _ h => h) (Or.inl ⟨by rfl, _⟩) (by assumption) _
        rotate_left
        · (intro wS hSw; (try dsimp only at hSw); go_simp; try with_reducible rfl)
        try simp only [Act.put, List.setIfInBounds_toArray, List.set_cons_zero, List.set_cons_succ]
        refine' wpAnyH_take (i := 1) (oi := { dst := Option.some 11, op := Op.move (Operand.tmp 3), type := 3, pos := "free.go:27", after := #[], guard := Option.none }) rfl (by kernel_rfl) (by kernel_rfl) (by kernel_rfl) (fun _ _ _ h => h) (Or.inl ⟨by rfl, _⟩) (by assumption) _
        rotate_left
        · (intro wS hSw; (try dsimp only at hSw); go_simp; try with_reducible rfl)
        try simp only [Act.put, List.setIfInBounds_toArray, List.set_cons_zero, List.set_cons_succ]
        refine' wpAnyH_take (i := 2) (oi := { dst := Option.some 12, op := Op.binOp BinOp.sub 3 (Operand.tmp 11) (Operand.const (Value.int IntKind.i64 1)) 3, type := 3, pos := "free.go:27", after := #[{ on := 1, ground := Ground.data }], guard := Option.none }) rfl (by kernel_rfl) (by kernel_rfl) (by kernel_rfl) (fun _ _ _ h => h) (Or.inl ⟨by rfl, _⟩) (by assumption) _
        rotate_left
        · (intro wS hSw; (try dsimp only at hSw); go_simp; try with_reducible rfl)
        try simp only [Act.put, List.setIfInBounds_toArray, List.set_cons_zero, List.set_cons_succ]
        refine' wpAnyH_take (i := 3) (oi := { dst := Option.some 13, op := Op.indexAddr 28 (Operand.tmp 10) (Operand.tmp 12), type := 0, pos := "free.go:27", after := #[{ on := 0, ground := Ground.data }, { on := 2, ground := Ground.data }], guard := Option.none }) rfl (by kernel_rfl) (by kernel_rfl) (by kernel_rfl) (fun _ _ _ h => h) (Or.inl ⟨by rfl, _⟩) (by assumption) _
        rotate_left
        · (intro wS hSw; (try dsimp only at hSw); go_simp; try with_reducible rfl)
        try simp only [Act.put, List.setIfInBounds_toArray, List.set_cons_zero, List.set_cons_succ]
        refine' wpAnyH_take (i := 4) (oi := { dst := Option.some 14, op := Op.load 27 (Operand.tmp 13), type := 27, pos := "free.go:27", after := #[{ on := 3, ground := Ground.data }], guard := Option.none }) rfl (by kernel_rfl) (by kernel_rfl) (by kernel_rfl) (fun _ _ _ h => h) (Or.inl ⟨by rfl, _⟩) (by assumption) _
        rotate_left
        · (intro wS hSw; (try dsimp only at hSw); go_simp; try with_reducible rfl)
        try simp only [Act.put, List.setIfInBounds_toArray, List.set_cons_zero, List.set_cons_succ]
        refine' wpAnyH_take (i := 5) (oi := { dst := Option.some 15, op := Op.move (Operand.tmp 0), type := 28, pos := "free.go:27", after := #[], guard := Option.none }) rfl (by kernel_rfl) (by kernel_rfl) (by kernel_rfl) (fun _ _ _ h => h) (Or.inl ⟨by rfl, _⟩) (by assumption) _
        rotate_left
        · (intro wS hSw; (try dsimp only at hSw); go_simp; try with_reducible rfl)
        try simp only [Act.put, List.setIfInBounds_toArray, List.set_cons_zero, List.set_cons_succ]
        refine' wpAnyH_take (i := 6) (oi := { dst := Option.some 16, op := Op.move (Operand.tmp 3), type := 3, pos := "free.go:27", after := #[], guard := Option.none }) rfl (by kernel_rfl) (by kernel_rfl) (by kernel_rfl) (fun _ _ _ h => h) (Or.inl ⟨by rfl, _⟩) (by assumption) _
        rotate_left
        · (intro wS hSw; (try dsimp only at hSw); go_simp; try with_reducible rfl)
        try simp only [Act.put, List.setIfInBounds_toArray, List.set_cons_zero, List.set_cons_succ]
        refine' wpAnyH_take (i := 7) (oi := { dst := Option.some 17, op := Op.indexAddr 28 (Operand.tmp 15) (Operand.tmp 16), type := 0, pos := "free.go:27", after := #[{ on := 5, ground := Ground.data }, { on := 6, ground := Ground.data }], guard := Option.none }) rfl (by kernel_rfl) (by kernel_rfl) (by kernel_rfl) (fun _ _ _ h => h) (Or.inl ⟨by rfl, _⟩) (by assumption) _
        rotate_left
        · (intro wS hSw; (try dsimp only at hSw); go_simp; try with_reducible rfl)
        try simp only [Act.put, List.setIfInBounds_toArray, List.set_cons_zero, List.set_cons_succ]
        refine' wpAnyH_take (i := 8) (oi := { dst := Option.some 18, op := Op.load 27 (Operand.tmp 17), type := 27, pos := "free.go:27", after := #[{ on := 7, ground := Ground.data }], guard := Option.none }) rfl (by kernel_rfl) (by kernel_rfl) (by kernel_rfl) (fun _ _ _ h => h) (Or.inl ⟨by rfl, _⟩) (by assumption) _
        rotate_left
        · (intro wS hSw; (try dsimp only at hSw); go_simp; try with_reducible rfl)
        try simp only [Act.put, List.setIfInBounds_toArray, List.set_cons_zero, List.set_cons_succ]
        refine' wpAnyH_take (i := 9) (oi := { dst := Option.some 19, op := Op.binOp BinOp.geq 27 (Operand.tmp 14) (Operand.tmp 18) 27, type := 4, pos := "free.go:27", after := #[{ on := 4, ground := Ground.data }, { on := 8, ground := Ground.data }], guard := Option.none }) rfl (by kernel_rfl) (by kernel_rfl) (by kernel_rfl) (fun _ _ _ h => h) (Or.inl ⟨by rfl, _⟩) (by assumption) _
        rotate_left
        · (intro wS hSw; (try dsimp only at hSw); go_simp; try with_reducible rfl)
        try simp only [Act.put, List.setIfInBounds_toArray, List.set_cons_zero, List.set_cons_succ]
        refine wpAnyH_done (by kernel_rfl) ?_ _
        have B2 := Lib.hid Bw.out.drew
        clear hHeld Bw c0 c1
        go_wp2_with fail
        exact ⟨⟨k + 1, by omega, by omega, HN2, B2, by go_num⟩, by simp [intOf]; omega⟩
      case neg =>
        have e1 : decide (y ≤ x) = true := decide_eq_true (by omega)
        have e2 : decide ((y : Int) ≤ (x : Int)) = true := decide_eq_true (by omega)
        have hq := Hf.out (by omega)
        have Hq := Lib.hid hq
        clear hq
        go_upto_region 4 with fail
        refine wp_region_held_drew (S := fun W => W.cell? ⟨vb, vo + j, none⟩ = some (.int .u32 (x : Int)) ∧ W.cell? ⟨vb, vo + k, none⟩ = some (.int .u32 (y : Int))) (by kernel_rfl) ⟨c0, c1⟩ (fun hHeld => ?_)
        refine' wpAnyH_take (i := 0) (oi := { dst := Option.some 10, op := Op.move (Operand.tmp 0), type := 28, pos := "free.go:27", after := #[], guard := Option.none }) rfl (by kernel_rfl) (by kernel_rfl) (by kernel_rfl) (fun _ _ _ h => h) (Or.inl ⟨by rfl, _⟩) (by assumption) _
        rotate_left
        · (intro wS hSw; (try dsimp only at hSw); go_simp; try with_reducible rfl)
        try simp only [Act.put, List.setIfInBounds_toArray, List.set_cons_zero, List.set_cons_succ]
        refine' wpAnyH_take (i := 1) (oi := { dst := Option.some 11, op := Op.move (Operand.tmp 3), type := 3, pos := "free.go:27", after := #[], guard := Option.none }) rfl (by kernel_rfl) (by kernel_rfl) (by kernel_rfl) (fun _ _ _ h => h) (Or.inl ⟨by rfl, _⟩) (by assumption) _
        rotate_left
        · (intro wS hSw; (try dsimp only at hSw); go_simp; try with_reducible rfl)
        try simp only [Act.put, List.setIfInBounds_toArray, List.set_cons_zero, List.set_cons_succ]
        refine' wpAnyH_take (i := 2) (oi := { dst := Option.some 12, op := Op.binOp BinOp.sub 3 (Operand.tmp 11) (Operand.const (Value.int IntKind.i64 1)) 3, type := 3, pos := "free.go:27", after := #[{ on := 1, ground := Ground.data }], guard := Option.none }) rfl (by kernel_rfl) (by kernel_rfl) (by kernel_rfl) (fun _ _ _ h => h) (Or.inl ⟨by rfl, _⟩) (by assumption) _
        rotate_left
        · (intro wS hSw; (try dsimp only at hSw); go_simp; try with_reducible rfl)
        try simp only [Act.put, List.setIfInBounds_toArray, List.set_cons_zero, List.set_cons_succ]
        refine' wpAnyH_take (i := 3) (oi := { dst := Option.some 13, op := Op.indexAddr 28 (Operand.tmp 10) (Operand.tmp 12), type := 0, pos := "free.go:27", after := #[{ on := 0, ground := Ground.data }, { on := 2, ground := Ground.data }], guard := Option.none }) rfl (by kernel_rfl) (by kernel_rfl) (by kernel_rfl) (fun _ _ _ h => h) (Or.inl ⟨by rfl, _⟩) (by assumption) _
        rotate_left
        · (intro wS hSw; (try dsimp only at hSw); go_simp; try with_reducible rfl)
        try simp only [Act.put, List.setIfInBounds_toArray, List.set_cons_zero, List.set_cons_succ]
        refine' wpAnyH_take (i := 4) (oi := { dst := Option.some 14, op := Op.load 27 (Operand.tmp 13), type := 27, pos := "free.go:27", after := #[{ on := 3, ground := Ground.data }], guard := Option.none }) rfl (by kernel_rfl) (by kernel_rfl) (by kernel_rfl) (fun _ _ _ h => h) (Or.inl ⟨by rfl, _⟩) (by assumption) _
        rotate_left
        · (intro wS hSw; (try dsimp only at hSw); go_simp; try with_reducible rfl)
        try simp only [Act.put, List.setIfInBounds_toArray, List.set_cons_zero, List.set_cons_succ]
        refine' wpAnyH_take (i := 5) (oi := { dst := Option.some 15, op := Op.move (Operand.tmp 0), type := 28, pos := "free.go:27", after := #[], guard := Option.none }) rfl (by kernel_rfl) (by kernel_rfl) (by kernel_rfl) (fun _ _ _ h => h) (Or.inl ⟨by rfl, _⟩) (by assumption) _
        rotate_left
        · (intro wS hSw; (try dsimp only at hSw); go_simp; try with_reducible rfl)
        try simp only [Act.put, List.setIfInBounds_toArray, List.set_cons_zero, List.set_cons_succ]
        refine' wpAnyH_take (i := 6) (oi := { dst := Option.some 16, op := Op.move (Operand.tmp 3), type := 3, pos := "free.go:27", after := #[], guard := Option.none }) rfl (by kernel_rfl) (by kernel_rfl) (by kernel_rfl) (fun _ _ _ h => h) (Or.inl ⟨by rfl, _⟩) (by assumption) _
        rotate_left
        · (intro wS hSw; (try dsimp only at hSw); go_simp; try with_reducible rfl)
        try simp only [Act.put, List.setIfInBounds_toArray, List.set_cons_zero, List.set_cons_succ]
        refine' wpAnyH_take (i := 7) (oi := { dst := Option.some 17, op := Op.indexAddr 28 (Operand.tmp 15) (Operand.tmp 16), type := 0, pos := "free.go:27", after := #[{ on := 5, ground := Ground.data }, { on := 6, ground := Ground.data }], guard := Option.none }) rfl (by kernel_rfl) (by kernel_rfl) (by kernel_rfl) (fun _ _ _ h => h) (Or.inl ⟨by rfl, _⟩) (by assumption) _
        rotate_left
        · (intro wS hSw; (try dsimp only at hSw); go_simp; try with_reducible rfl)
        try simp only [Act.put, List.setIfInBounds_toArray, List.set_cons_zero, List.set_cons_succ]
        refine' wpAnyH_take (i := 8) (oi := { dst := Option.some 18, op := Op.load 27 (Operand.tmp 17), type := 27, pos := "free.go:27", after := #[{ on := 7, ground := Ground.data }], guard := Option.none }) rfl (by kernel_rfl) (by kernel_rfl) (by kernel_rfl) (fun _ _ _ h => h) (Or.inl ⟨by rfl, _⟩) (by assumption) _
        rotate_left
        · (intro wS hSw; (try dsimp only at hSw); go_simp; try with_reducible rfl)
        try simp only [Act.put, List.setIfInBounds_toArray, List.set_cons_zero, List.set_cons_succ]
        refine' wpAnyH_take (i := 9) (oi := { dst := Option.some 19, op := Op.binOp BinOp.geq 27 (Operand.tmp 14) (Operand.tmp 18) 27, type := 4, pos := "free.go:27", after := #[{ on := 4, ground := Ground.data }, { on := 8, ground := Ground.data }], guard := Option.none }) rfl (by kernel_rfl) (by kernel_rfl) (by kernel_rfl) (fun _ _ _ h => h) (Or.inl ⟨by rfl, _⟩) (by assumption) _
        rotate_left
        · (intro wS hSw; (try dsimp only at hSw); go_simp; try with_reducible rfl)
        try simp only [Act.put, List.setIfInBounds_toArray, List.set_cons_zero, List.set_cons_succ]
        refine wpAnyH_done (by kernel_rfl) ?_ _
        have B2 := Lib.hid Bw.out.drew
        clear hHeld Bw c0 c1
        go_wp2_with fail
        go_ret
        exact ⟨by rw [Hq.out]; rfl, B2.out⟩
    case neg =>
      have dk : decide (k < xs.length) = false := decide_eq_false hlt
      have dk2 : decide ((k : Int) < (xs.length : Int)) = false := decide_eq_false (by omega)
      have hq := HT.out (fun i h => HN.out i h (by omega))
      have Hq := Lib.hid hq
      clear hq
      go_wp2_with fail
      go_ret
      exact ⟨by rw [Hq.out]; rfl, Bw.out⟩
end Go.Proofs.Ytkngmnfgdlnddaa
