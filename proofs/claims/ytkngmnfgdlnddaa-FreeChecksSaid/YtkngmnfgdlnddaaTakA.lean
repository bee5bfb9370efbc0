/-
  The walks of free.Check, of a plan's taking: its end, may, IndexFunc with may.
-/
import Derived.Test.YtkngmnfgdlnddaaFreeN
namespace Go.Proofs.Ytkngmnfgdlnddaa
open Go.RowKit Go.Lib Hw Go.Maps
set_option linter.unusedVariables false

theorem below_drewN (B : Nat) (w : World) (q : Nat) : Below B w (w.drewN q) := ⟨rfl, rfl, rfl, Nat.le_refl _, fun _ _ => rfl⟩
theorem mod_drewN (S : Nat → Prop) (w : World) (q : Nat) : Mod S w (w.drewN q) := ⟨rfl, rfl, rfl, Nat.le_refl _, fun _ _ _ => rfl⟩
/-- a plan that is made, as it lies in its block -/
def TB (w : World) (T : Nat) (tv lv : Value) (op pages hb lb most : Nat) (chv : Value) : Prop :=
  w.heap[T]? = some (.cells #[tv, lv, .int .i64 (op : Int), .int .u32 (pages : Int), .map (some hb), .map (some lb), .int .u32 (most : Int), chv] 128 (0, 0))
set_option maxHeartbeats 1000000 in
theorem end_no (T : Nat) (tv lv : Value) (op pages hb lb most : Nat) (chv : Value) (w : World) (h : Hid (TB w T tv lv op pages hb lb most chv)) (hm : ¬ pages < most) :
    Calls Try.prog 88 #[.pointer (some ⟨T, 0, none⟩)] w fun e w' => e = .returned (.tuple #[.int .u32 0, .bool false]) ∧ Below w.heap.size w w' := by
  have c3 := heap_cell h.out (o := 3)
  have c6 := heap_cell h.out (o := 6)
  have d1 : decide (most ≤ pages) = true := decide_eq_true (by omega)
  have d2 : decide ((most : Int) ≤ (pages : Int)) = true := decide_eq_true (by omega)
  go_enter Try.func88, Try.ntmps88
  go_wp2_with fail
  go_quiet (fail)
  go_wp2_with fail
  go_ret2
  exact ⟨rfl, below_drewN _ _ _⟩
set_option maxHeartbeats 1000000 in
theorem end_yes (T : Nat) (tv lv : Value) (op pages hb lb most : Nat) (chv : Value) (w : World) (h : Hid (TB w T tv lv op pages hb lb most chv)) (hm : pages < most) (hm2 : most ≤ 65536) :
    Calls Try.prog 88 #[.pointer (some ⟨T, 0, none⟩)] w fun e w' => e = .returned (.tuple #[.int .u32 (pages : Int), .bool true]) ∧ TB w' T tv lv op (pages + 1) hb lb most chv ∧ Mod (fun k => k = T) w w' := by
  have c3 := heap_cell h.out (o := 3)
  have c6 := heap_cell h.out (o := 6)
  have f3 := heap_free h.out 3
  have d1 : decide (most ≤ pages) = false := decide_eq_false (by omega)
  have d2 : decide ((most : Int) ≤ (pages : Int)) = false := decide_eq_false (by omega)
  go_enter Try.func88, Try.ntmps88
  go_wp2_with fail
  go_quiet (fail)
  go_wp2_with fail
  go_ret2
  refine ⟨rfl, ?_, (mod_drewN _ w nq).then (Mod.set (S := fun k => k = T) _ rfl _)⟩
  have h2 : (w.drewN nq).heap[T]? = some (.cells #[tv, lv, .int .i64 (op : Int), .int .u32 (pages : Int), .map (some hb), .map (some lb), .int .u32 (most : Int), chv] 128 (0, 0)) := h.out
  have h3 := heap_set (o := 3) h2 (.int .u32 ((pages : Int) + 1))
  unfold TB
  rw [h3]
  rfl
/-- can a number of the chain be taken? -/
def mayF (left held : Nat → Bool) (x : Nat) : Bool := left x && !held x
set_option maxHeartbeats 1000000 in
theorem may_any (T : Nat) (tv lv : Value) (op pages hb lb most : Nat) (chv : Value) (nh nl : Nat) (held left : Nat → Bool) (x : Nat) (w : World) (hx : x < 4294967296) (h : Hid (TB w T tv lv op pages hb lb most chv)) (hh : Hid (SetM w hb nh held)) (hl : Hid (SetM w lb nl left)) :
    Calls Try.prog 87 #[.pointer (some ⟨T, 0, none⟩), .int .u32 (x : Int)] w fun e w' => e = .returned (.bool (mayF left held x)) ∧ w' = w := by
  have c4 := heap_cell h.out (o := 4)
  have c5 := heap_cell h.out (o := 5)
  obtain ⟨q, hq⟩ : ∃ q, left x = q := ⟨_, rfl⟩
  obtain ⟨p, hp⟩ : ∃ p, held x = p := ⟨_, rfl⟩
  have HQ := Lib.hid hq
  have HP := Lib.hid hp
  have HF : Hid (mayF left held x = (q && !p)) := by show _ = _; unfold mayF; rw [hq, hp]
  clear hq hp
  go_enter Try.func87, Try.ntmps87
  go_upto_region 1 with fail
  with_reducible refine wp_region_list ?_
  with_reducible refine wpList_plain rfl ?_
  intro K hK
  go_simp
  first | with_reducible refine hK _ _ ?_ | refine hK _ _ ?_
  clear hK K
  (try simp only [Act.put, List.setIfInBounds_toArray, List.set_cons_zero, List.set_cons_succ])
  with_reducible refine wpList_plain rfl ?_
  intro K hK
  go_simp
  first | with_reducible refine hK _ _ ?_ | refine hK _ _ ?_
  clear hK K
  (try simp only [Act.put, List.setIfInBounds_toArray, List.set_cons_zero, List.set_cons_succ])
  with_reducible refine wpList_plain rfl ?_
  intro K hK
  go_simp
  first | with_reducible refine hK _ _ ?_ | refine hK _ _ ?_
  clear hK K
  (try simp only [Act.put, List.setIfInBounds_toArray, List.set_cons_zero, List.set_cons_succ])
  with_reducible refine wpList_plain rfl ?_
  intro K hK
  go_simp
  first | with_reducible refine hK _ _ ?_ | refine hK _ _ ?_
  clear hK K
  (try simp only [Act.put, List.setIfInBounds_toArray, List.set_cons_zero, List.set_cons_succ])
  with_reducible refine wpList_plain rfl ?_
  intro K hK
  go_simp
  first | with_reducible refine hK _ _ ?_ | refine hK _ _ ?_
  clear hK K
  (try simp only [Act.put, List.setIfInBounds_toArray, List.set_cons_zero, List.set_cons_succ])
  refine wpList_lookM rfl _ _ rfl hh.out rfl x hx rfl (fun c => ?_)
  rw [HP.out]
  (try simp only [Act.put, List.setIfInBounds_toArray, List.set_cons_zero, List.set_cons_succ])
  with_reducible refine wpList_plain rfl ?_
  intro K hK
  go_simp
  first | with_reducible refine hK _ _ ?_ | refine hK _ _ ?_
  clear hK K
  (try simp only [Act.put, List.setIfInBounds_toArray, List.set_cons_zero, List.set_cons_succ])
  with_reducible refine wpList_plain rfl ?_
  intro K hK
  go_simp
  first | with_reducible refine hK _ _ ?_ | refine hK _ _ ?_
  clear hK K
  (try simp only [Act.put, List.setIfInBounds_toArray, List.set_cons_zero, List.set_cons_succ])
  with_reducible refine wpList_plain rfl ?_
  intro K hK
  go_simp
  first | with_reducible refine hK _ _ ?_ | refine hK _ _ ?_
  clear hK K
  (try simp only [Act.put, List.setIfInBounds_toArray, List.set_cons_zero, List.set_cons_succ])
  with_reducible refine wpList_plain rfl ?_
  intro K hK
  go_simp
  first | with_reducible refine hK _ _ ?_ | refine hK _ _ ?_
  clear hK K
  (try simp only [Act.put, List.setIfInBounds_toArray, List.set_cons_zero, List.set_cons_succ])
  with_reducible refine wpList_plain rfl ?_
  intro K hK
  go_simp
  first | with_reducible refine hK _ _ ?_ | refine hK _ _ ?_
  clear hK K
  (try simp only [Act.put, List.setIfInBounds_toArray, List.set_cons_zero, List.set_cons_succ])
  go_upto_region 2 with fail
  with_reducible refine wp_region_list ?_
  with_reducible refine wpList_plain rfl ?_
  intro K hK
  go_simp
  first | with_reducible refine hK _ _ ?_ | refine hK _ _ ?_
  clear hK K
  (try simp only [Act.put, List.setIfInBounds_toArray, List.set_cons_zero, List.set_cons_succ])
  with_reducible refine wpList_plain rfl ?_
  intro K hK
  go_simp
  first | with_reducible refine hK _ _ ?_ | refine hK _ _ ?_
  clear hK K
  (try simp only [Act.put, List.setIfInBounds_toArray, List.set_cons_zero, List.set_cons_succ])
  with_reducible refine wpList_plain rfl ?_
  intro K hK
  go_simp
  first | with_reducible refine hK _ _ ?_ | refine hK _ _ ?_
  clear hK K
  (try simp only [Act.put, List.setIfInBounds_toArray, List.set_cons_zero, List.set_cons_succ])
  with_reducible refine wpList_plain rfl ?_
  intro K hK
  go_simp
  first | with_reducible refine hK _ _ ?_ | refine hK _ _ ?_
  clear hK K
  (try simp only [Act.put, List.setIfInBounds_toArray, List.set_cons_zero, List.set_cons_succ])
  with_reducible refine wpList_plain rfl ?_
  intro K hK
  go_simp
  first | with_reducible refine hK _ _ ?_ | refine hK _ _ ?_
  clear hK K
  (try simp only [Act.put, List.setIfInBounds_toArray, List.set_cons_zero, List.set_cons_succ])
  refine wpList_lookM rfl _ _ rfl hl.out rfl x hx rfl (fun c => ?_)
  rw [HQ.out]
  (try simp only [Act.put, List.setIfInBounds_toArray, List.set_cons_zero, List.set_cons_succ])
  with_reducible refine wpList_plain rfl ?_
  intro K hK
  go_simp
  first | with_reducible refine hK _ _ ?_ | refine hK _ _ ?_
  clear hK K
  (try simp only [Act.put, List.setIfInBounds_toArray, List.set_cons_zero, List.set_cons_succ])
  with_reducible refine wpList_plain rfl ?_
  intro K hK
  go_simp
  first | with_reducible refine hK _ _ ?_ | refine hK _ _ ?_
  clear hK K
  (try simp only [Act.put, List.setIfInBounds_toArray, List.set_cons_zero, List.set_cons_succ])
  with_reducible refine wpList_plain rfl ?_
  intro K hK
  go_simp
  first | with_reducible refine hK _ _ ?_ | refine hK _ _ ?_
  clear hK K
  (try simp only [Act.put, List.setIfInBounds_toArray, List.set_cons_zero, List.set_cons_succ])
  with_reducible refine wpList_plain rfl ?_
  intro K hK
  go_simp
  first | with_reducible refine hK _ _ ?_ | refine hK _ _ ?_
  clear hK K
  (try simp only [Act.put, List.setIfInBounds_toArray, List.set_cons_zero, List.set_cons_succ])
  with_reducible refine wpList_plain rfl ?_
  intro K hK
  go_simp
  first | with_reducible refine hK _ _ ?_ | refine hK _ _ ?_
  clear hK K
  (try simp only [Act.put, List.setIfInBounds_toArray, List.set_cons_zero, List.set_cons_succ])
  cases q
  case true =>
    go_wp2_with fail
    go_ret
    exact ⟨by rw [HF.out]; rfl, rfl⟩
  case false =>
    go_wp2_with fail
    go_ret
    exact ⟨by rw [HF.out]; rfl, rfl⟩
def mayV (T : Nat) : Value := .func (.func 87) #[.pointer (some ⟨T, 0, none⟩)] #[]
/-- which is the first that holds? -/
def IdxAt (p : Nat → Bool) (xs : List Nat) (e : Ending) : Prop := (∃ k, ∃ h : k < xs.length, e = .returned (.int .i64 (k : Int)) ∧ p xs[k] = true ∧ ∀ j (g : j < xs.length), j < k → p xs[j] = false) ∨ (e = .returned (.int .i64 (-1)) ∧ ∀ j (g : j < xs.length), p xs[j] = false)
set_option maxHeartbeats 1000000 in
theorem IndexFunc_may (v : Value) (xs : List Nat) (T : Nat) (tv lv : Value) (op pages hb lb most : Nat) (chv : Value) (nh nl : Nat) (held left : Nat → Bool) (w : World) (hv : Hid (URow w v xs)) (h : Hid (TB w T tv lv op pages hb lb most chv)) (hh : Hid (SetM w hb nh held)) (hl : Hid (SetM w lb nl left)) :
    Calls Try.prog 79 #[v, mayV T] w fun e w' => IdxAt (mayF left held) xs e ∧ w' = w := by
  obtain ⟨ad, c, hv1, hlen, hc⟩ := hv.out.form
  subst hv1
  have HC := Lib.hid hc
  have HA := Lib.hid hv.out.1
  have HM : Hid (∀ x : Nat, x < 4294967296 → Calls Try.prog 87 #[.pointer (some ⟨T, 0, none⟩), .int .u32 (x : Int)] w fun e w' => e = .returned (.bool (mayF left held x)) ∧ w' = w) := fun x hx => may_any T tv lv op pages hb lb most chv nh nl held left x w hx h hh hl
  have HY : Hid (∀ k (h : k < xs.length), mayF left held xs[k] = true → (∀ j (g : j < xs.length), j < k → mayF left held xs[j] = false) → IdxAt (mayF left held) xs (.returned (.int .i64 (k : Int))) ∧ w = w) := fun k h e1 e2 => ⟨.inl ⟨k, h, rfl, e1, e2⟩, rfl⟩
  have HZ : Hid ((∀ j (g : j < xs.length), mayF left held xs[j] = false) → IdxAt (mayF left held) xs (.returned (.int .i64 (-1))) ∧ w = w) := fun e1 => ⟨.inr ⟨rfl, e1⟩, rfl⟩
  obtain ⟨R, hR⟩ : ∃ R : Ending → World → Prop, (fun e w' => IdxAt (mayF left held) xs e ∧ w' = w) = R := ⟨_, rfl⟩
  have HY : Hid (∀ k (h : k < xs.length), mayF left held xs[k] = true → (∀ j (g : j < xs.length), j < k → mayF left held xs[j] = false) → R (.returned (.int .i64 (k : Int))) w) := by rw [← hR]; exact HY.out
  have HZ : Hid ((∀ j (g : j < xs.length), mayF left held xs[j] = false) → R (.returned (.int .i64 (-1))) w) := by rw [← hR]; exact HZ.out
  rw [hR]
  clear hc hR
  unfold mayV
  go_enter Try.func79, Try.ntmps79
  go_upto_region 2 with fail
  go_loopw [8] (fun i wr => ∃ (k : Nat), k ≤ xs.length ∧ Hid (∀ j (h : j < xs.length), j < k → mayF left held xs[j] = false) ∧ wr = w ∧ i = .int .i64 (k : Int)) (fun i _ => xs.length - (intOf i).toNat)
  case atStart => exact ⟨0, Nat.zero_le _, fun j _ h => by omega, by first | rfl | trivial, rfl⟩
  case round =>
    obtain ⟨k, hk, HN, rfl, rfl⟩ := hrel
    by_cases hlt : k < xs.length
    case pos =>
      have dk : decide (k < xs.length) = true := decide_eq_true hlt
      have dk2 : decide ((k : Int) < (xs.length : Int)) = true := decide_eq_true (by omega)
      have ik : (k : Int) < (xs.length : Int) := by omega
      obtain ⟨vb, vo, rfl, hcs⟩ := HC.out (by omega)
      have hc := hcs k hlt
      have hy := HY.out k hlt
      have hm := HM.out _ (HA.out _ (List.getElem_mem hlt))
      obtain ⟨y, hy1⟩ : ∃ y, xs[k] = y := ⟨_, rfl⟩
      rw [hy1] at hc hy hm
      have Hy := Lib.hid hy1
      have HY2 := Lib.hid hy
      unfold uN at hc
      obtain ⟨q, hq⟩ : ∃ q, mayF left held y = q := ⟨_, rfl⟩
      have HQ := Lib.hid hq
      rw [hq] at hm
      have Hm := Lib.hid hm
      clear hy1 hy hcs hq hm
      cases q
      case true =>
        have hf := HY2.out HQ.out HN.out
        have Hf := Lib.hid hf
        clear hf
        go_wp2_with (go_at_call 87; refine Hm.out.mono ?_; rintro e w2 ⟨rfl, rfl⟩)
        exact Hf.out
      case false =>
        have HN2 : Hid (∀ j (h : j < xs.length), j < k + 1 → mayF left held xs[j] = false) := fun j h hj => by
          by_cases e : j = k
          · subst e; rw [Hy.out, HQ.out]
          · exact HN.out j h (by omega)
        clear HN
        go_wp2_with (go_at_call 87; refine Hm.out.mono ?_; rintro e w2 ⟨rfl, rfl⟩)
        exact ⟨⟨k + 1, by omega, HN2, by first | rfl | trivial, by go_num⟩, by simp [intOf]; omega⟩
    case neg =>
      have dk : decide (k < xs.length) = false := decide_eq_false hlt
      have dk2 : decide ((k : Int) < (xs.length : Int)) = false := decide_eq_false (by omega)
      have hf := HZ.out (fun j h => HN.out j h (by omega))
      have Hf := Lib.hid hf
      clear hf
      go_wp2_with fail
      exact Hf.out
theorem seen_no (a b : Int) (pages : Nat) (v : Value) (cs : List (Nat × List Nat)) (w : World) (hp : pages < 4294967296) (hv : Hid (CRow w v cs)) (hs : Hid (seenGo (entI a b) pages cs [] = none)) :
    Calls Try.prog 71 #[.agg #[.int .i64 a, .int .i64 b], v, .int .u32 (pages : Int)] w fun e w' => e = .returned (.tuple #[.map none, .bool false]) ∧ Below w.heap.size w w' :=
  (seen_any a b pages v cs w hp hv).mono (fun e w' h => by
    obtain ⟨b3, ⟨acc, g, n, h1, _⟩ | ⟨_, rfl⟩⟩ := h
    · rw [hs.out] at h1; cases h1
    · exact ⟨rfl, b3⟩)
theorem seen_yes (a b : Int) (pages : Nat) (v : Value) (cs : List (Nat × List Nat)) (w : World) (hp : pages < 4294967296) (hv : Hid (CRow w v cs)) (acc : List Nat) (hs : Hid (seenGo (entI a b) pages cs [] = some acc)) :
    Calls Try.prog 71 #[.agg #[.int .i64 a, .int .i64 b], v, .int .u32 (pages : Int)] w fun e w' => ∃ g, e = .returned (.tuple #[.map (some g), .bool true]) ∧ w.heap.size ≤ g ∧ SetM w' g acc.length (fun z => acc.contains z) ∧ Below w.heap.size w w' :=
  (seen_any a b pages v cs w hp hv).mono (fun e w' h => by
    obtain ⟨b3, ⟨acc2, g, n, h1, rfl, h2, h3, rfl⟩ | ⟨h1, _⟩⟩ := h
    · rw [hs.out] at h1; cases h1; exact ⟨g, rfl, h2, h3, b3⟩
    · rw [hs.out] at h1; cases h1)
/-- is a chain right? -/
def chkI (a b : Int) (cs : List (Nat × List Nat)) (pages : Nat) : Int := if mayB a b && (decide (2 ≤ pages) && decide (pages ≤ 65536)) then (match seenGo (entI a b) pages cs [] with | some _ => 0 | none => 90) else 2
set_option maxHeartbeats 2000000 in
theorem Check_any (a b : Int) (pages : Nat) (v : Value) (cs : List (Nat × List Nat)) (w : World) (hp : pages < 4294967296) (hv : Hid (CRow w v cs)) :
    Calls Try.prog 39 #[.agg #[.int .i64 a, .int .i64 b], v, .int .u32 (pages : Int)] w fun e w' => e = .returned (.int .i64 (chkI a b cs pages)) ∧ Below w.heap.size w w' := by
  obtain ⟨N, hN⟩ : ∃ N, w.heap.size = N := ⟨_, rfl⟩
  have HN := Lib.hid hN
  rw [hN]
  obtain ⟨q, hq⟩ : ∃ q, mayB a b = q := ⟨_, rfl⟩
  have HQ := Lib.hid hq
  clear hN hq
  go_enter Try.func39, Try.ntmps39
  go_upto_region 0 with fail
  with_reducible refine wp_region_list ?_
  refine wpList_boxB rfl _ _ rfl N HN.out #[.int .i64 a, .int .i64 b] rfl ?_
  intro w0 e0 b0 z0
  (try simp only [Act.put, List.setIfInBounds_toArray, List.set_cons_zero, List.set_cons_succ])
  with_reducible refine wpList_plain rfl ?_
  intro K hK
  go_simp
  first | with_reducible refine hK _ _ ?_ | refine hK _ _ ?_
  clear hK K
  (try simp only [Act.put, List.setIfInBounds_toArray, List.set_cons_zero, List.set_cons_succ])
  have E0 := Lib.hid e0
  have B0 := Lib.hid b0
  have Z0 := Lib.hid z0
  clear e0 b0 z0
  have k0 := heap_cell E0.out (o := 0)
  have k1 := heap_cell E0.out (o := 1)
  go_upto_region 1 with fail
  with_reducible refine wp_region_list ?_
  with_reducible refine wpList_plain rfl ?_
  intro K hK
  go_simp
  first | with_reducible refine hK _ _ ?_ | refine hK _ _ ?_
  clear hK K
  (try simp only [Act.put, List.setIfInBounds_toArray, List.set_cons_zero, List.set_cons_succ])
  with_reducible refine wpList_plain rfl ?_
  intro K hK
  go_simp
  refine (Right_any a b w0).mono ?_; rintro e w2 ⟨rfl, b2⟩; rw [HQ.out]
  first | with_reducible refine hK _ _ ?_ | refine hK _ _ ?_
  clear hK K
  (try simp only [Act.put, List.setIfInBounds_toArray, List.set_cons_zero, List.set_cons_succ])
  have E2 : Hid (w2.heap[N]? = some (.cells #[.int .i64 a, .int .i64 b] 23 (0, 0))) := heap_below E0.out b2 (heap_lt E0.out)
  have B2 := Lib.hid (B0.out.trans (b2.mono (by have := Z0.out; omega)))
  clear b2 E0 B0 k0 k1
  with_reducible refine wpList_plain rfl ?_
  intro K hK
  go_simp
  first | with_reducible refine hK _ _ ?_ | refine hK _ _ ?_
  clear hK K
  (try simp only [Act.put, List.setIfInBounds_toArray, List.set_cons_zero, List.set_cons_succ])
  with_reducible refine wpList_plain rfl ?_
  intro K hK
  go_simp
  first | with_reducible refine hK _ _ ?_ | refine hK _ _ ?_
  clear hK K
  (try simp only [Act.put, List.setIfInBounds_toArray, List.set_cons_zero, List.set_cons_succ])
  have k0 := heap_cell E2.out (o := 0)
  have k1 := heap_cell E2.out (o := 1)
  cases q
  case false =>
    have He : Hid (chkI a b cs pages = 2) := by show _ = _; unfold chkI; rw [HQ.out]; rfl
    go_wp2_with fail
    go_ret
    exact ⟨by rw [He.out]; rfl, B2.out⟩
  case true =>
    by_cases h1 : 2 ≤ pages
    case neg =>
      have He : Hid (chkI a b cs pages = 2) := by show _ = _; unfold chkI; rw [HQ.out, decide_eq_false h1]; rfl
      have d1 : decide (pages < 2) = true := decide_eq_true (by omega)
      have d2 : decide ((pages : Int) < 2) = true := decide_eq_true (by omega)
      go_wp2_with fail
      go_ret
      exact ⟨by rw [He.out]; rfl, B2.out⟩
    case pos =>
      have d1 : decide (pages < 2) = false := decide_eq_false (by omega)
      have d2 : decide ((pages : Int) < 2) = false := decide_eq_false (by omega)
      by_cases h2 : pages ≤ 65536
      case neg =>
        have He : Hid (chkI a b cs pages = 2) := by show _ = _; unfold chkI; rw [HQ.out, decide_eq_true h1, decide_eq_false h2]; rfl
        have d3 : decide (65536 < pages) = true := decide_eq_true (by omega)
        have d4 : decide (65536 < (pages : Int)) = true := decide_eq_true (by omega)
        go_wp2_with fail
        go_ret
        exact ⟨by rw [He.out]; rfl, B2.out⟩
      case pos =>
        have d3 : decide (65536 < pages) = false := decide_eq_false (by omega)
        have d4 : decide (65536 < (pages : Int)) = false := decide_eq_false (by omega)
        have hv2 : Hid (CRow w2 v cs) := hv.out.below (by rw [HN.out]; exact B2.out)
        have He : Hid (chkI a b cs pages = (match seenGo (entI a b) pages cs [] with | some _ => 0 | none => 90)) := by show _ = _; unfold chkI; rw [HQ.out, decide_eq_true h1, decide_eq_true h2]; rfl
        go_upto_region 3 with fail
        with_reducible refine wp_region_list ?_
        with_reducible refine wpList_plain rfl ?_
        intro K hK
        go_simp
        first | with_reducible refine hK _ _ ?_ | refine hK _ _ ?_
        clear hK K
        (try simp only [Act.put, List.setIfInBounds_toArray, List.set_cons_zero, List.set_cons_succ])
        with_reducible refine wpList_plain rfl ?_
        intro K hK
        go_simp
        first | with_reducible refine hK _ _ ?_ | refine hK _ _ ?_
        clear hK K
        (try simp only [Act.put, List.setIfInBounds_toArray, List.set_cons_zero, List.set_cons_succ])
        with_reducible refine wpList_plain rfl ?_
        intro K hK
        go_simp
        first | with_reducible refine hK _ _ ?_ | refine hK _ _ ?_
        clear hK K
        (try simp only [Act.put, List.setIfInBounds_toArray, List.set_cons_zero, List.set_cons_succ])
        cases hs : seenGo (entI a b) pages cs []
        case none =>
          have HS := Lib.hid hs
          with_reducible refine wpList_plain rfl ?_
          intro K hK
          go_simp
          refine (seen_no a b pages v cs w2 hp hv2 HS).mono ?_; rintro e w3 ⟨rfl, b3⟩
          first | with_reducible refine hK _ _ ?_ | refine hK _ _ ?_
          clear hK K
          (try simp only [Act.put, List.setIfInBounds_toArray, List.set_cons_zero, List.set_cons_succ])
          have B3 := Lib.hid (B2.out.trans (b3.mono (by have := Z0.out; have := B2.out.size; rw [HN.out] at *; omega)))
          clear b3 k0 k1 E2
          go_wp2_with fail
          go_ret
          exact ⟨by rw [He.out, HS.out]; rfl, B3.out⟩
        case some acc =>
          have HS := Lib.hid hs
          with_reducible refine wpList_plain rfl ?_
          intro K hK
          go_simp
          refine (seen_yes a b pages v cs w2 hp hv2 acc HS).mono ?_; rintro e w3 ⟨g, rfl, _, _, b3⟩
          first | with_reducible refine hK _ _ ?_ | refine hK _ _ ?_
          clear hK K
          (try simp only [Act.put, List.setIfInBounds_toArray, List.set_cons_zero, List.set_cons_succ])
          have B3 := Lib.hid (B2.out.trans (b3.mono (by have := Z0.out; have := B2.out.size; rw [HN.out] at *; omega)))
          clear b3 k0 k1 E2
          go_wp2_with fail
          go_ret
          exact ⟨by rw [He.out, HS.out]; rfl, B3.out⟩
end Go.Proofs.Ytkngmnfgdlnddaa
