/-
  Sets of numbers as maps; the walk of seen's closure.
-/
import Derived.Test.YtkngmnfgdlnddaaFreeE
import Derived.Maps.OwnOps
import Derived.Maps.OwnSet
import Derived.Maps.Views
import Derived.Maps.Range
namespace Go.Proofs.Ytkngmnfgdlnddaa
open Go.RowKit Go.Lib Hw Go.Maps
set_option linter.unusedSimpArgs false
set_option linter.unusedVariables false

/-- a map that tells a set of numbers -/
def SetM (w : World) (b n : Nat) (m : Nat → Bool) : Prop :=
  ∃ D : DataW Unit, w.ownsMap Try.prog 27 (plainElem Try.prog 3) b n D ∧ IsMap D ∧ ∀ x : Nat, x < 4294967296 → has D (.int .u32 (x : Int)) = m x
theorem keyed_u : Keyed Try.prog 27 := int_keyed Try.underlying27
theorem key_u (x : Nat) (hx : x < 4294967296) : keyOf Try.prog 27 (.int .u32 (x : Int)) = some (.int .u32 (x : Int)) := keyOf_int_mk Try.underlying27 (by simp [Lit.wf, IntKind.min, IntKind.max, IntKind.signed, IntKind.bits]; omega)
theorem zero_i (w : World) : (zeroValue 3).run Try.prog w = .ok (.int .i64 0) w := by kernel_rfl
theorem lit_ne {z y : Nat} (h : ¬ z = y) : (Lit.int .u32 (z : Int)) ≠ Lit.int .u32 (y : Int) := fun e => h (by injection e with _ e3; omega)
theorem SetM.made (w : World) : SetM (w.alloc (.map #[] 0)) w.heap.size 0 (fun _ => false) :=
  ⟨.map [], World.ownsMap_made w _ _ _, isMap_empty, fun x hx => rfl⟩
theorem SetM.lt {w : World} {b n : Nat} {m : Nat → Bool} (h : SetM w b n m) : b < w.heap.size := by
  obtain ⟨D, h1, _⟩ := h
  exact h1.lt
theorem SetM.heap {w w' : World} {b n : Nat} {m : Nat → Bool} (h : SetM w b n m) (e : w'.heap[b]? = w.heap[b]?) : SetM w' b n m := by
  obtain ⟨D, ⟨es, clock, hb, r⟩, h2⟩ := h
  exact ⟨D, ⟨es, clock, e.trans hb, r⟩, h2⟩
theorem SetM.mod {w w' : World} {S : Nat → Prop} {b n : Nat} {m : Nat → Bool} (h : SetM w b n m) (hm : Mod S w w') (hS : ¬ S b) : SetM w' b n m := h.heap (hm.block b h.lt hS)
theorem SetM.mono {w : World} {b n n' : Nat} {m : Nat → Bool} (h : SetM w b n m) (hn : n ≤ n') : SetM w b n' m := by
  obtain ⟨D, h1, h2⟩ := h
  exact ⟨D, h1.mono hn, h2⟩
/-- v, ok := m[x] -/
theorem wpList_lookM {ops : Array Oper} {rest : List Oper} {o : Oper} {a : Act} {w : World} {Q : Exit → Act → World → Prop} (hg : o.guard = none) (p x : Operand) (hop : o.op = Op.lookup 60 p x true) {b n : Nat} {m : Nat → Bool} (h : SetM w b n m) (hm : a.eval p = .map (some b)) (y : Nat) (hy : y < 4294967296) (hx : a.eval x = .int .u32 (y : Int))
    (hK : ∀ c : Int, wpList Try.prog ops Q rest (a.put o.dst (.tuple #[.int .i64 c, .bool (m y)])) w) : wpList Try.prog ops Q (o :: rest) a w := by
  obtain ⟨D, h1, h2, h3⟩ := h
  refine wpList_lookup_own_ok_int w hg p x 60 hop 27 3 .i64 keyed_u Try.underlying60 Try.underlying3 (zero_i w) b n D hm h1 _ _ hx (key_u y hy) (fun c _ _ => ?_)
  rw [h3 y hy]
  exact hK c
/-- m[x] = 1 -/
theorem wpList_putM {ops : Array Oper} {rest : List Oper} {o : Oper} {a : Act} {w : World} {Q : Exit → Act → World → Prop} (hg : o.guard = none) (p x v : Operand) (hop : o.op = Op.mapUpdate 60 p x v) {b n : Nat} {m : Nat → Bool} (h : SetM w b n m) (hn : n < 9223372036854775807) (hm : a.eval p = .map (some b)) (y : Nat) (hy : y < 4294967296) (hx : a.eval x = .int .u32 (y : Int)) (hv : a.eval v = .int .i64 1)
    (hK : ∀ w', SetM w' b (n + 1) (fun z => decide (z = y) || m z) → Mod (fun k => k = b) w w' → wpList Try.prog ops Q rest (a.put o.dst undef) w') : wpList Try.prog ops Q (o :: rest) a w := by
  obtain ⟨D, h1, h2, h3⟩ := h
  refine wpList_mapUpdate_own w hg p x v 60 hop 27 3 keyed_u Try.underlying60 _ b n D hm h1 (by unfold maxLen; omega) _ _ _ hx hv (key_u y hy) _ [] (plainElem_int Try.underlying3 (by decide)) (fun w' r1 r2 => ?_)
  refine hK w' ⟨_, r1, h2.put _ _, fun z hz => ?_⟩ (Mod.grown r2 (fun k e => (Option.some.inj e).symm))
  show _ = (decide (z = y) || m z)
  by_cases e : z = y
  · subst e
    rw [decide_eq_true rfl, Bool.true_or]
    exact has_put_same h2 (keyed_u.key (key_u z hz)) _
  · rw [decide_eq_false e, Bool.false_or, ← h3 z hz]
    exact has_put_other (lit_ne e) _
/-- m[x] is no more -/
theorem wpList_delM {ops : Array Oper} {rest : List Oper} {o : Oper} {a : Act} {w : World} {Q : Exit → Act → World → Prop} (hg : o.guard = none) (p x : Operand) (hop : o.op = Op.call { callee := Callee.builtin Builtin.delete, args := #[p, x], argTypes := #[60, 27] }) {b n : Nat} {m : Nat → Bool} (h : SetM w b n m) (hm : a.eval p = .map (some b)) (y : Nat) (hy : y < 4294967296) (hx : a.eval x = .int .u32 (y : Int))
    (hK : ∀ w', SetM w' b n (fun z => !decide (z = y) && m z) → w.mapTurned w' b → wpList Try.prog ops Q rest (a.put o.dst (.tuple #[])) w') : wpList Try.prog ops Q (o :: rest) a w := by
  obtain ⟨D, h1, h2, h3⟩ := h
  refine wpList_delete_own w hg p x 60 27 hop 3 keyed_u Try.underlying60 _ b n D hm h1 _ _ hx (key_u y hy) (fun w' r1 r2 => ?_)
  refine hK w' ⟨_, r1, h2.del _, fun z hz => ?_⟩ r2
  show _ = (!decide (z = y) && m z)
  by_cases e : z = y
  · subst e
    rw [decide_eq_true rfl]
    exact has_del_same
  · rw [decide_eq_false e, ← h3 z hz]
    exact has_del_other (lit_ne e)
/-- what seen's closure tells -/
def freshB (m : Nat → Bool) (pages no : Nat) : Bool := (!m no) && (decide (2 ≤ no) && decide (no < pages))
set_option maxHeartbeats 1000000 in
theorem put_any (w : World) (b mb pb n : Nat) (m : Nat → Bool) (pages no : Nat) (h : Hid (SetM w b n m)) (hn : n < 9223372036854775807) (hno : no < 4294967296) (hmb : Hid (w.heap[mb]? = some (.cells #[.map (some b)] 60 (0, 0)))) (hpb : Hid (w.heap[pb]? = some (.cells #[.int .u32 (pages : Int)] 27 (0, 0)))) (hne : b ≠ pb) :
    Calls Try.prog 86 #[.int .u32 (no : Int), .pointer (some ⟨mb, 0, none⟩), .pointer (some ⟨pb, 0, none⟩)] w fun e w' => e = .returned (.bool (freshB m pages no)) ∧ SetM w' b (n + 1) (fun z => decide (z = no) || m z) ∧ Mod (fun k => k = b) w w' := by
  have c0 := heap_cell hmb.out (o := 0)
  obtain ⟨q, hq⟩ : ∃ q, m no = q := ⟨_, rfl⟩
  have HQ := Lib.hid hq
  have HF : Hid (freshB m pages no = ((!q) && (decide (2 ≤ no) && decide (no < pages)))) := by show _ = _; unfold freshB; rw [hq]
  clear hq
  go_enter Try.func86, Try.ntmps86
  go_upto_region 1 with fail
  with_reducible refine wp_region_list ?_
  with_reducible refine wpList_plain rfl ?_
  intro K hK
  go_simp
  first | with_reducible refine hK _ _ ?_ | refine hK _ _ ?_
  clear hK K
  (try simp only [Act.put, List.setIfInBounds_toArray, List.set_cons_zero, List.set_cons_succ])
  with_reducible refine wpList_plain rfl ?_
  intro K hK
  go_simp
  first | with_reducible refine hK _ _ ?_ | refine hK _ _ ?_
  clear hK K
  (try simp only [Act.put, List.setIfInBounds_toArray, List.set_cons_zero, List.set_cons_succ])
  refine wpList_lookM rfl _ _ rfl h.out rfl no hno rfl (fun c => ?_)
  rw [HQ.out]
  (try simp only [Act.put, List.setIfInBounds_toArray, List.set_cons_zero, List.set_cons_succ])
  with_reducible refine wpList_plain rfl ?_
  intro K hK
  go_simp
  first | with_reducible refine hK _ _ ?_ | refine hK _ _ ?_
  clear hK K
  (try simp only [Act.put, List.setIfInBounds_toArray, List.set_cons_zero, List.set_cons_succ])
  with_reducible refine wpList_plain rfl ?_
  intro K hK
  go_simp
  first | with_reducible refine hK _ _ ?_ | refine hK _ _ ?_
  clear hK K
  (try simp only [Act.put, List.setIfInBounds_toArray, List.set_cons_zero, List.set_cons_succ])
  with_reducible refine wpList_plain rfl ?_
  intro K hK
  go_simp
  first | with_reducible refine hK _ _ ?_ | refine hK _ _ ?_
  clear hK K
  (try simp only [Act.put, List.setIfInBounds_toArray, List.set_cons_zero, List.set_cons_succ])
  with_reducible refine wpList_plain rfl ?_
  intro K hK
  go_simp
  first | with_reducible refine hK _ _ ?_ | refine hK _ _ ?_
  clear hK K
  (try simp only [Act.put, List.setIfInBounds_toArray, List.set_cons_zero, List.set_cons_succ])
  with_reducible refine wpList_plain rfl ?_
  intro K hK
  go_simp
  first | with_reducible refine hK _ _ ?_ | refine hK _ _ ?_
  clear hK K
  (try simp only [Act.put, List.setIfInBounds_toArray, List.set_cons_zero, List.set_cons_succ])
  go_upto_region 2 with fail
  with_reducible refine wp_region_list ?_
  with_reducible refine wpList_plain rfl ?_
  intro K hK
  go_simp
  first | with_reducible refine hK _ _ ?_ | refine hK _ _ ?_
  clear hK K
  (try simp only [Act.put, List.setIfInBounds_toArray, List.set_cons_zero, List.set_cons_succ])
  with_reducible refine wpList_plain rfl ?_
  intro K hK
  go_simp
  first | with_reducible refine hK _ _ ?_ | refine hK _ _ ?_
  clear hK K
  (try simp only [Act.put, List.setIfInBounds_toArray, List.set_cons_zero, List.set_cons_succ])
  refine wpList_putM rfl _ _ _ rfl h.out hn rfl no hno rfl rfl (fun w2 h2 m2 => ?_)
  (try simp only [Act.put, List.setIfInBounds_toArray, List.set_cons_zero, List.set_cons_succ])
  have H2 := Lib.hid h2
  have M2 := Lib.hid m2
  have PB2 : Hid (w2.heap[pb]? = some (.cells #[.int .u32 (pages : Int)] 27 (0, 0))) := m2.heap hpb.out (fun e => hne e.symm)
  clear h2 m2 c0
  have cp := heap_cell PB2.out (o := 0)
  cases q
  case true =>
    go_wp2_with fail
    go_ret
    exact ⟨by rw [HF.out]; rfl, H2.out, M2.out⟩
  case false =>
    by_cases h1 : 2 ≤ no
    case neg =>
      have d1 : decide (2 ≤ no) = false := decide_eq_false h1
      have d2 : decide ((2 : Int) ≤ (no : Int)) = false := decide_eq_false (by omega)
      go_wp2_with fail
      go_ret
      exact ⟨by rw [HF.out, d1]; rfl, H2.out, M2.out⟩
    case pos =>
      have d1 : decide (2 ≤ no) = true := decide_eq_true h1
      have d2 : decide ((2 : Int) ≤ (no : Int)) = true := decide_eq_true (by omega)
      by_cases h3 : no < pages
      · have d3 : decide (no < pages) = true := decide_eq_true h3
        have d4 : decide ((no : Int) < (pages : Int)) = true := decide_eq_true (by omega)
        go_wp2_with fail
        go_ret
        exact ⟨by rw [HF.out, d1, d3]; rfl, H2.out, M2.out⟩
      · have d3 : decide (no < pages) = false := decide_eq_false h3
        have d4 : decide ((no : Int) < (pages : Int)) = false := decide_eq_false (by omega)
        go_wp2_with fail
        go_ret
        exact ⟨by rw [HF.out, d1, d3]; rfl, H2.out, M2.out⟩
end Go.Proofs.Ytkngmnfgdlnddaa
