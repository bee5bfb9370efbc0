/-
  Counts of numbers as maps; the walk of set's closure.
-/
import Derived.Test.YtkngmnfgdlnddaaPlnB
namespace Go.Proofs.Ytkngmnfgdlnddaa
open Go.RowKit Go.Lib Hw Go.Maps
set_option linter.unusedSimpArgs false
set_option linter.unusedVariables false

/-- a map that tells a count of each number -/
def CntM (w : World) (b n : Nat) (m : Nat → Nat) : Prop :=
  ∃ D : DataW Unit, w.ownsMap Try.prog 27 (plainElem Try.prog 3) b n D ∧ (IsMap D ∧ Maps.size D = n) ∧ ∀ x : Nat, x < 4294967296 → D.atKey (.int .u32 (x : Int)) (.lit (.int .i64 0)) = .lit (.int .i64 (m x : Int)) ∧ has D (.int .u32 (x : Int)) = decide (0 < m x)
theorem CntM.made (w : World) : CntM (w.alloc (.map #[] 0)) w.heap.size 0 (fun _ => 0) :=
  ⟨.map [], World.ownsMap_made w _ _ _, ⟨isMap_empty, rfl⟩, fun x hx => ⟨rfl, rfl⟩⟩
theorem CntM.lt {w : World} {b n : Nat} {m : Nat → Nat} (h : CntM w b n m) : b < w.heap.size := by
  obtain ⟨D, h1, _⟩ := h
  exact h1.lt
theorem CntM.heap {w w' : World} {b n : Nat} {m : Nat → Nat} (h : CntM w b n m) (e : w'.heap[b]? = w.heap[b]?) : CntM w' b n m := by
  obtain ⟨D, ⟨es, clock, hb, r⟩, h2⟩ := h
  exact ⟨D, ⟨es, clock, e.trans hb, r⟩, h2⟩
theorem CntM.mod {w w' : World} {S : Nat → Prop} {b n : Nat} {m : Nat → Nat} (h : CntM w b n m) (hm : Mod S w w') (hS : ¬ S b) : CntM w' b n m := h.heap (hm.block b h.lt hS)
theorem CntM.below {w w' : World} {b n : Nat} {m : Nat → Nat} (h : CntM w b n m) (hb : Below w.heap.size w w') : CntM w' b n m := h.heap (hb.block b h.lt)
theorem CntM.congr {w : World} {b n : Nat} {m m' : Nat → Nat} (h : CntM w b n m) (e : ∀ x, x < 4294967296 → m x = m' x) : CntM w b n m' := by
  obtain ⟨D, h1, h2, h3⟩ := h
  exact ⟨D, h1, h2, fun x hx => by rw [← e x hx]; exact h3 x hx⟩
/-- m[x] -/
theorem CntM.look {w : World} {b n : Nat} {m : Nat → Nat} (h : CntM w b n m) (y : Nat) (hy : y < 4294967296) : (Instr.lookup 60 (.map (some b)) (.int .u32 (y : Int)) false).run Try.prog w = .ok (.int .i64 (m y : Int)) w := by
  obtain ⟨D, h1, h2, h3⟩ := h
  obtain ⟨c, hrun, hat, _⟩ := h1.lookup_int keyed_u Try.underlying60 Try.underlying3 (zero_i w) (key_u y hy)
  rw [(h3 y hy).1] at hat
  have e2 : (m y : Int) = c := (Lit.int.inj (DataW.lit.inj hat)).2
  rw [e2]
  exact hrun
/-- m[x] = v -/
theorem wpList_putN {ops : Array Oper} {rest : List Oper} {o : Oper} {a : Act} {w : World} {Q : Exit → Act → World → Prop} (hg : o.guard = none) (p x v : Operand) (hop : o.op = Op.mapUpdate 60 p x v) {b n : Nat} {m : Nat → Nat} (h : CntM w b n m) (hn : n < 9223372036854775807) (hm : a.eval p = .map (some b)) (y : Nat) (hy : y < 4294967296) (hx : a.eval x = .int .u32 (y : Int)) (hv : a.eval v = .int .i64 1) (hy0 : m y = 0)
    (hK : ∀ w', CntM w' b (n + 1) (fun z => if z = y then 1 else m z) → Mod (fun k => k = b) w w' → wpList Try.prog ops Q rest (a.put o.dst undef) w') : wpList Try.prog ops Q (o :: rest) a w := by
  obtain ⟨D, h1, h2, h3⟩ := h
  refine wpList_mapUpdate_own w hg p x v 60 hop 27 3 keyed_u Try.underlying60 _ b n D hm h1 (by unfold maxLen; omega) _ _ _ hx hv (key_u y hy) _ [] (plainElem_int Try.underlying3 (by decide)) (fun w' r1 r2 => ?_)
  have hno : has D (.int .u32 (y : Int)) = false := by rw [(h3 y hy).2, hy0]; rfl
  refine hK w' ⟨_, r1, ⟨h2.1.put _ _, by rw [size_put (h1.tidy keyed_u), hno, h2.2]; rfl⟩, fun z hz => ?_⟩ (Mod.grown r2 (fun k e => (Option.some.inj e).symm))
  show _ = DataW.lit (.int .i64 ((if z = y then 1 else m z : Nat) : Int)) ∧ _ = decide (0 < (if z = y then 1 else m z))
  by_cases e : z = y
  · subst e
    rw [if_pos rfl]
    exact ⟨atKey_put_same h2.1 (keyed_u.key (key_u z hz)) _ _, has_put_same h2.1 (keyed_u.key (key_u z hz)) _⟩
  · rw [if_neg e, ← (h3 z hz).1, ← (h3 z hz).2]
    exact ⟨atKey_put_other (lit_ne e) _ _, has_put_other (lit_ne e) _⟩
set_option maxHeartbeats 1000000 in
theorem count_any (w : World) (b mb ob n : Nat) (m : Nat → Nat) (no : Nat) (h : Hid (CntM w b n m)) (hn : n < 9223372036854775807) (hno : no < 4294967296) (hm0 : m no = 0) (hmb : Hid (w.heap[mb]? = some (.cells #[.map (some b)] 60 (0, 0)))) (hob : Hid (w.heap[ob]? = some (.cells #[.bool true] 4 (0, 0)))) (hne : b ≠ ob) (hne2 : b ≠ mb) :
    Calls Try.prog 74 #[.int .u32 (no : Int), .pointer (some ⟨mb, 0, none⟩), .pointer (some ⟨ob, 0, none⟩)] w fun e w' => CntM w' b (n + 1) (fun z => if z = no then 1 else m z) ∧ Mod (fun k => k = b ∨ k = ob) w w' ∧ w'.heap[ob]? = some (.cells #[.bool true] 4 (0, 0)) ∧ e = .returned (.tuple #[]) := by
  have c0 := heap_cell hmb.out (o := 0)
  have l0 := h.out.look no hno
  rw [hm0] at l0
  go_enter Try.func74, Try.ntmps74
  go_upto_region 0 with fail
  with_reducible refine wp_region_list ?_
  with_reducible refine wpList_plain rfl ?_
  intro K hK
  go_simp
  first | with_reducible refine hK _ _ ?_ | refine hK _ _ ?_
  clear hK K
  (try simp only [Act.put, List.setIfInBounds_toArray, List.set_cons_zero, List.set_cons_succ])
  with_reducible refine wpList_plain rfl ?_
  intro K hK
  go_simp
  first | with_reducible refine hK _ _ ?_ | refine hK _ _ ?_
  clear hK K
  (try simp only [Act.put, List.setIfInBounds_toArray, List.set_cons_zero, List.set_cons_succ])
  with_reducible refine wpList_plain rfl ?_
  intro K hK
  go_simp
  first | with_reducible refine hK _ _ ?_ | refine hK _ _ ?_
  clear hK K
  (try simp only [Act.put, List.setIfInBounds_toArray, List.set_cons_zero, List.set_cons_succ])
  with_reducible refine wpList_plain rfl ?_
  intro K hK
  go_simp
  first | with_reducible refine hK _ _ ?_ | refine hK _ _ ?_
  clear hK K
  (try simp only [Act.put, List.setIfInBounds_toArray, List.set_cons_zero, List.set_cons_succ])
  refine wpList_putN rfl _ _ _ rfl h.out hn rfl no hno rfl rfl hm0 (fun w2 h2 m2 => ?_)
  (try simp only [Act.put, List.setIfInBounds_toArray, List.set_cons_zero, List.set_cons_succ])
  have H2 := Lib.hid h2
  have H3 := Lib.hid h2
  have M2 := Lib.hid m2
  have MB2 := Lib.hid (m2.heap hmb.out (fun e => hne2 e.symm))
  have OB2 := Lib.hid (m2.heap hob.out (fun e => hne e.symm))
  clear h2 m2 c0 l0
  have c1 := heap_cell OB2.out (o := 0)
  have f1 := heap_free OB2.out 0
  have c0 := heap_cell MB2.out (o := 0)
  have l2 := H2.out.look no hno
  rw [if_pos rfl] at l2
  clear h hmb hob H2
  go_upto_region 1 with fail
  with_reducible refine wp_region_list ?_
  with_reducible refine wpList_plain rfl ?_
  intro K hK
  go_simp
  first | with_reducible refine hK _ _ ?_ | refine hK _ _ ?_
  clear hK K
  (try simp only [Act.put, List.setIfInBounds_toArray, List.set_cons_zero, List.set_cons_succ])
  with_reducible refine wpList_plain rfl ?_
  intro K hK
  go_simp
  first | with_reducible refine hK _ _ ?_ | refine hK _ _ ?_
  clear hK K
  (try simp only [Act.put, List.setIfInBounds_toArray, List.set_cons_zero, List.set_cons_succ])
  with_reducible refine wpList_step ?_
  intro K hK
  rw [if_pos (by rfl)]
  go_simp
  first | with_reducible refine hK _ _ ?_ | refine hK _ _ ?_
  clear hK K
  (try simp only [Act.put, List.setIfInBounds_toArray, List.set_cons_zero, List.set_cons_succ])
  with_reducible refine wpList_step ?_
  intro K hK
  rw [if_pos (by rfl)]
  go_simp
  first | with_reducible refine hK _ _ ?_ | refine hK _ _ ?_
  clear hK K
  (try simp only [Act.put, List.setIfInBounds_toArray, List.set_cons_zero, List.set_cons_succ])
  with_reducible refine wpList_step ?_
  intro K hK
  rw [if_pos (by rfl)]
  go_simp
  first | with_reducible refine hK _ _ ?_ | refine hK _ _ ?_
  clear hK K
  (try simp only [Act.put, List.setIfInBounds_toArray, List.set_cons_zero, List.set_cons_succ])
  with_reducible refine wpList_step ?_
  intro K hK
  rw [if_pos (by rfl)]
  go_simp
  first | with_reducible refine hK _ _ ?_ | refine hK _ _ ?_
  clear hK K
  (try simp only [Act.put, List.setIfInBounds_toArray, List.set_cons_zero, List.set_cons_succ])
  with_reducible refine wpList_plain rfl ?_
  intro K hK
  go_simp
  first | with_reducible refine hK _ _ ?_ | refine hK _ _ ?_
  clear hK K
  (try simp only [Act.put, List.setIfInBounds_toArray, List.set_cons_zero, List.set_cons_succ])
  with_reducible refine wpList_plain rfl ?_
  intro K hK
  go_simp
  first | with_reducible refine hK _ _ ?_ | refine hK _ _ ?_
  clear hK K
  (try simp only [Act.put, List.setIfInBounds_toArray, List.set_cons_zero, List.set_cons_succ])
  have H4 : Hid (w2.heap[ob]? = some (.cells #[.bool true] 4 (0, 0))) := OB2.out
  have hh : (w2.setCell ⟨ob, 0, none⟩ (.bool true)).heap[ob]? = some (.cells #[.bool true] 4 (0, 0)) := heap_set (o := 0) OB2.out (.bool true)
  have mm := Mod.set (S := fun k => k = ob) (o := 0) w2 rfl (.bool true)
  have HC := H3.out.mod mm hne
  have HM : Mod (fun k => k = b ∨ k = ob) w (w2.setCell ⟨ob, 0, none⟩ (.bool true)) := (M2.out.mono (fun k _ e => .inl e)).then (mm.mono (fun k _ e => .inr e))
  have HHH := Lib.hid hh
  have HCC := Lib.hid HC
  have HMM := Lib.hid HM
  clear hh mm HC HM c0 c1 f1 l2 H3 M2 MB2 OB2 H4
  go_wp2_with fail
  go_end0
  exact ⟨HCC.out, HMM.out, HHH.out, rfl⟩
/-- one more number, counted -/
def oneF (acc : List Nat) (z : Nat) : Nat := if acc.contains z then 1 else 0
theorem CntM.cons {w : World} {b n y : Nat} {acc : List Nat} (h : CntM w b n (fun z => if z = y then 1 else oneF acc z)) : CntM w b n (oneF (acc ++ [y])) := h.congr (fun x _ => by
  unfold oneF
  by_cases e : x = y
  · subst e; simp
  · by_cases h2 : x ∈ acc <;> simp [e, h2])
theorem oneF_no {acc : List Nat} {y : Nat} (h : y ∉ acc) : oneF acc y = 0 := by
  unfold oneF
  rw [if_neg (by simpa using h)]
/-- the maps and cells that set keeps -/
structure SI (w : World) (N g mb ob : Nat) (acc : List Nat) (wr : World) : Prop where
  c : CntM wr g acc.length (oneF acc)
  m : wr.heap[mb]? = some (.cells #[.map (some g)] 60 (0, 0))
  o : wr.heap[ob]? = some (.cells #[.bool true] 4 (0, 0))
  b : Below N w wr
  h : N ≤ g ∧ N ≤ mb ∧ N ≤ ob ∧ g ≠ mb ∧ g ≠ ob ∧ mb ≠ ob
theorem SI.put {w wr w' : World} {N g mb ob y : Nat} {acc : List Nat} (h : SI w N g mb ob acc wr) (hc : CntM w' g (acc.length + 1) (fun z => if z = y then 1 else oneF acc z)) (hm : Mod (fun k => k = g ∨ k = ob) wr w') (ho : w'.heap[ob]? = some (.cells #[.bool true] 4 (0, 0))) : SI w N g mb ob (acc ++ [y]) w' := by
  refine ⟨?_, hm.heap h.m (fun e => ?_), ho, h.b.trans (hm.below (n := N) (fun k hk e => ?_) ?_), h.h⟩
  · rw [List.length_append, List.length_singleton]
    exact hc.cons
  · rcases e with e | e
    · exact h.h.2.2.2.1 e.symm
    · exact h.h.2.2.2.2.2 e
  · have := h.h
    rcases e with e | e <;> omega
  · have := h.c.lt
    have := h.h
    omega
end Go.Proofs.Ytkngmnfgdlnddaa
