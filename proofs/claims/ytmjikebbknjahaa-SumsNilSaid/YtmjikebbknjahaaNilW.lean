/-
  The walks of a Hash that is none, and of the law SumsNil.
-/
import Derived.Test.YtmjikebbknjahaaOwnT
import Derived.Test.YtmjikebbknjahaaClashW
import Derived.Test.YtmjikebbknjahaaFrameT
namespace Go.Proofs.Ytmjikebbknjahaa
open Go.RowKit Go.Lib Hw
set_option linter.unusedVariables false

theorem wp_boxB {P : Program} {o : Oper} {a : Act} {w : World} {K : Act → World → Prop} {Q : Exit → Act → World → Prop} (t : TypeId) (x : Operand) (ho : o.op = .box t x) (N : Nat) (hN : w.heap.size = N) (cells : Array Value) (hx : (a.eval x).cells = cells)
    (h : ∀ W, W.heap[N]? = some (.cells cells t (0, 0)) → Below N w W → W.heap.size = N + 1 → K (a.put o.dst (.pointer (some ⟨N, 0, none⟩))) W) : o.wp P a w K Q := by
  subst hN hx
  unfold Oper.wp execOp
  simp only [ho, Sem.run_bind, Instr.box, newVar, newRow, run_newObj_alloc, Sem.run_pure, Result.andThen_ok]
  exact h _ (heap_new w _) ((Below.refl _ _).alloc (Nat.le_refl _) _) (by simp)
def noCells : Array Value := #[.bool false, .int .u32 0, .int .u32 0, .int .u32 0, .int .u32 0, .int .u32 0, .int .u32 0, .int .u32 0, .int .u32 0, .slice none 0 0, .int .i64 0]
theorem build_H (ρ : Operand → Value) (o : Oper) (ho : o.op = .build 79 #[]) (w : World) : (execOp ρ o).run Try.prog w = .ok (.value (.agg noCells)) w := by
  obtain ⟨a, b, c, d, e, f⟩ := o
  cases ho
  kernel_rfl
theorem wpList_buildHg {ops : Array Oper} {rest : List Oper} {op : Oper} {a : Act} {w : World} {Q : Exit → Act → World → Prop} (hg : Region.wanted op (yielded ops a.tmps) = true) (ho : op.op = .build 79 #[])
    (h : wpList Try.prog ops Q rest (a.put op.dst (.agg noCells)) w) : wpList Try.prog ops Q (op :: rest) a w :=
  wpList_step fun K hK => by
    rw [if_pos hg]
    unfold Oper.wp
    rw [build_H _ _ ho]
    exact hK _ _ h
theorem wpList_boxHg {ops : Array Oper} {rest : List Oper} {op : Oper} {a : Act} {w : World} {Q : Exit → Act → World → Prop} (hg : Region.wanted op (yielded ops a.tmps) = true) (x : Operand) (ho : op.op = .box 79 x) (N : Nat) (hN : w.heap.size = N) (hx : a.eval x = .agg noCells)
    (h : ∀ W, W.heap[N]? = some (.cells noCells 79 (0, 0)) → Below N w W → W.heap.size = N + 1 → wpList Try.prog ops Q rest (a.put op.dst (.pointer (some ⟨N, 0, none⟩))) W) : wpList Try.prog ops Q (op :: rest) a w :=
  wpList_step fun K hK => by
    rw [if_pos hg]
    exact wp_boxB 79 x ho N hN noCells (by rw [hx]; rfl) (fun W h1 h2 h3 => hK _ _ (h W h1 h2 h3))

/-- no Hash: nil, or one that New did not make -/
def NoHash (w : World) (v : Value) : Prop := v = .pointer none ∨ ∃ p, v = .pointer (some ⟨p, 0, none⟩) ∧ p < w.heap.size ∧ w.cell? ⟨p, 0, none⟩ = some (.bool false)
theorem NoHash.below {w w' : World} {v : Value} (h : NoHash w v) (hb : Below w.heap.size w w') : NoHash w' v := by
  rcases h with h | ⟨p, e, hp, hc⟩
  · exact .inl h
  · exact .inr ⟨p, e, Nat.lt_of_lt_of_le hp hb.size, cellB hb hp hc⟩
theorem dead_no (v : Value) (w : World) (h : NoHash w v) : Calls Try.prog 75 #[v] w fun e w' => e = .returned (.bool true) ∧ w = w' := by
  rcases h with rfl | ⟨p, rfl, hp, hc⟩
  · go_enter Try.func75, Try.ntmps75
    go_wp2
    go_ret
    exact ⟨rfl, rfl⟩
  · go_enter Try.func75, Try.ntmps75
    go_wp2
    go_ret
    exact ⟨rfl, rfl⟩
theorem Write_no (v ps : Value) (w : World) (h : NoHash w v) : Calls Try.prog 51 #[v, ps] w fun e w' => e = .returned (.tuple #[]) ∧ w = w' := by
  have H := Lib.hid h
  clear h
  go_enter Try.func51, Try.ntmps51
  go_wp2_with (go_at_call 75; refine (dead_no _ _ H.out).mono ?_; rintro e w1 ⟨rfl, rfl⟩)
  exact bodyPost_ret (results_none rfl _ _ _) rfl ⟨rfl, rfl⟩
theorem Len_no (v : Value) (w : World) (h : NoHash w v) : Calls Try.prog 53 #[v] w fun e w' => e = .returned (.int .i64 0) ∧ w = w' := by
  have H := Lib.hid h
  clear h
  go_enter Try.func53, Try.ntmps53
  go_wp2_with (go_at_call 75; refine (dead_no _ _ H.out).mono ?_; rintro e w1 ⟨rfl, rfl⟩)
  go_ret
  exact ⟨rfl, rfl⟩
theorem Clone_no (v : Value) (w : World) (h : NoHash w v) : Calls Try.prog 54 #[v] w fun e w' => e = .returned (.pointer none) ∧ w = w' := by
  have H := Lib.hid h
  clear h
  go_enter Try.func54, Try.ntmps54
  go_wp2_with (go_at_call 75; refine (dead_no _ _ H.out).mono ?_; rintro e w1 ⟨rfl, rfl⟩)
  go_ret
  exact ⟨rfl, rfl⟩
set_option maxHeartbeats 2000000 in
theorem HSum_no (v : Value) (w : World) (h : NoHash w v) : Calls Try.prog 52 #[v] w fun e w' => e = .returned (dv zeros32) ∧ Below w.heap.size w w' := by
  have H := Lib.hid h
  clear h
  set_option maxRecDepth 100000 in
  go_enter Try.func52, Try.ntmps52
  go_upto_region 1 with (refine wpList_allocD rfl rfl w.heap.size rfl ?_; intro w1 hd1 hb1 hz1)
  (try simp only [Act.put, List.setIfInBounds_toArray, List.set_cons_zero, List.set_cons_succ])
  go_upto_region 2 with (refine wpList_allocD rfl rfl (w.heap.size + 1) hz1 ?_; intro w2 hd2 hb2 hz2)
  (try simp only [Act.put, List.setIfInBounds_toArray, List.set_cons_zero, List.set_cons_succ])
  have HD1 := Lib.hid (hd1.below hb2 (by omega))
  have HD2 := Lib.hid hd2
  have HB2 := Lib.hid (hb1.trans (hb2.mono (by omega)))
  have H2 := Lib.hid (H.out.below HB2.out)
  clear hd1 hb1 hz1 hd2 hb2 hz2
  go_wp2_with (first
    | (go_at_call 75; refine (dead_no _ _ H2.out).mono ?_; rintro e w3 ⟨rfl, rfl⟩)
    | (refine wpList_loadD rfl _ rfl (w.heap.size + 1) rfl zeros32 rfl HD2.out ?_; (try simp only [Act.put, List.setIfInBounds_toArray, List.set_cons_zero, List.set_cons_succ]))
    | (refine wpList_storeD rfl _ _ rfl w.heap.size rfl zeros32 zeros32 rfl rfl rfl HD1.out ?_; intro w4 hd4 hb4 hk4 hz4))
  refine bodyPost_ret (v := dv zeros32) ?_ rfl ⟨rfl, HB2.out.trans hb4⟩
  exact results_cell1 Try.results52 rfl (DB.load hd4 rfl)

set_option maxHeartbeats 2000000 in
theorem nothing_any (v ps : Value) (w : World) (h : NoHash w v) : Calls Try.prog 55 #[v, ps] w fun e w' => e = .returned (.bool true) ∧ Below w.heap.size w w' := by
  have H := Lib.hid h
  have heg := eqGuardD zeros32 zeros32
  have heq := eqD_same zeros32 rfl
  clear h
  go_enter Try.func55, Try.ntmps55
  set_option maxRecDepth 100000 in
  go_wp2_with (first
    | (go_at_call 51; refine (Write_no _ _ _ H.out).mono ?_; rintro e w1 ⟨rfl, rfl⟩)
    | (go_at_call 53; refine (Len_no _ _ H.out).mono ?_; rintro e w1 ⟨rfl, rfl⟩)
    | (go_at_call 52; refine (HSum_no _ _ H.out).mono ?_; rintro e w2 ⟨rfl, hb2⟩; have H2 := Lib.hid (NoHash.below H.out hb2))
    | (refine wpList_buildDg rfl rfl ?_; (try simp only [Act.put, List.setIfInBounds_toArray, List.set_cons_zero, List.set_cons_succ]))
    | (go_at_call 54; refine (Clone_no _ _ H2.out).mono ?_; rintro e w1 ⟨rfl, rfl⟩))
  go_ret
  exact ⟨rfl, hb2⟩

set_option maxHeartbeats 2000000 in
theorem SumsNil_walk (v0 : Value) (w : World) (h0 : ∃ l, StrRow w v0 l ∧ l.length * 16 ≤ 140737488355240) :
    Calls Try.prog 17 #[v0] w fun e w' => e = .returned (.bool true) ∧ Below w.heap.size w w' := by
  obtain ⟨l, hv, hl⟩ := h0
  have HV := Lib.hid hv
  clear hv
  go_enter Try.func17, Try.ntmps17
  go_wp2_with fail
  refine (lent_any _ l _ HV.out hl).mono ?_
  rintro e w1 ⟨g1, c1, rfl, hO1, hb1⟩
  have HB1 := Lib.hid hb1
  have HV1 := Lib.hid (HV.out.below' hb1)
  clear hO1 hb1
  go_wp2_with fail
  refine (nothing_any _ _ _ (.inl rfl)).mono ?_
  rintro e w2 ⟨rfl, hb2⟩
  have HB2 := Lib.hid (HB1.out.trans (hb2.mono HB1.out.size))
  have HV2 := Lib.hid (HV1.out.below' hb2)
  clear hb2 HB1 HV1
  set_option maxRecDepth 100000 in
  go_wp2_with (first
    | (refine wpList_buildHg rfl rfl ?_; (try simp only [Act.put, List.setIfInBounds_toArray, List.set_cons_zero, List.set_cons_succ]))
    | (refine wpList_boxHg rfl _ rfl w2.heap.size rfl rfl ?_; intro w3 hc3 hb3 hz3; have HC3 := Lib.hid hc3; have HB3 := Lib.hid (HB2.out.trans (hb3.mono HB2.out.size)); have HV3 := Lib.hid (HV2.out.below' hb3); clear hc3 hb3; (try simp only [Act.put, List.setIfInBounds_toArray, List.set_cons_zero, List.set_cons_succ]))
    | (go_at_call 24; refine (lent_any _ l _ HV3.out hl).mono ?_; rintro e w4 ⟨g4, c4, rfl, hO4, hb4⟩; have HC4 := Lib.hid (heap_below HC3.out hb4 (by omega)); have HB4 := Lib.hid (HB3.out.trans (hb4.mono HB3.out.size)); clear hO4 hb4)
    | (go_at_call 55; refine (nothing_any _ _ _ (.inr ⟨w2.heap.size, rfl, heap_lt HC4.out, by rw [heap_cell HC4.out]; rfl⟩)).mono ?_; rintro e w5 ⟨rfl, hb5⟩; have HB5 := Lib.hid (HB4.out.trans (hb5.mono HB4.out.size)); clear hb5)
    | (go_at_call 23; refine (awake_any _).mono ?_; rintro e w9 ⟨rfl, hb9⟩))
  go_ret
  exact ⟨rfl, HB5.out.trans (hb9.mono HB5.out.size)⟩
end Go.Proofs.Ytmjikebbknjahaa
