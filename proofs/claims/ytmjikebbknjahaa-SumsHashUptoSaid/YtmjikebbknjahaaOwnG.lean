/-
  Byte slices of the call's own whose block may be marked behind its end (what a string's conversion lays).
-/
import Derived.Test.YtmjikebbknjahaaRowB
import Derived.Test.YtmjikebbknjahaaStrApp
namespace Go.Proofs.Ytmjikebbknjahaa
open Go.RowKit Go.Lib
set_option linter.unusedVariables false

def OwnG (w : World) (B : Nat) (v : Value) (bs : List UInt8) : Prop :=
  ∃ g cap cur fz, v = .slice (some ⟨g, 0, none⟩) bs.length cap ∧ B ≤ g ∧ w.heap[g]? = some (.cells cur 5 fz) ∧ (fz = (0, 0) ∨ cap ≤ fz.1) ∧ bs.length ≤ cap ∧ cap ≤ maxLen ∧ cur.size = cap ∧ cur.toList.take bs.length = bs.map bv
theorem OwnG.lt {w : World} {B : Nat} {v : Value} {bs : List UInt8} (h : OwnG w B v bs) : ∀ k, v.ownBlock = some k → B ≤ k ∧ k < w.heap.size := by
  obtain ⟨g, cap, cur, fz, rfl, hb, hg, _⟩ := h
  intro k hk
  obtain rfl : g = k := Option.some.inj hk
  exact ⟨hb, heap_lt hg⟩
theorem OwnG.form {w : World} {B : Nat} {v : Value} {bs : List UInt8} (h : OwnG w B v bs) : ∃ g cap, v = .slice (some ⟨g, 0, none⟩) bs.length cap ∧ B ≤ g ∧ g < w.heap.size ∧ bs.length ≤ cap := by
  obtain ⟨g, cap, cur, fz, rfl, hb, hg, _, hc, _⟩ := h
  exact ⟨g, cap, rfl, hb, heap_lt hg, hc⟩
theorem OwnG.cell {w : World} {B g n cap : Nat} {bs : List UInt8} (h : OwnG w B (.slice (some ⟨g, 0, none⟩) n cap) bs) (j : Nat) (hj : j < bs.length) : w.cell? ⟨g, j, none⟩ = some (.int .u8 ((bs[j]'hj).toNat : Int)) := by
  obtain ⟨g', cap', cur, fz, e, hb, hg, _, hc, _, hs, ht⟩ := h
  cases e
  rw [heap_cell hg]
  have h1 : (cur.toList.take bs.length)[j]? = some (bv bs[j]) := by rw [ht]; simp [hj]
  rw [List.getElem?_take, if_pos hj] at h1
  rw [Array.getElem?_toList] at h1
  exact h1
theorem OwnG.below {w w' : World} {B C : Nat} {v : Value} {bs : List UInt8} (h : OwnG w B v bs) (hb : Below C w w') (hC : ∀ g, v.ownBlock = some g → g < C) : OwnG w' B v bs := by
  obtain ⟨g, cap, cur, fz, rfl, hB, hg, r⟩ := h
  exact ⟨g, cap, cur, fz, rfl, hB, heap_below hg hb (hC g rfl), r⟩
theorem OwnG.mono {w : World} {B C : Nat} {v : Value} {bs : List UInt8} (h : OwnG w B v bs) (hC : C ≤ B) : OwnG w C v bs := by
  obtain ⟨g, cap, cur, fz, e, hb, r⟩ := h
  exact ⟨g, cap, cur, fz, e, by omega, r⟩
theorem OwnG.conv (s : ByteArray) (w : World) (hs : s.size ≤ 9223372036854775807) : OwnG (bytesWorld w 5 s) w.heap.size (.slice (some ⟨w.heap.size, 0, none⟩) s.size (grownCap w s.size 0 5)) s.data.toList := by
  have hl : s.data.toList.length = s.size := by rw [Array.length_toList]; rfl
  have hge := grownCap_ge w s.size 0 5
  have hcs : (bytesCells w 5 s).size = grownCap w s.size 0 5 := by
    simp only [bytesCells, Array.size_append, Array.size_map, Array.size_replicate]
    have : s.data.size = s.size := rfl
    omega
  refine ⟨w.heap.size, _, _, _, by rw [hl], Nat.le_refl _, bytesWorld_at_new w _ s, .inr (by rw [hcs]; exact Nat.le_refl _), by rw [hl]; exact hge, grownCap_le_maxLen w _ _ _ (by rw [maxLen_eq]; exact hs), hcs, ?_⟩
  unfold bytesCells
  rw [Array.toList_append, List.take_append_of_le_length (by simp), List.take_of_length_le (by simp), Array.toList_map]
  rfl

theorem run_storeCells_one (P : Program) (w : World) (g o : Nat) (v x : Value) (h1 : v.oneCell' = true) (hc : w.cell? ⟨g, o, none⟩ = some x) (hf : w.frozen? ⟨g, o, none⟩ = false) :
    (storeCells ⟨g, o, none⟩ [v]).run P w = .ok () (w.setCell ⟨g, o, none⟩ v) := by
  have hadd : (⟨g, o, none⟩ : Addr).add 0 = ⟨g, o, none⟩ := by unfold Addr.add; simp
  have hst : (store ((⟨g, o, none⟩ : Addr).add 0) v).run P w = .ok () (w.setCell ⟨g, o, none⟩ v) := by
    rw [hadd, run_store P w _ v _ h1, hc]
    simp [hf]
  simp [storeCells, hst]

/-- append(xs, b): one byte that lies at an address -/
theorem run_appG {w : World} {B : Nat} {v : Value} {bs : List UInt8} (hown : OwnG w B v bs) (b : UInt8) (ad : Addr) (c : Nat) (ty : TypeId) (hb : w.cell? ad = some (bv b)) (hlen : bs.length + 1 ≤ 140737488355328) (hB : B ≤ w.heap.size) :
    ∃ v' w', (Builtin.append_ #[35, 35] ty #[v, .slice (some ad) 1 c]).run Try.prog w = .ok v' w' ∧ OwnG w' B v' (bs ++ [b]) ∧ Below B w w' := by
  obtain ⟨i, hi, hz0, hz1, hz2⟩ := info_parts info_u8
  obtain ⟨g, cap, cur, fz, rfl, hBg, hg, hfz, hnc, hcm, hcs, ht⟩ := hown
  have hadd0 : ad.add 0 = ad := by unfold Addr.add; simp
  have hnews : ∀ j u, [bv b][j]? = some u → w.cell? (ad.add j) = some u := by
    intro j u hu
    match j, hu with
    | 0, hu => rw [hadd0, hb]; simpa using hu
  by_cases hroom : bs.length + 1 ≤ cap
  · have hf := run_firstCells_some (P := Try.prog) w i.size 1 ad 1 c [bv b] (by rw [hz1]; rfl) hnews
    have hlc : bs.length < cur.size := by omega
    have hc : w.cell? ⟨g, bs.length, none⟩ = some cur[bs.length] := by rw [heap_cell hg]; simp
    have hfr : w.frozen? ⟨g, bs.length, none⟩ = false := by
      rcases hfz with rfl | hfz
      · exact heap_free hg _
      · have : ¬ fz.1 ≤ bs.length := by omega
        simp [World.frozen?, hg, this]
    have hst := run_storeCells_one Try.prog w g bs.length (bv b) _ rfl hc hfr
    refine ⟨.slice (some ⟨g, 0, none⟩) (bs.length + 1) cap, w.setCell ⟨g, bs.length, none⟩ (bv b), ?_, ⟨g, cap, _, fz, by simp, hBg, heap_set hg (bv b), hfz, by simpa using hroom, hcm, by simpa using hcs, ?_⟩, (Below.refl _ _).setCell hBg _⟩
    · simp [Builtin.append_, run_underlying Try.underlying35, sizeOf, typeInfo, hi, hz1, Builtin.lenOf, hroom, Addr.add_lit]
      rw [hz1] at hf
      simp [hf, hst]
    · rw [Array.toList_setIfInBounds, List.length_append, List.length_singleton, List.map_append]
      have hl : bs.length < cur.toList.length := by rw [Array.length_toList]; exact hlc
      rw [List.take_succ_eq_append_getElem (by rw [List.length_set]; exact hl), List.take_set_of_le (Nat.le_refl _), ht]
      simp
  · have holds : ∀ j u, (bs.map bv)[j]? = some u → w.cell? ((⟨g, 0, none⟩ : Addr).add j) = some u := by
      intro j u hu
      have hadd : (⟨g, 0, none⟩ : Addr).add j = ⟨g, j, none⟩ := by unfold Addr.add; split <;> simp_all
      rw [hadd, heap_cell hg]
      rw [← ht, List.getElem?_take] at hu
      split at hu
      · simpa using hu
      · cases hu
    have hr := run_append_grow (P := Try.prog) w 35 ty 5 i (.int .u8 0) Try.underlying35 hi hz0 ⟨g, 0, none⟩ bs.length cap (bs.map bv) (by rw [hz1]; simp) holds ad 1 c [bv b] (by rw [hz1]; rfl) hnews (by omega) (by omega) (by rw [hz2]; exact growslice_fits (by omega) (by omega))
    have hge := grownCap_ge w (bs.length + 1) cap 5
    refine ⟨_, _, hr, ⟨w.heap.size, grownCap w (bs.length + 1) cap 5, _, (0, 0), by simp, hB, heap_alloc_new w.drew _, .inl rfl, by simpa using hge, grownCap_le_maxLen w (bs.length + 1) cap 5 (by rw [maxLen_eq]; omega), ?_, ?_⟩, ((Below.refl B w).drew).alloc (by exact hB) _⟩
    · have hz1' : (Value.int IntKind.u8 0).cells.size = 1 := rfl
      simp only [Array.size_append, List.size_toArray, size_zeroCells, hz1', List.length_map, List.length_singleton, Nat.mul_one]
      omega
    · simp only [Array.toList_append, List.append_assoc, List.length_append, List.length_singleton, List.map_append]
      rw [← List.append_assoc, List.take_append_of_le_length (by simp), List.take_of_length_le (by simp)]
      rfl
/-- at the operation: one byte that was laid into a block of its own -/
theorem wpList_appG {ops : Array Oper} {rest : List Oper} {o : Oper} {a : Act} {Q : Exit → Act → World → Prop} (W : World) (t : TypeId) (b : UInt8) (hgd : o.guard = none) (s x : Operand)
    (ho : o.op = .call { callee := .builtin .append, args := #[s, x], argTypes := #[35, 35] })
    (B : Nat) (v : Value) (bs : List UInt8) (hs : a.eval s = v) (hown : OwnG W B v bs) (c : Nat) (hx : a.eval x = .slice (some ⟨W.heap.size, 0, none⟩) 1 c)
    (hlen : bs.length + 1 ≤ 140737488355328) (hB : B ≤ W.heap.size)
    (h : ∀ v' w', OwnG w' B v' (bs ++ [b]) → Below B W w' → wpList Try.prog ops Q rest (a.put o.dst v') w') :
    wpList Try.prog ops Q (o :: rest) a (W.alloc (.cells #[.int .u8 (b.toNat : Int)] t)) := by
  have hown' : OwnG (W.alloc (.cells #[.int .u8 (b.toNat : Int)] t)) B v bs := hown.below ((Below.refl W.heap.size W).alloc (Nat.le_refl _) _) (fun g hg => (hown.lt g hg).2)
  obtain ⟨v', w', hr, h1, h2⟩ := run_appG hown' b ⟨W.heap.size, 0, none⟩ c o.type (by rw [heap_cell (heap_alloc_new W _)]; rfl) hlen (by simp only [World.size_alloc]; omega)
  refine wpList_plain hgd fun K hK => ?_
  unfold Oper.wp execOp
  simp only [ho, resolve, invoke, builtin, Sem.run_bind, Sem.run_pure, Result.andThen_ok, List.map_toArray, List.map_cons, List.map_nil, hs, hx, hr]
  exact hK _ _ (h v' w' h1 (((Below.refl B W).alloc hB _).trans h2))
end Go.Proofs.Ytmjikebbknjahaa
