/-
  Rows of bytes of the call's own, of which nothing is frozen but what stands behind them: what []byte(s) lays, and append of a text.
-/
import Derived.Test.YtkngmnfgdlnddaaRefB
import Derived.Test.YtkngmnfgdlnddaaRowB
set_option linter.unusedSimpArgs false
set_option linter.unusedVariables false
namespace Go.Proofs.Ytkngmnfgdlnddaa
open Go.RowKit Go.Lib Hw Go.Maps
set_option linter.unusedSimpArgs false
set_option linter.unusedVariables false

def OwnZ (w : World) (B : Nat) (v : Value) (bs : List UInt8) : Prop :=
  ∃ g cap cur fz, v = .slice (some ⟨g, 0, none⟩) bs.length cap ∧ B ≤ g ∧ w.heap[g]? = some (.cells cur 5 fz) ∧ (fz = (0, 0) ∨ cur.size ≤ fz.1) ∧ bs.length ≤ cap ∧ cap ≤ 9223372036854775807 ∧ cap ≤ cur.size ∧ ∀ i (h : i < bs.length), cur[i]? = some (bv bs[i])
theorem free_Z {w : World} {g : Nat} {cur : Array Value} {t : TypeId} {fz : Nat × Nat} (h : w.heap[g]? = some (.cells cur t fz)) (hf : fz = (0, 0) ∨ cur.size ≤ fz.1) (o : Nat) (ho : o < cur.size) : w.frozen? ⟨g, o, none⟩ = false := by
  obtain ⟨lo, hi⟩ := fz
  simp only [World.frozen?, h]
  rcases hf with e | e
  · cases e; simp
  · simp only at e
    simp
    intro h2
    omega
theorem OwnZ.lt {w : World} {B : Nat} {v : Value} {bs : List UInt8} (h : OwnZ w B v bs) : ∀ g, v.ownBlock = some g → B ≤ g ∧ g < w.heap.size := fun g hg => by
  obtain ⟨b, cap, cur, fz, rfl, h1, h2, _⟩ := h
  obtain rfl : b = g := Option.some.inj hg
  exact ⟨h1, heap_lt h2⟩
theorem OwnZ.below {w w' : World} {B C : Nat} {v : Value} {bs : List UInt8} (h : OwnZ w B v bs) (hb : Below C w w') (hC : ∀ g, v.ownBlock = some g → g < C) : OwnZ w' B v bs := by
  obtain ⟨b, cap, cur, fz, rfl, h1, h2, r⟩ := h
  exact ⟨b, cap, cur, fz, rfl, h1, (hb.block b (hC b rfl)).trans h2, r⟩
theorem OwnZ.shape {w : World} {B : Nat} {v : Value} {bs : List UInt8} (h : OwnZ w B v bs) : ∃ g cap, v = .slice (some ⟨g, 0, none⟩) bs.length cap := by
  obtain ⟨b, cap, cur, fz, rfl, _⟩ := h
  exact ⟨b, cap, rfl⟩
/-- []byte(s) -/
theorem OwnZ.conv (s : ByteArray) (w : World) (B : Nat) (hB : B ≤ w.heap.size) (hs : s.size ≤ 100000000) : OwnZ (bytesWorld w 5 s) B (.slice (some ⟨w.heap.size, 0, none⟩) s.size (grownCap w s.size 0 5)) s.data.toList := by
  have hge := grownCap_ge w s.size 0 5
  have hle := grownCap_le_maxLen w s.size 0 5 (by rw [maxLen_eq]; omega)
  rw [maxLen_eq] at hle
  have hl : s.data.toList.length = s.size := by rw [Array.length_toList]; rfl
  have hsz : (bytesCells w 5 s).size = grownCap w s.size 0 5 := by
    unfold bytesCells
    rw [Array.size_append, Array.size_map, Array.size_replicate]
    have : s.data.size = s.size := rfl
    omega
  refine ⟨_, _, _, _, by rw [hl], hB, bytesWorld_at_new w _ s, .inr (Nat.le_refl _), by rw [hl]; exact hge, hle, by rw [hsz]; exact Nat.le_refl _, fun i hi => ?_⟩
  have hi' : i < s.data.size := by simpa using hi
  unfold bytesCells
  rw [Array.getElem?_append_left (by simpa using hi'), Array.getElem?_map, Array.getElem?_eq_getElem hi']
  rfl
/-- string(b) -/
theorem OwnZ.str {w : World} {B : Nat} {v : Value} {bs : List UInt8} (h : OwnZ w B v bs) : (convert 101 9 v).run Try.prog w = .ok (.string ⟨bs.toArray⟩) w := by
  obtain ⟨g, cap, cur, fz, rfl, h1, h2, h3, h4, h5, h6, h7⟩ := h
  have hcell : ∀ i, i < bs.length → w.cell? ⟨g, 0 + i, none⟩ = some (.int .u8 ((bs.map fun b => (b.toNat : Int)).getD i 0)) := by
    intro i hi
    rw [Nat.zero_add, heap_cell h2, h7 i hi]
    simp [bv, List.getD, hi]
  have h2 := run_convert_bytes_arg (P := Try.prog) w 101 5 Try.underlying101 Try.underlying5 g 0 bs.length cap (bs.map fun b => (b.toNat : Int)) (by simp) hcell 9 Try.underlying9
  rw [h2, strOf_bytes]
theorem setCells_Z (g : Nat) (t : TypeId) (fr : Nat × Nat) : ∀ (vs : List Value) (o : Nat) (w : World) (cur : Array Value), w.heap[g]? = some (.cells cur t fr) → ∃ c2, (w.setCells g o vs).heap[g]? = some (.cells c2 t fr) ∧ c2.size = cur.size ∧ (∀ j (h : j < vs.length), o + j < cur.size → c2[o + j]? = some vs[j]) ∧ (∀ i, i < o ∨ o + vs.length ≤ i → c2[i]? = cur[i]?) := fun vs o w cur h => heap_setCells g t fr vs o w cur h
theorem run_appZ (W : World) (B : Nat) (v : Value) (bs : List UInt8) (hO : OwnZ W B v bs) (s : ByteArray) (ty : TypeId) (hlen : bs.length + s.size ≤ 100000000) (hB : B ≤ W.heap.size) :
    ∃ v' w', (Builtin.append_ #[101, 9] ty #[v, .string s]).run Try.prog W = .ok v' w' ∧ OwnZ w' B v' (bs ++ s.data.toList) ∧ Below B W w' := by
  obtain ⟨i, hi, hz0, hz1, hz2⟩ := info_parts info_u8
  have hl : s.data.toList.length = s.size := by rw [Array.length_toList]; rfl
  have hby : byteCells s = s.data.toList.map bv := rfl
  have hs : Src Try.prog 1 9 (.string s) s.size (byteCells s) W := Src.ofString _ Try.underlying9 s
  have hs1 : Src Try.prog i.size 9 (.string s) s.size (byteCells s) W := by rw [hz1]; exact hs
  obtain ⟨g, cap, cur, fz, rfl, h1, h2, h3, h4, h5, h6, h7⟩ := hO
  by_cases hroom : bs.length + s.size ≤ cap
  · have hr := run_append_room_src (P := Try.prog) W _ _ ty _ i Try.underlying101 hi g 0 bs.length cap (.string s) s.size (byteCells s) hs1 hroom (fun j hj => by
      rw [hby, List.length_map, hl] at hj
      rw [hz1, heap_cell h2, Array.getElem?_eq_getElem (by omega)]; rfl) (fun j hj => by
      rw [hby, List.length_map, hl] at hj
      rw [hz1]
      exact free_Z h2 h3 _ (by omega))
    obtain ⟨c2, q1, q2, q3, q4⟩ := heap_setCells g _ _ (byteCells s) (0 + bs.length * i.size) W cur h2
    refine ⟨_, _, hr, ⟨g, cap, c2, fz, by rw [List.length_append, hl], h1, q1, by rw [q2]; exact h3, by rw [List.length_append, hl]; exact hroom, h5, by rw [q2]; exact h6, fun j hj => ?_⟩, (mod_setCells g _ _ W).below (n := B) (fun k hk e => by omega) (by omega)⟩
    rw [List.length_append, hl] at hj
    rw [hz1, Nat.mul_one, Nat.zero_add] at q3 q4
    by_cases hjx : j < bs.length
    · rw [q4 _ (Or.inl (by omega)), h7 j hjx, List.getElem_append_left hjx]
    · have h8 := q3 (j - bs.length) (by rw [hby, List.length_map, hl]; omega) (by omega)
      rw [show bs.length + (j - bs.length) = j by omega] at h8
      rw [h8, List.getElem_append_right (by omega)]
      simp only [hby, List.getElem_map]
  · have hf := run_firstCells_some (P := Try.prog) W.drew i.size bs.length ⟨g, 0, none⟩ bs.length cap (bs.map bv) (by rw [List.length_map, hz1, Nat.mul_one]) (fun j u hu => by
      rw [List.getElem?_map] at hu
      obtain ⟨x, hx, rfl⟩ := Option.map_eq_some_iff.1 hu
      obtain ⟨hj, rfl⟩ := List.getElem?_eq_some_iff.1 hx
      have hadd : (⟨g, 0, none⟩ : Addr).add j = ⟨g, 0 + j, none⟩ := Addr.add_lit _ _ _
      rw [hadd, Nat.zero_add]
      show W.cell? _ = _
      rw [heap_cell h2]
      exact h7 j hj)
    have hr := run_append_grow_src (P := Try.prog) W _ _ ty _ i (.int .u8 0) Try.underlying101 hi hz0 (some ⟨g, 0, none⟩) bs.length cap (bs.map bv) hf (.string s) s.size (byteCells s) hs1 (by omega) (by omega) (growslice_fits (by omega) (by rw [hz2]; omega))
    have hge := grownCap_ge W (bs.length + s.size) cap 5
    have hle := grownCap_le_maxLen W (bs.length + s.size) cap 5 (by rw [maxLen_eq]; omega)
    rw [maxLen_eq] at hle
    refine ⟨_, _, hr, ⟨W.heap.size, _, _, _, by rw [List.length_append, hl], hB, heap_alloc_new W.drew _, .inl rfl, by rw [List.length_append, hl]; exact hge, hle, ?_, fun j hj => ?_⟩, (Below.refl B W).drew.alloc hB _⟩
    · rw [Array.size_append, size_zeroCells, List.size_toArray, List.length_append, List.length_map, hby, List.length_map, hl]
      show _ ≤ _ + _ * 1
      omega
    · rw [hby, ← List.map_append, Array.getElem?_append_left (by rw [List.size_toArray, List.length_map]; exact hj), List.getElem?_toArray, List.getElem?_map, List.getElem?_eq_getElem hj]
      rfl
theorem wpList_appZ {ops : Array Oper} {rest : List Oper} {o : Oper} {a : Act} {Q : Exit → Act → World → Prop} (W : World) (hgd : o.guard = none) (sl y : Operand)
    (ho : o.op = .call { callee := .builtin .append, args := #[sl, y], argTypes := #[101, 9] })
    (B : Nat) (v : Value) (bs : List UInt8) (hsl : a.eval sl = v) (hown : OwnZ W B v bs) (s : ByteArray) (hy : a.eval y = .string s)
    (hlen : bs.length + s.size ≤ 100000000) (hB : B ≤ W.heap.size)
    (h : ∀ v' w', OwnZ w' B v' (bs ++ s.data.toList) → Below B W w' → wpList Try.prog ops Q rest (a.put o.dst v') w') :
    wpList Try.prog ops Q (o :: rest) a W := by
  obtain ⟨v', w', hr, h1, h2⟩ := run_appZ W B v bs hown s o.type hlen hB
  refine wpList_plain hgd fun _ hK => ?_
  unfold Oper.wp execOp
  simp only [ho, resolve, invoke, builtin, Sem.run_bind, Sem.run_pure, Result.andThen_ok, List.map_toArray, List.map_cons, List.map_nil, hsl, hy, hr]
  exact hK _ _ (h v' w' h1 h2)
end Go.Proofs.Ytkngmnfgdlnddaa

