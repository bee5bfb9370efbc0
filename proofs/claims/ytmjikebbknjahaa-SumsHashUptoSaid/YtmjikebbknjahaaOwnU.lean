/-
  Slices of words (uint32) of the call's own.
-/
import Derived.Test.YtmjikebbknjahaaOwnB
import Derived.Test.YtmjikebbknjahaaCrc
namespace Go.Proofs.Ytmjikebbknjahaa
open Go.RowKit Hw
set_option linter.unusedVariables false

/-- a word as a value -/
def uv (x : BitVec 32) : Value := .int .u32 (toU x)
def OwnU (w : World) (B : Nat) (v : Value) (xs : List (BitVec 32)) : Prop := w.ownsRow B 25 1 v xs.length (xs.map uv)
theorem info_u32 : (Try.prog.info? 25).map (fun i => (i.zero, i.size, i.bytes)) = some (some (.int .u32 0), 1, 4) := by kernel_rfl
theorem uv_one (xs : List (BitVec 32)) : ∀ u ∈ xs.map uv, u.oneCell' = true := by
  intro u hu
  obtain ⟨_, _, rfl⟩ := List.mem_map.1 hu
  rfl
theorem OwnU.nil (w : World) (B : Nat) : OwnU w B (.slice none 0 0) [] := World.ownsRow_nil w B _ 1
theorem OwnU.form {w : World} {B : Nat} {v : Value} {xs : List (BitVec 32)} (h : OwnU w B v xs) (hn : 0 < xs.length) : ∃ g cap, v = .slice (some ⟨g, 0, none⟩) xs.length cap ∧ B ≤ g ∧ g < w.heap.size := World.ownsRow.form h hn
theorem OwnU.cell {w : World} {B g n cap : Nat} {xs : List (BitVec 32)} (h : OwnU w B (.slice (some ⟨g, 0, none⟩) n cap) xs) (j : Nat) (X : BitVec 32) (hX : X = xs.getD j 0) (hj : j < xs.length) : w.cell? ⟨g, j, none⟩ = some (.int .u32 (toU X)) := by
  have h1 := World.ownsRow.cells (w := w) h (g := g) rfl j (uv xs[j]) (by simp [hj])
  have hadd : (⟨g, 0, none⟩ : Addr).add j = ⟨g, j, none⟩ := by unfold Addr.add; split <;> simp_all
  rw [hadd] at h1
  rw [h1, hX]
  simp [uv, List.getD, hj]
theorem OwnU.below {w w' : World} {B C : Nat} {v : Value} {xs : List (BitVec 32)} (h : OwnU w B v xs) (hb : Below C w w') (hC : ∀ g, v.ownBlock = some g → g < C) : OwnU w' B v xs := by
  refine ⟨h.1, ?_⟩
  rcases h.2 with hn | ⟨g, cap, cur, rfl, hB, hg, r⟩
  · exact .inl hn
  · exact .inr ⟨g, cap, cur, rfl, hB, heap_below hg hb (hC g rfl), r⟩
theorem OwnU.drew {w : World} {B : Nat} {v : Value} {xs : List (BitVec 32)} (h : OwnU w B v xs) : OwnU w.drew B v xs := h
theorem OwnU.lt {w : World} {B : Nat} {v : Value} {xs : List (BitVec 32)} (h : OwnU w B v xs) : ∀ g, v.ownBlock = some g → B ≤ g ∧ g < w.heap.size := World.ownsRow.lt h
theorem OwnU.mono {w : World} {B C : Nat} {v : Value} {xs : List (BitVec 32)} (h : OwnU w B v xs) (hC : C ≤ B) : OwnU w C v xs := by
  refine ⟨h.1, ?_⟩
  rcases h.2 with hn | ⟨g, cap, cur, rfl, hb, r⟩
  · exact .inl hn
  · exact .inr ⟨g, cap, cur, rfl, by omega, r⟩
/-- append(xs, x): one word, that was laid into a block of its own -/
theorem wpList_appU {ops : Array Oper} {rest : List Oper} {o : Oper} {a : Act} {Q : Exit → Act → World → Prop} (W : World) (t : TypeId) (x : BitVec 32) (hgd : o.guard = none) (s y : Operand)
    (ho : o.op = .call { callee := .builtin .append, args := #[s, y], argTypes := #[85, 85] })
    (B : Nat) (v : Value) (xs : List (BitVec 32)) (hs : a.eval s = v) (hown : OwnU W B v xs) (c : Nat) (hy : a.eval y = .slice (some ⟨W.heap.size, 0, none⟩) 1 c)
    (hlen : xs.length ≤ 1000000) (hB : B ≤ W.heap.size)
    (h : ∀ v' w', OwnU w' B v' (xs ++ [x]) → Below B W w' → wpList Try.prog ops Q rest (a.put o.dst v') w') :
    wpList Try.prog ops Q (o :: rest) a (W.alloc (.cells #[.int .u32 (toU x)] t)) := by
  obtain ⟨i, hi, hz0, hz1, hz2⟩ := info_parts info_u32
  refine wpList_append_own _ hgd s y 85 ho B 25 i (.int .u32 0) 1 4 Try.underlying85 hi hz0 hz1 hz2 rfl (by decide) v xs.length (xs.map uv) hs (World.ownsRow.alloc hown _) ⟨W.heap.size, 0, none⟩ 1 c [uv x] hy rfl ?_ (uv_one [x]) (by rw [maxLen_eq]; omega) (by omega) (by simp only [World.size_alloc]; omega) ?_
  · exact World.news_of_block (heap_alloc_new W _)
  · intro v' w' h1 h2 _
    refine h v' w' ?_ (((Below.refl B W).alloc hB _).grown h2 (by simp only [World.size_alloc]; omega) (fun k hk => (World.ownsRow.lt hown k hk).1))
    unfold OwnU
    rw [List.length_append, List.map_append]
    exact h1
/-- an append leaves the row's old cells as they were -/
theorem run_appU {W' : World} {B : Nat} {v : Value} {xs : List (BitVec 32)} (hown : OwnU W' B v xs) (x : BitVec 32) (ty : TypeId) (ad : Addr) (c : Nat) (hx : W'.cell? ad = some (uv x)) (hlen : xs.length ≤ 1000000) (hB : B ≤ W'.heap.size) :
    ∃ v' w', (Builtin.append_ #[85, 85] ty #[v, .slice (some ad) 1 c]).run Try.prog W' = .ok v' w' ∧ OwnU w' B v' (xs ++ [x]) ∧ W'.grownBy w' v.ownBlock ∧
      ∀ g j u, v.ownBlock = some g → j < xs.length → W'.cell? ⟨g, j, none⟩ = some u → w'.cell? ⟨g, j, none⟩ = some u := by
  obtain ⟨i, hi, hz0, hz1, hz2⟩ := info_parts info_u32
  have hadd0 : ad.add 0 = ad := by unfold Addr.add; simp
  have hnews : ∀ j u, [uv x][j]? = some u → W'.cell? (ad.add j) = some u := by
    intro j u hu
    match j, hu with
    | 0, hu => rw [hadd0, hx]; exact hu
  obtain ⟨v', w', hr, h1, h2, _⟩ := run_append_own (P := Try.prog) W' B 85 ty 25 i (.int .u32 0) 1 4 Try.underlying85 hi hz0 hz1 hz2 rfl (by decide) v xs.length (xs.map uv) hown ad 1 c [uv x] rfl hnews (uv_one [x]) (by rw [maxLen_eq]; omega) (by omega) hB
  refine ⟨v', w', hr, ?_, h2, ?_⟩
  · unfold OwnU
    rw [List.length_append, List.map_append]
    exact h1
  · intro g j u hg hj hc
    rcases hown.2 with ⟨rfl, h0⟩ | ⟨g0, cap, cur, rfl, hb, hgg, hn, hcm, hcs, ht⟩
    · cases hg
    · obtain rfl : g0 = g := Option.some.inj hg
      rw [heap_cell hgg] at hc
      by_cases hroom : xs.length + 1 ≤ cap
      · have hr' := run_append_room (P := Try.prog) W' 85 ty 25 i Try.underlying85 hi g0 xs.length cap cur hgg ad 1 c [uv x] (by rw [hz1]; rfl) hnews (uv_one [x]) hroom (by rw [hz1]; simp; omega)
        have e2 := (Result.ok.inj (hr.symm.trans hr')).2
        rw [e2, heap_cell (setRow_heap W' g0 cur _ 25 _ hgg)]
        have hjc : j < cur.size := by omega
        have hlt : j < (cur.toList.take xs.length).length := by rw [List.length_take, Array.length_toList]; exact Nat.lt_min.2 ⟨hj, hjc⟩
        rw [hz1, Nat.mul_one, List.getElem?_toArray, List.append_assoc, List.getElem?_append_left hlt, List.getElem?_take, if_pos hj]
        simpa using hc
      · have holds : ∀ j u, (xs.map uv)[j]? = some u → W'.cell? ((⟨g0, 0, none⟩ : Addr).add j) = some u := World.ownsRow.cells (w := W') hown (g := g0) rfl
        have hr' := run_append_grow (P := Try.prog) W' 85 ty 25 i (.int .u32 0) Try.underlying85 hi hz0 ⟨g0, 0, none⟩ xs.length cap (xs.map uv) (by rw [hz1]; simp) holds ad 1 c [uv x] (by rw [hz1]; rfl) hnews (by omega) (by omega) (by rw [hz2]; exact growslice_fits (by omega) (by omega))
        have e2 := (Result.ok.inj (hr.symm.trans hr')).2
        rw [e2, heap_cell (heap_alloc (w := W'.drew) hgg)]
        exact hc
/-- the same at the operation -/
theorem wp_appU {o : Oper} {a : Act} {K : Act → World → Prop} {Q : Exit → Act → World → Prop} (W W' : World) (x : BitVec 32) (s y : Operand)
    (ho : o.op = .call { callee := .builtin .append, args := #[s, y], argTypes := #[85, 85] })
    (B : Nat) (v : Value) (xs : List (BitVec 32)) (hs : a.eval s = v) (hown : OwnU W B v xs) (hW : Below W.heap.size W W') (c H : Nat) (hy : a.eval y = .slice (some ⟨H, 0, none⟩) 1 c) (hH : W'.cell? ⟨H, 0, none⟩ = some (.int .u32 (toU x)))
    (hlen : xs.length ≤ 1000000) (hB : B ≤ W.heap.size)
    (h : ∀ v' w', OwnU w' B v' (xs ++ [x]) → Below B W' w' → (∀ g j u, v.ownBlock = some g → j < xs.length → W'.cell? ⟨g, j, none⟩ = some u → w'.cell? ⟨g, j, none⟩ = some u) → K (a.put o.dst v') w') : o.wp Try.prog a W' K Q := by
  have hown' : OwnU W' B v xs := hown.below hW (fun g hg => (hown.lt g hg).2)
  obtain ⟨v', w', hr, h1, h2, h3⟩ := run_appU hown' x o.type ⟨H, 0, none⟩ c hH hlen (by have := hW.size; omega)
  unfold Oper.wp execOp
  simp only [ho, resolve, invoke, builtin, Sem.run_bind, Sem.run_pure, Result.andThen_ok, List.map_toArray, List.map_cons, List.map_nil, hs, hy, hr]
  exact h v' w' h1 ((Below.refl B W').grown h2 (by have := hW.size; omega) (fun k hk => (World.ownsRow.lt hown k hk).1)) h3
/-- append([]uint32(nil), xs...) of words that lie at a slice's head -/
theorem wpList_copyU {ops : Array Oper} {rest : List Oper} {o : Oper} {a : Act} {Q : Exit → Act → World → Prop} (w : World) (hgd : o.guard = none) (s x : Operand)
    (ho : o.op = .call { callee := .builtin .append, args := #[s, x], argTypes := #[85, 85] })
    (hs : a.eval s = .slice none 0 0) (g n cap : Nat) (xs : List (BitVec 32)) (hn : xs.length = n) (hx : a.eval x = .slice (some ⟨g, 0, none⟩) n cap) (hc : ∀ j (h : j < xs.length), w.cell? ⟨g, j, none⟩ = some (.int .u32 (toU xs[j]))) (hlen : n ≤ 1000000)
    (h : ∀ v' w', OwnU w' w.heap.size v' xs → Below w.heap.size w w' → wpList Try.prog ops Q rest (a.put o.dst v') w') : wpList Try.prog ops Q (o :: rest) a w := by
  subst hn
  obtain ⟨i, hi, hz0, hz1, hz2⟩ := info_parts info_u32
  refine wpList_append_own w hgd s x 85 ho w.heap.size 25 i (.int .u32 0) 1 4 Try.underlying85 hi hz0 hz1 hz2 rfl (by decide) (.slice none 0 0) 0 [] hs (World.ownsRow_nil w w.heap.size _ 1) ⟨g, 0, none⟩ xs.length cap (xs.map uv) hx (by simp) ?_ (uv_one xs) (by rw [maxLen_eq]; omega) (by omega) (Nat.le_refl _) ?_
  · intro j u hu
    have hadd : (⟨g, 0, none⟩ : Addr).add j = ⟨g, j, none⟩ := by unfold Addr.add; split <;> simp_all
    rw [hadd]
    rw [List.getElem?_map] at hu
    obtain ⟨y, hy, rfl⟩ := Option.map_eq_some_iff.1 hu
    obtain ⟨hj, rfl⟩ := List.getElem?_eq_some_iff.1 hy
    exact hc j hj
  · intro v' w' h1 h2 h3
    rw [Nat.zero_add, List.nil_append] at h1
    exact h v' w' h1 ((Below.refl _ _).grown h2 (Nat.le_refl _) (fun k hk => by simp [Value.ownBlock] at hk))
end Go.Proofs.Ytmjikebbknjahaa
