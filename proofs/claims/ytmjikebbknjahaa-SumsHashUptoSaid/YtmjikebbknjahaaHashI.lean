/-
  Four hashes and four texts beside them: what a law's loop keeps.
-/
import Derived.Test.YtmjikebbknjahaaClone
namespace Go.Proofs.Ytmjikebbknjahaa
open Go.RowKit Go.Lib Hw
set_option linter.unusedVariables false

def upd {α : Type} (f : Nat → α) (i : Nat) (x : α) : Nat → α := fun k => if k = i then x else f k
theorem upd_at {α : Type} (f : Nat → α) (i : Nat) (x : α) : upd f i x i = x := if_pos rfl
theorem upd_ne {α : Type} (f : Nat → α) {i k : Nat} (x : α) (h : k ≠ i) : upd f i x k = f k := if_neg h
def ptr (q : Nat) : Value := .pointer (some ⟨q, 0, none⟩)

theorem HashB.monoB {w : World} {B C p : Nat} {rv : Value} {l : List UInt8} {n : Int} (h : HashB w B p rv l n) (hC : C ≤ B) : HashB w C p rv l n := ⟨h.cells, h.rest.mono hC, h.ne⟩
theorem HashB.mod {w w' : World} {S : Nat → Prop} {B p : Nat} {rv : Value} {l : List UInt8} {n : Int} (h : HashB w B p rv l n) (m : Mod S w w') (hp : ¬ S p) (hr : ∀ k, rv.ownBlock = some k → ¬ S k) : HashB w' B p rv l n := ⟨m.heap h.cells hp, h.rest.mod m hr, h.ne⟩
theorem HashB.setOther {w : World} {B p : Nat} {rv : Value} {l : List UInt8} {n : Int} (h : HashB w B p rv l n) {a : Addr} (hp : p ≠ a.block) (hr : rv.ownBlock ≠ some a.block) (u : Value) : HashB (w.setCell a u) B p rv l n :=
  ⟨heap_setOther h.cells hp u, h.rest.setOther (p := 0) hr u, h.ne⟩
theorem OwnT.mod {w w' : World} {S : Nat → Prop} {B : Nat} {v : Value} {xs : List ByteArray} (h : OwnT w B v xs) (m : Mod S w w') (hd : ∀ k, v.ownBlock = some k → ¬ S k) : OwnT w' B v xs := by
  refine ⟨h.1, ?_⟩
  rcases h.2 with hn | ⟨g, cap, cur, rfl, hb, hg, r⟩
  · exact .inl hn
  · exact .inr ⟨g, cap, cur, rfl, hb, m.heap hg (hd g rfl), r⟩

structure HI (w : World) (ok : Nat → Prop) (p : Nat → Nat) (rv : Nat → Value) (l : Nat → List UInt8) (t : Nat → ByteArray) (W : World) : Prop where
  a : ∃ cs : Array Value, W.heap[w.heap.size]? = some (.cells cs 65 (0, 0)) ∧ cs.size = 4 ∧ ∀ i, i < 4 → ok i → cs[i]? = some (ptr (p i))
  s : ∃ cs : Array Value, W.heap[w.heap.size + 1]? = some (.cells cs 66 (0, 0)) ∧ cs.size = 4 ∧ ∀ i, i < 4 → cs[i]? = some (.string (t i))
  h : ∀ i, i < 4 → ok i → HashB W (w.heap.size + 2) (p i) (rv i) (l i) (l i).length
  lo : ∀ i, i < 4 → ok i → w.heap.size + 2 ≤ p i
  d1 : ∀ i j, i < 4 → j < 4 → ok i → ok j → i ≠ j → p i ≠ p j
  d2 : ∀ i j, i < 4 → j < 4 → ok i → ok j → i ≠ j → (rv i).ownBlock ≠ some (p j)
  d3 : ∀ i j, i < 4 → j < 4 → ok i → ok j → i ≠ j → ∀ g, (rv i).ownBlock = some g → (rv j).ownBlock = some g → False
  big : w.heap.size + 2 ≤ W.heap.size
  bel : Below w.heap.size w W
section
variable {w W W' : World} {ok ok' : Nat → Prop} {p : Nat → Nat} {rv : Nat → Value} {l : Nat → List UInt8} {t : Nat → ByteArray}
theorem HI.weak (x : HI w ok p rv l t W) (h : ∀ i, i < 4 → ok' i → ok i) : HI w ok' p rv l t W := by
  obtain ⟨cs, a1, a2, a3⟩ := x.a
  exact ⟨⟨cs, a1, a2, fun i hi hk => a3 i hi (h i hi hk)⟩, x.s, fun i hi hk => x.h i hi (h i hi hk), fun i hi hk => x.lo i hi (h i hi hk), fun i j hi hj h1 h2 => x.d1 i j hi hj (h i hi h1) (h j hj h2),
    fun i j hi hj h1 h2 => x.d2 i j hi hj (h i hi h1) (h j hj h2), fun i j hi hj h1 h2 => x.d3 i j hi hj (h i hi h1) (h j hj h2), x.big, x.bel⟩
theorem HI.below (x : HI w ok p rv l t W) (hb : Below W.heap.size W W') : HI w ok p rv l t W' := by
  obtain ⟨cs, a1, a2, a3⟩ := x.a
  obtain ⟨ct, b1, b2, b3⟩ := x.s
  exact ⟨⟨cs, heap_below a1 hb (heap_lt a1), a2, a3⟩, ⟨ct, heap_below b1 hb (heap_lt b1), b2, b3⟩, fun i hi hk => (x.h i hi hk).below hb (x.h i hi hk).lt.1 (x.h i hi hk).lt.2, x.lo, x.d1, x.d2, x.d3, Nat.le_trans x.big hb.size, x.bel.trans (hb.mono (by have := x.big; omega))⟩
theorem HI.drew (x : HI w ok p rv l t W) : HI w ok p rv l t W.drew := ⟨x.a, x.s, fun i hi hk => ⟨(x.h i hi hk).cells, (x.h i hi hk).rest, (x.h i hi hk).ne⟩, x.lo, x.d1, x.d2, x.d3, x.big, x.bel.drew⟩
theorem HI.drewN {n : Nat} (x : HI w ok p rv l t W) : HI w ok p rv l t (W.drewN n) := ⟨x.a, x.s, fun i hi hk => ⟨(x.h i hi hk).cells, (x.h i hi hk).rest, (x.h i hi hk).ne⟩, x.lo, x.d1, x.d2, x.d3, x.big, below_drewN x.bel⟩
theorem HI.cellP (x : HI w ok p rv l t W) (i : Nat) (hi : i < 4) (hk : ok i) : W.cell? ⟨w.heap.size, i, none⟩ = some (.pointer (some ⟨p i, 0, none⟩)) := by
  obtain ⟨cs, a1, a2, a3⟩ := x.a
  rw [heap_cell a1]; exact a3 i hi hk
theorem HI.cellS (x : HI w ok p rv l t W) (i : Nat) (hi : i < 4) : W.cell? ⟨w.heap.size + 1, i, none⟩ = some (.string (t i)) := by
  obtain ⟨cs, a1, a2, a3⟩ := x.s
  rw [heap_cell a1]; exact a3 i hi
theorem HI.oldP (x : HI w ok p rv l t W) (i : Nat) (hi : i < 4) : ∃ old : Value, W.cell? ⟨w.heap.size, i, none⟩ = some old := by
  obtain ⟨cs, a1, a2, a3⟩ := x.a
  exact ⟨cs[i]'(by omega), by rw [heap_cell a1]; simp⟩
theorem HI.freeP (x : HI w ok p rv l t W) (i : Nat) : W.frozen? ⟨w.heap.size, i, none⟩ = false := by
  obtain ⟨cs, a1, a2, a3⟩ := x.a
  exact heap_free a1 i
theorem HI.freeS (x : HI w ok p rv l t W) (i : Nat) : W.frozen? ⟨w.heap.size + 1, i, none⟩ = false := by
  obtain ⟨cs, a1, a2, a3⟩ := x.s
  exact heap_free a1 i
/-- a text is stored -/
theorem HI.str (x : HI w ok p rv l t W) (i : Nat) (hi : i < 4) (y : ByteArray) : HI w ok p rv l (upd t i y) (W.setCell ⟨w.heap.size + 1, i, none⟩ (.string y)) := by
  obtain ⟨cs, a1, a2, a3⟩ := x.a
  obtain ⟨ct, b1, b2, b3⟩ := x.s
  refine ⟨⟨cs, heap_setOther a1 (by show w.heap.size ≠ w.heap.size + 1; omega) _, a2, a3⟩, ⟨ct.setIfInBounds i (.string y), heap_set b1 _, by simpa using b2, fun k hk => ?_⟩, fun k hk ho => ?_, x.lo, x.d1, x.d2, x.d3, by simpa using x.big, x.bel.setCell (by show w.heap.size ≤ w.heap.size + 1; omega) _⟩
  · by_cases hki : k = i
    · subst hki
      rw [upd_at, Array.getElem?_setIfInBounds_self_of_lt (by omega)]
    · rw [upd_ne _ _ hki, Array.getElem?_setIfInBounds_ne (fun e => hki e.symm)]
      exact b3 k hk
  · have hh := x.h k hk ho
    have h1 := x.lo k hk ho
    exact hh.setOther (by show p k ≠ w.heap.size + 1; omega) (fun e => by have h2 : w.heap.size + 2 ≤ w.heap.size + 1 := (hh.rest.lt _ e).1; omega) _
/-- a new hash is stored -/
theorem HI.put (x : HI w ok p rv l t W) (i : Nat) (hi : i < 4) {q Bq : Nat} {rvq : Value} {lq : List UInt8} (hb : Below W.heap.size W W') (hn : HashB W' Bq q rvq lq lq.length) (hq : W.heap.size ≤ q) (hBq : W.heap.size ≤ Bq) :
    HI w (fun k => ok k ∨ k = i) (upd p i q) (upd rv i rvq) (upd l i lq) t (W'.setCell ⟨w.heap.size, i, none⟩ (.pointer (some ⟨q, 0, none⟩))) := by
  have y := x.below hb
  obtain ⟨cs, a1, a2, a3⟩ := y.a
  obtain ⟨ct, b1, b2, b3⟩ := y.s
  have hbig := x.big
  have old : ∀ k, k < 4 → k ≠ i → (ok k ∨ k = i) → ok k := fun k _ hk h => h.resolve_right hk
  have bp : ∀ k, k < 4 → ok k → p k < W.heap.size := fun k hk ho => (x.h k hk ho).lt.1
  have br : ∀ k, k < 4 → ok k → ∀ g, (rv k).ownBlock = some g → g < W.heap.size := fun k hk ho => (x.h k hk ho).lt.2
  have rq : ∀ g, rvq.ownBlock = some g → W.heap.size ≤ g := fun g h => Nat.le_trans hBq (hn.rest.lt g h).1
  refine ⟨⟨cs.setIfInBounds i (.pointer (some ⟨q, 0, none⟩)), heap_set a1 _, by simpa using a2, fun k hk ho => ?_⟩, ⟨ct, heap_setOther b1 (by show w.heap.size + 1 ≠ w.heap.size; omega) _, b2, b3⟩, fun k hk ho => ?_, fun k hk ho => ?_, fun k j hk hj ho hp hne => ?_, fun k j hk hj ho hp hne => ?_, fun k j hk hj ho hp hne g h1 h2 => ?_, by simpa using y.big, y.bel.setCell (by exact Nat.le_refl _) _⟩
  · by_cases hki : k = i
    · subst hki
      rw [upd_at, Array.getElem?_setIfInBounds_self_of_lt (by omega)]; rfl
    · rw [upd_ne _ _ hki, Array.getElem?_setIfInBounds_ne (fun e => hki e.symm)]
      exact a3 k hk (old k hk hki ho)
  · by_cases hki : k = i
    · subst hki
      rw [upd_at, upd_at, upd_at]
      exact (hn.monoB (by omega)).setOther (by show q ≠ w.heap.size; omega) (fun e => by have h1 : W.heap.size ≤ w.heap.size := rq _ e; omega) _
    · rw [upd_ne _ _ hki, upd_ne _ _ hki, upd_ne _ _ hki]
      have hh := y.h k hk (old k hk hki ho)
      have h1 := x.lo k hk (old k hk hki ho)
      exact hh.setOther (by show p k ≠ w.heap.size; omega) (fun e => by have h2 : w.heap.size + 2 ≤ w.heap.size := (hh.rest.lt _ e).1; omega) _
  · by_cases hki : k = i
    · subst hki; rw [upd_at]; omega
    · rw [upd_ne _ _ hki]; exact x.lo k hk (old k hk hki ho)
  · by_cases hki : k = i
    · subst hki
      rw [upd_at, upd_ne _ _ (fun e => hne e.symm)]
      have := bp j hj (old j hj (fun e => hne e.symm) hp); omega
    · by_cases hji : j = i
      · subst hji
        rw [upd_at, upd_ne _ _ hki]
        have := bp k hk (old k hk hki ho); omega
      · rw [upd_ne _ _ hki, upd_ne _ _ hji]
        exact x.d1 k j hk hj (old k hk hki ho) (old j hj hji hp) hne
  · by_cases hki : k = i
    · subst hki
      rw [upd_at, upd_ne _ _ (fun e => hne e.symm)]
      intro e
      have h1 := rq _ e
      have h2 := bp j hj (old j hj (fun e => hne e.symm) hp)
      omega
    · by_cases hji : j = i
      · subst hji
        rw [upd_at, upd_ne _ _ hki]
        intro e
        have := br k hk (old k hk hki ho) _ e
        omega
      · rw [upd_ne _ _ hki, upd_ne _ _ hji]
        exact x.d2 k j hk hj (old k hk hki ho) (old j hj hji hp) hne
  · by_cases hki : k = i
    · subst hki
      rw [upd_at] at h1
      rw [upd_ne _ _ (fun e => hne e.symm)] at h2
      have h3 := rq _ h1
      have h4 := br j hj (old j hj (fun e => hne e.symm) hp) _ h2
      omega
    · by_cases hji : j = i
      · subst hji
        rw [upd_at] at h2
        rw [upd_ne _ _ hki] at h1
        have h3 := rq _ h2
        have h4 := br k hk (old k hk hki ho) _ h1
        omega
      · rw [upd_ne _ _ hki] at h1
        rw [upd_ne _ _ hji] at h2
        exact x.d3 k j hk hj (old k hk hki ho) (old j hj hji hp) hne g h1 h2
/-- a hash takes bytes in -/
theorem HI.write (x : HI w ok p rv l t W) (i : Nat) (hi : i < 4) (ho : ok i) {f : List UInt8} {e : Ending} (hw : WritePost W (w.heap.size + 2) (p i) (rv i) (l i ++ f) e W') :
    e = .returned (.tuple #[]) ∧ Mod (fun k => k = p i ∨ (rv i).ownBlock = some k) W W' ∧ ∃ rv', HI w ok p (upd rv i rv') (upd l i (l i ++ f)) t W' := by
  obtain ⟨rv', he, hh, hr, hm⟩ := hw
  refine ⟨he, hm, rv', ?_⟩
  obtain ⟨cs, a1, a2, a3⟩ := x.a
  obtain ⟨ct, b1, b2, b3⟩ := x.s
  have hlo := x.lo i hi ho
  have hri : ∀ g, (rv i).ownBlock = some g → w.heap.size + 2 ≤ g := fun g h => ((x.h i hi ho).rest.lt g h).1
  have nS : ∀ b, b < w.heap.size + 2 → ¬ (b = p i ∨ (rv i).ownBlock = some b) := fun b hb h => by
    rcases h with h | h
    · omega
    · have := hri b h; omega
  have hr' : ∀ g, rv'.ownBlock = some g → (rv i).ownBlock = some g ∨ W.heap.size ≤ g := fun g h => by
    rcases hr with h1 | h1
    · exact .inl (h1 ▸ h)
    · exact .inr (h1 g h)
  refine ⟨⟨cs, hm.heap a1 (nS _ (by omega)), a2, a3⟩, ⟨ct, hm.heap b1 (nS _ (by omega)), b2, b3⟩, fun k hk hok => ?_, x.lo, x.d1, fun k j hk hj h1 h2 hne => ?_, fun k j hk hj h1 h2 hne g g1 g2 => ?_, Nat.le_trans x.big hm.size, x.bel.trans (hm.below (fun k hk => nS k (by omega)) (by have := x.big; omega))⟩
  · by_cases hki : k = i
    · subst hki
      rw [upd_at, upd_at]
      exact hh
    · rw [upd_ne _ _ hki, upd_ne _ _ hki]
      refine (x.h k hk hok).mod hm (fun h => ?_) (fun g hg h => ?_)
      · rcases h with h | h
        · exact x.d1 k i hk hi hok ho hki h
        · exact x.d2 i k hi hk ho hok (fun e => hki e.symm) h
      · rcases h with h | h
        · subst h; exact x.d2 k i hk hi hok ho hki hg
        · exact x.d3 k i hk hi hok ho hki g hg h
  · by_cases hki : k = i
    · subst hki
      rw [upd_at]
      intro e
      rcases hr' _ e with h | h
      · exact x.d2 k j hk hj h1 h2 hne h
      · have := (x.h j hj h2).lt.1; omega
    · rw [upd_ne _ _ hki]
      exact x.d2 k j hk hj h1 h2 hne
  · by_cases hki : k = i
    · subst hki
      rw [upd_at] at g1
      rw [upd_ne _ _ (fun e => hne e.symm)] at g2
      rcases hr' _ g1 with h | h
      · exact x.d3 k j hk hj h1 h2 hne g h g2
      · have := (x.h j hj h2).lt.2 g g2; omega
    · rw [upd_ne _ _ hki] at g1
      by_cases hji : j = i
      · subst hji
        rw [upd_at] at g2
        rcases hr' _ g2 with h | h
        · exact x.d3 k j hk hj h1 h2 hne g g1 h
        · have := (x.h k hk h1).lt.2 g g1; omega
      · rw [upd_ne _ _ hji] at g2
        exact x.d3 k j hk hj h1 h2 hne g g1 g2
end
end Go.Proofs.Ytmjikebbknjahaa
