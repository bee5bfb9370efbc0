/-
  Slices of words (uint32) of the call's own.
-/
import Derived.Test.YtmjikebbknjahaaOwnB
import Derived.Test.YtmjikebbknjahaaCrc
namespace Go.Proofs.Ytmjikebbknjahaa
open Go.RowKit Hw
set_option linter.unusedVariables false

/-- a word as a value -/
def uv (x : BitVec 32) : Value := .int .u32 (toU x)
def OwnU (w : World) (B : Nat) (v : Value) (xs : List (BitVec 32)) : Prop := w.ownsRow B 25 1 v xs.length (xs.map uv)
theorem info_u32 : (Try.prog.info? 25).map (fun i => (i.zero, i.size, i.bytes)) = some (some (.int .u32 0), 1, 4) := by kernel_rfl
theorem uv_one (xs : List (BitVec 32)) : ∀ u ∈ xs.map uv, u.oneCell' = true := by
  intro u hu
  obtain ⟨_, _, rfl⟩ := List.mem_map.1 hu
  rfl
theorem OwnU.nil (w : World) (B : Nat) : OwnU w B (.slice none 0 0) [] := World.ownsRow_nil w B _ 1
theorem OwnU.form {w : World} {B : Nat} {v : Value} {xs : List (BitVec 32)} (h : OwnU w B v xs) (hn : 0 < xs.length) : ∃ g cap, v = .slice (some ⟨g, 0, none⟩) xs.length cap ∧ B ≤ g ∧ g < w.heap.size := World.ownsRow.form h hn
theorem OwnU.cell {w : World} {B g n cap : Nat} {xs : List (BitVec 32)} (h : OwnU w B (.slice (some ⟨g, 0, none⟩) n cap) xs) (j : Nat) (X : BitVec 32) (hX : X = xs.getD j 0) (hj : j < xs.length) : w.cell? ⟨g, j, none⟩ = some (.int .u32 (toU X)) := by
  have h1 := World.ownsRow.cells (w := w) h (g := g) rfl j (uv xs[j]) (by simp [hj])
  have hadd : (⟨g, 0, none⟩ : Addr).add j = ⟨g, j, none⟩ := by unfold Addr.add; split <;> simp_all
  rw [hadd] at h1
  rw [h1, hX]
  simp [uv, List.getD, hj]
theorem OwnU.below {w w' : World} {B C : Nat} {v : Value} {xs : List (BitVec 32)} (h : OwnU w B v xs) (hb : Below C w w') (hC : ∀ g, v.ownBlock = some g → g < C) : OwnU w' B v xs := by
  refine ⟨h.1, ?_⟩
  rcases h.2 with hn | ⟨g, cap, cur, rfl, hB, hg, r⟩
  · exact .inl hn
  · exact .inr ⟨g, cap, cur, rfl, hB, heap_below hg hb (hC g rfl), r⟩
theorem OwnU.drew {w : World} {B : Nat} {v : Value} {xs : List (BitVec 32)} (h : OwnU w B v xs) : OwnU w.drew B v xs := h
theorem OwnU.lt {w : World} {B : Nat} {v : Value} {xs : List (BitVec 32)} (h : OwnU w B v xs) : ∀ g, v.ownBlock = some g → B ≤ g ∧ g < w.heap.size := World.ownsRow.lt h
theorem OwnU.mono {w : World} {B C : Nat} {v : Value} {xs : List (BitVec 32)} (h : OwnU w B v xs) (hC : C ≤ B) : OwnU w C v xs := by
  refine ⟨h.1, ?_⟩
  rcases h.2 with hn | ⟨g, cap, cur, rfl, hb, r⟩
  · exact .inl hn
  · exact .inr ⟨g, cap, cur, rfl, by omega, r⟩
/-- append(xs, x): one word, that was laid into a block of its own -/
theorem wpList_appU {ops : Array Oper} {rest : List Oper} {o : Oper} {a : Act} {Q : Exit → Act → World → Prop} (W : World) (t : TypeId) (x : BitVec 32) (hgd : o.guard = none) (s y : Operand)
    (ho : o.op = .call { callee := .builtin .append, args := #[s, y], argTypes := #[85, 85] })
    (B : Nat) (v : Value) (xs : List (BitVec 32)) (hs : a.eval s = v) (hown : OwnU W B v xs) (c : Nat) (hy : a.eval y = .slice (some ⟨W.heap.size, 0, none⟩) 1 c)
    (hlen : xs.length ≤ 1000000) (hB : B ≤ W.heap.size)
    (h : ∀ v' w', OwnU w' B v' (xs ++ [x]) → Below B W w' → wpList Try.prog ops Q rest (a.put o.dst v') w') :
    wpList Try.prog ops Q (o :: rest) a (W.alloc (.cells #[.int .u32 (toU x)] t)) := by
  obtain ⟨i, hi, hz0, hz1, hz2⟩ := info_parts info_u32
  refine wpList_append_own _ hgd s y 85 ho B 25 i (.int .u32 0) 1 4 Try.underlying85 hi hz0 hz1 hz2 rfl (by decide) v xs.length (xs.map uv) hs (World.ownsRow.alloc hown _) ⟨W.heap.size, 0, none⟩ 1 c [uv x] hy rfl ?_ (uv_one [x]) (by rw [maxLen_eq]; omega) (by omega) (by simp only [World.size_alloc]; omega) ?_
  · exact World.news_of_block (heap_alloc_new W _)
  · intro v' w' h1 h2 _
    refine h v' w' ?_ (((Below.refl B W).alloc hB _).grown h2 (by simp only [World.size_alloc]; omega) (fun k hk => (World.ownsRow.lt hown k hk).1))
    unfold OwnU
    rw [List.length_append, List.map_append]
    exact h1
end Go.Proofs.Ytmjikebbknjahaa
