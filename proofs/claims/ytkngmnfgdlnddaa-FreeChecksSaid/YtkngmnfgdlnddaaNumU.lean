/-
  Rows of numbers (uint32): such as are read, and such as are the call's own.
-/
import Derived.Test.YtkngmnfgdlnddaaOwnB
import Derived.Test.YtkngmnfgdlnddaaModB
import Derived.Maps.AppendAt
namespace Go.Proofs.Ytkngmnfgdlnddaa
open Go.RowKit Go.Lib Hw
set_option linter.unusedVariables false

def uN (n : Nat) : Value := .int .u32 (n : Int)
def All4 (xs : List Nat) : Prop := ∀ x ∈ xs, x < 4294967296
/-- a row that can be read -/
def URow (w : World) (v : Value) (xs : List Nat) : Prop :=
  All4 xs ∧ ∃ ad c, v = .slice ad xs.length c ∧ xs.length ≤ c ∧ c ≤ 9223372036854775807 ∧ (0 < xs.length → ∃ b o, ad = some ⟨b, o, none⟩ ∧ b < w.heap.size ∧ ∀ i (h : i < xs.length), w.cell? ⟨b, o + i, none⟩ = some (uN xs[i]))
theorem All4.nil : All4 [] := fun d h => by simp at h
theorem All4.app {xs ys : List Nat} (h : All4 xs) (g : All4 ys) : All4 (xs ++ ys) := fun x hx => (List.mem_append.1 hx).elim (h x) (g x)
theorem All4.take {xs : List Nat} (h : All4 xs) (i : Nat) : All4 (xs.take i) := fun d hd => h d (List.mem_of_mem_take hd)
theorem All4.drop {xs : List Nat} (h : All4 xs) (i : Nat) : All4 (xs.drop i) := fun d hd => h d (List.mem_of_mem_drop hd)
theorem URow.nil (w : World) : URow w (.slice none 0 0) [] := ⟨All4.nil, none, 0, rfl, Nat.le_refl _, by decide, fun h => by simp at h⟩
theorem URow.drew {w : World} {v : Value} {xs : List Nat} (h : URow w v xs) : URow w.drew v xs := h
theorem URow.mod {w w' : World} {S : Nat → Prop} {v : Value} {xs : List Nat} (h : URow w v xs) (m : Mod S w w') (hd : 0 < xs.length → ∀ k, v.ownBlock = some k → ¬ S k) : URow w' v xs := by
  obtain ⟨h0, ad, c, rfl, h1, h2, h3⟩ := h
  refine ⟨h0, ad, c, rfl, h1, h2, fun hp => ?_⟩
  obtain ⟨b, o, rfl, hb, hc⟩ := h3 hp
  refine ⟨b, o, rfl, Nat.lt_of_lt_of_le hb m.size, fun i hi => ?_⟩
  have hk := m.block b hb (hd hp b rfl)
  have h4 := hc i hi
  simp only [World.cell?] at h4 ⊢
  rw [hk]
  exact h4
theorem URow.below {w w' : World} {v : Value} {xs : List Nat} (h : URow w v xs) (hb : Below w.heap.size w w') : URow w' v xs := h.mod (Mod.of (fun _ => False) hb) (fun _ _ _ h => h)
theorem URow.form {w : World} {v : Value} {xs : List Nat} (h : URow w v xs) : ∃ ad c, v = .slice ad xs.length c ∧ xs.length ≤ 9223372036854775807 ∧ (0 < xs.length → ∃ b o, ad = some ⟨b, o, none⟩ ∧ ∀ i (h : i < xs.length), w.cell? ⟨b, o + i, none⟩ = some (uN xs[i])) := by
  obtain ⟨h0, ad, c, e, h1, h2, h3⟩ := h
  exact ⟨ad, c, e, by omega, fun hp => by obtain ⟨b, o, e2, _, hc⟩ := h3 hp; exact ⟨b, o, e2, hc⟩⟩
theorem URow.lt {w : World} {v : Value} {xs : List Nat} (h : URow w v xs) (hp : 0 < xs.length) : ∀ k, v.ownBlock = some k → k < w.heap.size := fun k hk => by
  obtain ⟨h0, ad, c, rfl, h1, h2, h3⟩ := h
  obtain ⟨b, o, rfl, hb, hc⟩ := h3 hp
  obtain rfl : b = k := Option.some.inj hk
  exact hb
/-- a row of the call's own -/
def OwnM (w : World) (B : Nat) (v : Value) (xs : List Nat) : Prop := w.ownsRow B 27 1 v xs.length (xs.map uN)
theorem info_M : (Try.prog.info? 27).map (fun i => (i.zero, i.size, i.bytes)) = some (some (.int .u32 0), 1, 4) := by kernel_rfl
theorem uN_one (xs : List Nat) : ∀ u ∈ xs.map uN, u.oneCell' = true := by
  intro u hu
  obtain ⟨_, _, rfl⟩ := List.mem_map.1 hu
  rfl
theorem OwnM.nil (w : World) (B : Nat) : OwnM w B (.slice none 0 0) [] := World.ownsRow_nil w B _ 1
theorem OwnM.lt {w : World} {B : Nat} {v : Value} {xs : List Nat} (h : OwnM w B v xs) : ∀ g, v.ownBlock = some g → B ≤ g ∧ g < w.heap.size := World.ownsRow.lt h
theorem OwnM.shape {w : World} {B : Nat} {v : Value} {xs : List Nat} (h : OwnM w B v xs) : ∃ ad cap, v = .slice ad xs.length cap ∧ xs.length ≤ cap ∧ cap ≤ maxLen ∧ (0 < xs.length → ∃ g, ad = some ⟨g, 0, none⟩) := by
  rcases h.2 with ⟨rfl, h0⟩ | ⟨g, cap, cur, rfl, _, _, hc, hm, _⟩
  · exact ⟨none, 0, by rw [h0], by omega, by decide, fun h => by omega⟩
  · exact ⟨_, cap, rfl, hc, hm, fun _ => ⟨g, rfl⟩⟩
theorem OwnM.cell {w : World} {B g n cap : Nat} {xs : List Nat} (h : OwnM w B (.slice (some ⟨g, 0, none⟩) n cap) xs) (j : Nat) (hj : j < xs.length) : w.cell? ⟨g, j, none⟩ = some (uN xs[j]) := by
  have h1 := World.ownsRow.cells (w := w) h (g := g) rfl j (uN xs[j]) (by simp [hj])
  have hadd : (⟨g, 0, none⟩ : Addr).add j = ⟨g, j, none⟩ := by unfold Addr.add; split <;> simp_all
  rw [hadd] at h1
  exact h1
theorem OwnM.heap {w w' : World} {B : Nat} {v : Value} {xs : List Nat} (h : OwnM w B v xs) (hk : ∀ g, v.ownBlock = some g → w'.heap[g]? = w.heap[g]?) : OwnM w' B v xs := by
  refine ⟨h.1, ?_⟩
  rcases h.2 with hn | ⟨g, cap, cur, rfl, hB, hg, r⟩
  · exact .inl hn
  · exact .inr ⟨g, cap, cur, rfl, hB, (hk g rfl).trans hg, r⟩
theorem OwnM.mod {w w' : World} {S : Nat → Prop} {B : Nat} {v : Value} {xs : List Nat} (h : OwnM w B v xs) (m : Mod S w w') (hd : ∀ k, v.ownBlock = some k → ¬ S k) : OwnM w' B v xs :=
  h.heap (fun g hg => m.block g (h.lt g hg).2 (hd g hg))
theorem OwnM.below {w w' : World} {B C : Nat} {v : Value} {xs : List Nat} (h : OwnM w B v xs) (hb : Below C w w') (hC : ∀ g, v.ownBlock = some g → g < C) : OwnM w' B v xs := h.heap (fun g hg => hb.block g (hC g hg))
theorem OwnM.drew {w : World} {B : Nat} {v : Value} {xs : List Nat} (h : OwnM w B v xs) : OwnM w.drew B v xs := h
theorem OwnM.mono {w : World} {B C : Nat} {v : Value} {xs : List Nat} (h : OwnM w B v xs) (hC : C ≤ B) : OwnM w C v xs := by
  refine ⟨h.1, ?_⟩
  rcases h.2 with hn | ⟨g, cap, cur, rfl, hb, r⟩
  · exact .inl hn
  · exact .inr ⟨g, cap, cur, rfl, by omega, r⟩
theorem OwnM.row {w : World} {B : Nat} {v : Value} {xs : List Nat} (h : OwnM w B v xs) (hA : All4 xs) : URow w v xs := by
  obtain ⟨ad, cap, rfl, h1, h2, hg⟩ := h.shape
  refine ⟨hA, ad, cap, rfl, h1, by rw [maxLen_eq] at h2; exact h2, fun hp => ?_⟩
  obtain ⟨g, rfl⟩ := hg hp
  exact ⟨g, 0, rfl, (h.lt g rfl).2, fun i hi => by rw [Nat.zero_add]; exact h.cell i hi⟩
/-- append(xs, x): one number, that was laid into a block of its own -/
theorem wpList_appM {ops : Array Oper} {rest : List Oper} {o : Oper} {a : Act} {Q : Exit → Act → World → Prop} (W : World) (t : TypeId) (x : Nat) (hgd : o.guard = none) (s y : Operand)
    (ho : o.op = .call { callee := .builtin .append, args := #[s, y], argTypes := #[28, 28] })
    (B : Nat) (v : Value) (xs : List Nat) (hs : a.eval s = v) (hown : OwnM W B v xs) (c : Nat) (hy : a.eval y = .slice (some ⟨W.heap.size, 0, none⟩) 1 c)
    (hlen : (xs.length + 1) * 4 ≤ 140737488355328) (hB : B ≤ W.heap.size)
    (h : ∀ v' w', OwnM w' B v' (xs ++ [x]) → Mod (fun k => v.ownBlock = some k) W w' → (∀ g, v'.ownBlock = some g → v.ownBlock = some g ∨ W.heap.size ≤ g) → wpList Try.prog ops Q rest (a.put o.dst v') w') :
    wpList Try.prog ops Q (o :: rest) a (W.alloc (.cells #[.int .u32 (x : Int)] t)) := by
  obtain ⟨i, hi, hz0, hz1, hz2⟩ := info_parts info_M
  refine wpList_append_own_at _ hgd s y 28 ho B 27 i (.int .u32 0) 1 4 Try.underlying28 hi hz0 hz1 hz2 rfl (by decide) v xs.length (xs.map uN) hs (World.ownsRow.alloc hown _) ⟨W.heap.size, 0, none⟩ 1 c [uN x] hy rfl ?_ (uN_one [x]) (by rw [maxLen_eq]; omega) (by omega) (by simp only [World.size_alloc]; omega) ?_
  · exact World.news_of_block (heap_alloc_new W _)
  · intro v' w' h1 h2 _ h4
    refine h v' w' ?_ ?_ ?_
    · unfold OwnM
      rw [List.length_append, List.map_append]
      exact h1
    · exact (Mod.of _ ((Below.refl _ _).alloc (Nat.le_refl _) _)).trans (Mod.grown (S := fun k => v.ownBlock = some k) h2 (fun k e => e)) (fun k hk e => e)
    · intro g hg
      rcases h4 with h4 | h4
      · left; rw [← h4]; exact hg
      · right
        rw [h4] at hg
        have := Option.some.inj hg
        simp only [World.size_alloc] at this
        omega
end Go.Proofs.Ytkngmnfgdlnddaa
