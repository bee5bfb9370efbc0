/-
  Rows of any element that a call owns, beginning anywhere in a block: append told sharply (in place, or in a new block), stores; rows that can be read. Lists that are marked, then grown one by one: what holds all along (plain part of apart).
-/
import Derived.Test.YtkngmnfgdlnddaaGI
set_option linter.unusedSimpArgs false
set_option linter.unusedVariables false
namespace Go.Proofs.Ytkngmnfgdlnddaa
open Go.RowKit Go.Lib Hw Go.Maps
set_option linter.unusedSimpArgs false
set_option linter.unusedVariables false

/-- n elements of sz cells each, in a block of the call's own -/
def OwnR (ty : TypeId) (sz : Nat) (w : World) (B : Nat) (v : Value) (n : Nat) (cs : List Value) : Prop :=
  cs.length = n * sz ∧ ((v = .slice none 0 0 ∧ n = 0) ∨ ∃ g o cap cur, v = .slice (some ⟨g, o, none⟩) n cap ∧ B ≤ g ∧ w.heap[g]? = some (.cells cur ty (0, 0)) ∧ n ≤ cap ∧ cap ≤ 9223372036854775807 ∧ o + cap * sz ≤ cur.size ∧ ∀ i (h : i < cs.length), cur[o + i]? = some cs[i])
/-- n elements of sz cells each, to be read -/
def ReadR (sz : Nat) (w : World) (v : Value) (n : Nat) (cs : List Value) : Prop :=
  cs.length = n * sz ∧ ∃ ad cap, v = .slice ad n cap ∧ n ≤ 9223372036854775807 ∧ (0 < n → ∃ g o, ad = some ⟨g, o, none⟩ ∧ g < w.heap.size ∧ ∀ i (h : i < cs.length), w.cell? ⟨g, o + i, none⟩ = some cs[i])
theorem OwnR.nil (ty : TypeId) (sz : Nat) (w : World) (B : Nat) : OwnR ty sz w B (.slice none 0 0) 0 [] := ⟨by simp, .inl ⟨rfl, rfl⟩⟩
theorem OwnR.lt {ty : TypeId} {sz : Nat} {w : World} {B : Nat} {v : Value} {n : Nat} {cs : List Value} (h : OwnR ty sz w B v n cs) : ∀ g, v.ownBlock = some g → B ≤ g ∧ g < w.heap.size := fun g hg => by
  rcases h.2 with ⟨rfl, _⟩ | ⟨b, o, cap, cur, rfl, h1, h2, _⟩
  · cases hg
  · obtain rfl : b = g := Option.some.inj hg
    exact ⟨h1, heap_lt h2⟩
theorem OwnR.heap {ty : TypeId} {sz : Nat} {w w' : World} {B : Nat} {v : Value} {n : Nat} {cs : List Value} (h : OwnR ty sz w B v n cs) (hk : ∀ g, v.ownBlock = some g → w'.heap[g]? = w.heap[g]?) : OwnR ty sz w' B v n cs := by
  refine ⟨h.1, ?_⟩
  rcases h.2 with h | ⟨b, o, cap, cur, rfl, h1, h2, r⟩
  · exact .inl h
  · exact .inr ⟨b, o, cap, cur, rfl, h1, (hk b rfl).trans h2, r⟩
theorem OwnR.mod {ty : TypeId} {sz : Nat} {w w' : World} {S : Nat → Prop} {B : Nat} {v : Value} {n : Nat} {cs : List Value} (h : OwnR ty sz w B v n cs) (m : Mod S w w') (hd : ∀ k, v.ownBlock = some k → ¬ S k) : OwnR ty sz w' B v n cs :=
  h.heap (fun g hg => m.block g (h.lt g hg).2 (hd g hg))
theorem OwnR.below {ty : TypeId} {sz : Nat} {w w' : World} {B : Nat} {v : Value} {n : Nat} {cs : List Value} (h : OwnR ty sz w B v n cs) (hb : Below w.heap.size w w') : OwnR ty sz w' B v n cs := h.heap (fun g hg => hb.block g (h.lt g hg).2)
theorem OwnR.mono {ty : TypeId} {sz : Nat} {w : World} {B C : Nat} {v : Value} {n : Nat} {cs : List Value} (h : OwnR ty sz w B v n cs) (hC : C ≤ B) : OwnR ty sz w C v n cs := by
  refine ⟨h.1, ?_⟩
  rcases h.2 with h | ⟨b, o, cap, cur, rfl, h1, r⟩
  · exact .inl h
  · exact .inr ⟨b, o, cap, cur, rfl, by omega, r⟩
theorem OwnR.form {ty : TypeId} {sz : Nat} {w : World} {B : Nat} {v : Value} {n : Nat} {cs : List Value} (h : OwnR ty sz w B v n cs) : ∃ ad cap, v = .slice ad n cap ∧ n ≤ cap ∧ cap ≤ 9223372036854775807 := by
  rcases h.2 with ⟨rfl, rfl⟩ | ⟨b, o, cap, cur, rfl, _, _, h3, h4, _⟩
  · exact ⟨none, 0, rfl, Nat.le_refl _, by decide⟩
  · exact ⟨_, cap, rfl, h3, h4⟩
theorem OwnR.read {ty : TypeId} {sz : Nat} {w : World} {B : Nat} {v : Value} {n : Nat} {cs : List Value} (h : OwnR ty sz w B v n cs) : ReadR sz w v n cs := by
  refine ⟨h.1, ?_⟩
  rcases h.2 with ⟨rfl, rfl⟩ | ⟨b, o, cap, cur, rfl, h1, h2, h3, h4, h5, h6⟩
  · exact ⟨none, 0, rfl, by decide, fun h => by omega⟩
  · exact ⟨_, cap, rfl, by omega, fun _ => ⟨b, o, rfl, heap_lt h2, fun i hi => by rw [heap_cell h2]; exact h6 i hi⟩⟩
theorem ReadR.heap {sz : Nat} {w w' : World} {v : Value} {n : Nat} {cs : List Value} (h : ReadR sz w v n cs) (hz : w.heap.size ≤ w'.heap.size) (hk : ∀ g, v.ownBlock = some g → g < w.heap.size → w'.heap[g]? = w.heap[g]?) : ReadR sz w' v n cs := by
  obtain ⟨h0, ad, cap, rfl, h1, h2⟩ := h
  refine ⟨h0, ad, cap, rfl, h1, fun hp => ?_⟩
  obtain ⟨g, o, rfl, h3, h4⟩ := h2 hp
  exact ⟨g, o, rfl, Nat.lt_of_lt_of_le h3 hz, fun i hi => (World.cell?_of_block (a := ⟨g, o + i, none⟩) (hk g rfl h3)).trans (h4 i hi)⟩
theorem ReadR.mod {sz : Nat} {w w' : World} {S : Nat → Prop} {v : Value} {n : Nat} {cs : List Value} (h : ReadR sz w v n cs) (m : Mod S w w') (hd : ∀ k, v.ownBlock = some k → ¬ S k) : ReadR sz w' v n cs :=
  h.heap m.size (fun g hg hl => m.block g hl (hd g hg))
theorem ReadR.below {sz : Nat} {w w' : World} {v : Value} {n : Nat} {cs : List Value} (h : ReadR sz w v n cs) (hb : Below w.heap.size w w') : ReadR sz w' v n cs := h.heap hb.size (fun g hg hl => hb.block g hl)
theorem ReadR.form {sz : Nat} {w : World} {v : Value} {n : Nat} {cs : List Value} (h : ReadR sz w v n cs) : ∃ ad cap, v = .slice ad n cap ∧ n ≤ 9223372036854775807 := by
  obtain ⟨_, ad, cap, h1, h2, _⟩ := h
  exact ⟨ad, cap, h1, h2⟩
/-- the cells of a row that has some -/
theorem ReadR.at {sz : Nat} {w : World} {ad : Option Addr} {n m cap : Nat} {cs : List Value} (h : ReadR sz w (.slice ad m cap) n cs) (hp : 0 < n) : ∃ g o, ad = some ⟨g, o, none⟩ ∧ g < w.heap.size ∧ ∀ i (h : i < cs.length), w.cell? ⟨g, o + i, none⟩ = some cs[i] := by
  obtain ⟨_, ad2, cap2, e, _, h2⟩ := h
  cases e
  exact h2 hp
theorem OwnR.at {ty : TypeId} {sz : Nat} {w : World} {B : Nat} {ad : Option Addr} {n m cap : Nat} {cs : List Value} (h : OwnR ty sz w B (.slice ad m cap) n cs) (hp : 0 < n) : ∃ g o cur, ad = some ⟨g, o, none⟩ ∧ B ≤ g ∧ w.heap[g]? = some (.cells cur ty (0, 0)) ∧ o + n * sz ≤ cur.size ∧ ∀ i (h : i < cs.length), cur[o + i]? = some cs[i] := by
  rcases h.2 with ⟨e, e2⟩ | ⟨b, o, cap2, cur, e, h1, h2, h3, h4, h5, h6⟩
  · omega
  · cases e
    refine ⟨b, o, cur, rfl, h1, h2, ?_, h6⟩
    have := Nat.mul_le_mul_right sz h3
    omega
/-- a store of an element -/
theorem OwnR.put {ty : TypeId} {sz : Nat} {w : World} {B g o n cap k : Nat} {cs us : List Value} (h : OwnR ty sz w B (.slice (some ⟨g, o, none⟩) n cap) n cs) (hk : k < n) (hu : us.length = sz) :
    OwnR ty sz (w.setCells g (o + k * sz) us) B (.slice (some ⟨g, o, none⟩) n cap) n (cs.take (k * sz) ++ (us ++ cs.drop (k * sz + sz))) := by
  obtain ⟨h0, h | ⟨b, o2, cap2, cur, e, h1, h2, h3, h4, h5, h6⟩⟩ := h
  · cases h.1
  cases e
  obtain ⟨c2, q1, q2, q3, q4⟩ := heap_setCells g _ _ us (o + k * sz) w cur h2
  have hkn : (k + 1) * sz ≤ n * sz := Nat.mul_le_mul_right sz hk
  rw [Nat.succ_mul] at hkn
  have hkc := Nat.mul_le_mul_right sz h3
  have hl : (cs.take (k * sz)).length = k * sz := by rw [List.length_take]; omega
  refine ⟨by simp only [List.length_append, List.length_take, List.length_drop]; omega, .inr ⟨g, o, cap, c2, rfl, h1, q1, h3, h4, by omega, fun i hi => ?_⟩⟩
  simp only [List.length_append, hl, List.length_drop] at hi
  by_cases g1 : i < k * sz
  · rw [List.getElem_append_left (by omega), q4 _ (Or.inl (by omega)), h6 i (by omega), List.getElem_take]
  · rw [List.getElem_append_right (by omega)]
    by_cases g2 : i - k * sz < us.length
    · have h7 := q3 (i - k * sz) g2 (by omega)
      have e1 : o + k * sz + (i - k * sz) = o + i := by omega
      rw [e1] at h7
      rw [h7, List.getElem_append_left (by omega)]
      simp only [hl]
    · rw [List.getElem_append_right (by omega), q4 _ (Or.inr (by omega)), h6 i (by omega), List.getElem_drop]
      congr 2
      omega
set_option maxHeartbeats 1000000 in
/-- some elements behind a row, told sharply -/
theorem run_appR (tyS ty : TypeId) (i : TypeInfo) (z : Value) (sz bytes : Nat) (ht : Try.prog.underlying tyS = some (.slice ty)) (hi : Try.prog.info? ty = some i) (hz0 : i.zero = some z) (hz1 : i.size = sz) (hz2 : i.bytes = bytes) (hzs : z.cells.size = sz) (hby : 1 ≤ bytes)
    (W : World) (B : Nat) (v : Value) (n : Nat) (cs : List Value) (hO : OwnR ty sz W B v n cs) (y : Value) (m : Nat) (ns : List Value) (t0 : TypeId) (hs : Src Try.prog sz tyS y m ns W) (hlen : (n + m) * bytes ≤ 140737488355328) (hB : B ≤ W.heap.size) :
    ∃ v' w', (Builtin.append_ #[tyS, tyS] t0 #[v, y]).run Try.prog W = .ok v' w' ∧ OwnR ty sz w' B v' (n + m) (cs ++ ns) ∧ ((∃ ad cap, v = .slice ad n cap ∧ v' = .slice ad (n + m) cap ∧ Mod (fun k => v.ownBlock = some k) W w') ∨ (Below W.heap.size W w' ∧ ∀ g, v'.ownBlock = some g → W.heap.size ≤ g)) := by
  have hs1 : Src Try.prog i.size tyS y m ns W := by rw [hz1]; exact hs
  have hnl : ns.length = m * sz := hs.newsLen
  have hnm : n + m ≤ (n + m) * bytes := Nat.le_mul_of_pos_right _ hby
  have hcl : (cs ++ ns).length = (n + m) * sz := by rw [List.length_append, hO.1, hnl, Nat.add_mul]
  have grown : ∀ (olds : List Value) (old : Nat), olds = cs → ∀ cap, cap = grownCap W (n + m) old ty →
      OwnR ty sz (W.drew.alloc (.cells ((olds ++ ns).toArray ++ Builtin.zeroCells z.cells (cap - (n + m))) ty)) B (.slice (some ⟨W.heap.size, 0, none⟩) (n + m) cap) (n + m) (cs ++ ns) := by
    rintro _ old rfl cap rfl
    have hge := grownCap_ge W (n + m) old ty
    have hle := grownCap_le_maxLen W (n + m) old ty (by rw [maxLen_eq]; omega)
    rw [maxLen_eq] at hle
    refine ⟨hcl, .inr ⟨W.heap.size, 0, _, _, rfl, hB, heap_alloc_new W.drew _, hge, hle, ?_, fun j hj => ?_⟩⟩
    · rw [Array.size_append, size_zeroCells, List.size_toArray, hcl, hzs, ← Nat.add_mul]
      rw [Nat.zero_add]
      exact Nat.mul_le_mul_right sz (by omega)
    · rw [Nat.zero_add, Array.getElem?_append_left (by rw [List.size_toArray]; exact hj), List.getElem?_toArray, List.getElem?_eq_getElem hj]
  have belG : ∀ (o : Obj), Below W.heap.size W (W.drew.alloc o) := fun o => (Below.refl W.heap.size W).drew.alloc (o := o) (Nat.le_refl _)
  obtain ⟨h0, ⟨rfl, rfl⟩ | ⟨g, o, cap, cur, rfl, h1, h2, h3, h4, h5, h6⟩⟩ := hO
  · have hc0 : cs = [] := List.eq_nil_of_length_eq_zero (by rw [h0]; simp)
    subst hc0
    rcases Nat.eq_zero_or_pos m with e | e
    · subst e
      have e2 : ns = [] := List.eq_nil_of_length_eq_zero (by rw [hnl]; simp)
      subst e2
      exact ⟨_, _, run_append_nothing W _ _ t0 _ i ht hi none 0 0 (Nat.le_refl _) y hs1, OwnR.nil _ _ _ _, .inl ⟨none, 0, rfl, rfl, Mod.refl _ _⟩⟩
    · have hr := run_append_grow_src (P := Try.prog) W _ _ t0 _ i z ht hi hz0 none 0 0 [] (run_firstCells_none W.drew i.size 0 0 0) y m ns hs1 (by omega) (by omega) (growslice_fits (by omega) (by rw [hz2]; exact hlen))
      exact ⟨_, _, hr, grown [] 0 rfl _ rfl, .inr ⟨belG _, fun g hg => Nat.le_of_eq (Option.some.inj hg)⟩⟩
  · by_cases hroom : n + m ≤ cap
    · have hcap := Nat.mul_le_mul_right sz hroom
      rw [Nat.add_mul] at hcap
      have hr := run_append_room_src (P := Try.prog) W _ _ t0 _ i ht hi g o n cap y m ns hs1 hroom (fun j hj => by
        rw [hz1, heap_cell h2, Array.getElem?_eq_getElem (by omega)]; rfl) (fun j hj => heap_free h2 _)
      rw [hz1] at hr
      obtain ⟨c2, q1, q2, q3, q4⟩ := heap_setCells g _ _ ns (o + n * sz) W cur h2
      refine ⟨_, _, hr, ⟨hcl, .inr ⟨g, o, cap, c2, rfl, h1, q1, hroom, h4, by rw [q2]; exact h5, fun j hj => ?_⟩⟩, .inl ⟨_, cap, rfl, rfl, (mod_setCells g _ _ W).mono (fun k _ e => by rw [e]; rfl)⟩⟩
      rw [List.length_append] at hj
      by_cases hjx : j < cs.length
      · rw [q4 _ (Or.inl (by omega)), h6 j hjx, List.getElem_append_left hjx]
      · have h7 := q3 (j - cs.length) (by omega) (by omega)
        rw [show o + n * sz + (j - cs.length) = o + j by omega] at h7
        rw [h7, List.getElem_append_right (by omega)]
    · have hf := run_firstCells_some (P := Try.prog) W.drew i.size n ⟨g, o, none⟩ n cap cs (by rw [h0, hz1]) (fun j u hu => by
        obtain ⟨hj, rfl⟩ := List.getElem?_eq_some_iff.1 hu
        have hadd : (⟨g, o, none⟩ : Addr).add j = ⟨g, o + j, none⟩ := Addr.add_lit _ _ _
        rw [hadd]
        show W.cell? _ = _
        rw [heap_cell h2]
        exact h6 j hj)
      have hr := run_append_grow_src (P := Try.prog) W _ _ t0 _ i z ht hi hz0 (some ⟨g, o, none⟩) n cap cs hf y m ns hs1 (by omega) (by omega) (growslice_fits (by omega) (by rw [hz2]; exact hlen))
      exact ⟨_, _, hr, grown _ cap rfl _ rfl, .inr ⟨belG _, fun k hk => Nat.le_of_eq (Option.some.inj hk)⟩⟩
theorem wpList_appR (tyS ty : TypeId) (i : TypeInfo) (z : Value) (sz bytes : Nat) (ht : Try.prog.underlying tyS = some (.slice ty)) (hi : Try.prog.info? ty = some i) (hz0 : i.zero = some z) (hz1 : i.size = sz) (hz2 : i.bytes = bytes) (hzs : z.cells.size = sz) (hby : 1 ≤ bytes)
    {ops : Array Oper} {rest : List Oper} {o : Oper} {a : Act} {Q : Exit → Act → World → Prop} (W : World) (hgd : o.guard = none) (s y : Operand)
    (ho : o.op = .call { callee := .builtin .append, args := #[s, y], argTypes := #[tyS, tyS] })
    (B : Nat) (v : Value) (n : Nat) (cs : List Value) (hs : a.eval s = v) (hown : OwnR ty sz W B v n cs) (yv : Value) (hy : a.eval y = yv) (m : Nat) (ns : List Value) (hsrc : Src Try.prog sz tyS yv m ns W)
    (hlen : (n + m) * bytes ≤ 140737488355328) (hB : B ≤ W.heap.size)
    (h : ∀ v' w', OwnR ty sz w' B v' (n + m) (cs ++ ns) → ((∃ ad cap, v = .slice ad n cap ∧ v' = .slice ad (n + m) cap ∧ Mod (fun k => v.ownBlock = some k) W w') ∨ (Below W.heap.size W w' ∧ ∀ g, v'.ownBlock = some g → W.heap.size ≤ g)) → wpList Try.prog ops Q rest (a.put o.dst v') w') :
    wpList Try.prog ops Q (o :: rest) a W := by
  obtain ⟨v', w', hr, h1, h2⟩ := run_appR tyS ty i z sz bytes ht hi hz0 hz1 hz2 hzs hby W B v n cs hown yv m ns o.type hsrc hlen hB
  refine wpList_plain hgd fun _ hK => ?_
  unfold Oper.wp execOp
  simp only [ho, resolve, invoke, builtin, Sem.run_bind, Sem.run_pure, Result.andThen_ok, List.map_toArray, List.map_cons, List.map_nil, hs, hy, hr]
  exact hK _ _ (h v' w' h1 h2)
/-- one element that was laid into a block of its own -/
theorem src_laid (tyS ty : TypeId) (ht : Try.prog.underlying tyS = some (.slice ty)) (sz : Nat) (W : World) (us : List Value) (hu : us.length = sz) (h1 : ∀ u ∈ us, u.oneCell' = true) (t : TypeId) (g : Nat) (hg : W.heap[g]? = some (.cells us.toArray t (0, 0))) : Src Try.prog sz tyS (.slice (some ⟨g, 0, none⟩) 1 1) 1 us W :=
  Src.ofSlice _ ht ⟨g, 0, none⟩ 1 1 us (by rw [hu]; simp) (World.news_of_block hg) h1
/-- the first elements of a row that has grown in its place -/
theorem OwnR.cut {ty : TypeId} {sz : Nat} {w : World} {B : Nat} {ad : Option Addr} {n m cap : Nat} {cs ds : List Value} (h : OwnR ty sz w B (.slice ad (n + m) cap) (n + m) (cs ++ ds)) (hc : cs.length = n * sz) : OwnR ty sz w B (.slice ad n cap) n cs := by
  refine ⟨hc, ?_⟩
  rcases h.2 with ⟨e, e2⟩ | ⟨b, o, cap2, cur, e, h1, h2, h3, h4, h5, h6⟩
  · obtain ⟨e3, e4, e5⟩ := Value.slice.inj e
    have e6 : n = 0 := by omega
    exact .inl ⟨by rw [e3, e5, e6], e6⟩
  · obtain ⟨e3, e4, e5⟩ := Value.slice.inj e
    subst e3 e5
    refine .inr ⟨b, o, cap, cur, rfl, h1, h2, by omega, h4, h5, fun i hi => ?_⟩
    have := h6 i (by rw [List.length_append]; omega)
    rw [List.getElem_append_left hi] at this
    exact this
theorem OwnO.toR {w : World} {B : Nat} {v : Value} {xs : List Nat} (h : OwnO w B v xs) : OwnR 27 1 w B v xs.length (xs.map uN) := by
  refine ⟨by simp, ?_⟩
  rcases h with ⟨rfl, rfl⟩ | ⟨g, o, cap, cur, rfl, h1, h2, h3, h4, h5, h6⟩
  · exact .inl ⟨rfl, rfl⟩
  · refine .inr ⟨g, o, cap, cur, rfl, h1, h2, h3, h4, by omega, fun i hi => ?_⟩
    rw [List.getElem_map]
    exact h6 i (by simpa using hi)
theorem OwnC.toR {w : World} {B : Nat} {v : Value} {bs : List (Nat × Value)} (h : OwnC w B v bs) : OwnR 64 2 w B v bs.length (brow bs) := by
  refine ⟨brow_len bs, ?_⟩
  rcases h.2 with ⟨rfl, h0⟩ | ⟨g, cap, cur, rfl, h1, h2, h3, h4, h5, h6⟩
  · exact .inl ⟨rfl, by omega⟩
  · rw [maxLen_eq] at h4
    refine .inr ⟨g, 0, cap, cur, rfl, h1, h2, h3, h4, by omega, fun i hi => ?_⟩
    have hcap := Nat.mul_le_mul_right 2 h3
    rw [brow_len] at hi
    have e : (cur.toList.take (bs.length * 2))[i]? = (brow bs)[i]? := by rw [h6]
    rw [List.getElem?_take, if_pos hi, Array.getElem?_toList] at e
    rw [Nat.zero_add, e, List.getElem?_eq_getElem (by rw [brow_len]; exact hi)]
end Go.Proofs.Ytkngmnfgdlnddaa

namespace Go.Proofs.Ytkngmnfgdlnddaa
open Go.RowKit Go.Lib Hw Go.Maps
set_option linter.unusedSimpArgs false
set_option linter.unusedVariables false

def repl (n : Nat) (u : List Value) : List Value := (List.replicate n u).flatten
theorem repl_zero (u : List Value) : repl 0 u = [] := rfl
theorem repl_succ (n : Nat) (u : List Value) : repl (n + 1) u = repl n u ++ u := by
  unfold repl
  rw [List.replicate_succ', List.flatten_append]
  simp
theorem repl_len (n : Nat) (u : List Value) : (repl n u).length = n * u.length := by
  unfold repl
  simp
theorem repl_at {n k j : Nat} {u : List Value} (hk : k < n) (hj : j < u.length) : ∃ h : k * u.length + j < (repl n u).length, (repl n u)[k * u.length + j] = u[j] := by
  induction n with
  | zero => omega
  | succ n ih =>
    have hl : k * u.length + j < (repl (n + 1) u).length := by
      rw [repl_len]
      have := Nat.mul_le_mul_right u.length (show k + 1 ≤ n + 1 by omega)
      rw [Nat.succ_mul] at this
      omega
    refine ⟨hl, ?_⟩
    simp only [repl_succ]
    by_cases e : k < n
    · obtain ⟨h1, h2⟩ := ih e
      rw [List.getElem_append_left h1]
      exact h2
    · obtain rfl : k = n := by omega
      rw [List.getElem_append_right (by rw [repl_len]; omega)]
      simp only [repl_len, Nat.add_sub_cancel_left]
def Lab (lab : Nat → Nat) (off Z : Nat) (vs : List Value) : Prop := ∀ j (h : j < vs.length) g, vs[j].ownBlock = some g → g < Z ∧ lab g = off + 1 + j
/-- lists that are being marked -/
def MarkS (ty : TypeId) (sz : Nat) (vs : List Value) (ln : Nat → Nat) (A : Nat → List Value) (wr : World) (i k : Nat) : Prop :=
  ∀ j (h : j < vs.length), ∃ cs, OwnR ty sz wr 0 vs[j] (ln j) cs ∧ (j < i → cs = repl (ln j) (A j)) ∧ (j = i → cs.take (k * sz) = repl k (A j))
theorem MarkS.mod {ty : TypeId} {sz : Nat} {vs : List Value} {ln : Nat → Nat} {A : Nat → List Value} {wr w' : World} {i k : Nat} {S : Nat → Prop} (h : MarkS ty sz vs ln A wr i k) (m : Mod S wr w') (hd : ∀ j (h : j < vs.length) g, vs[j].ownBlock = some g → ¬ S g) : MarkS ty sz vs ln A w' i k := fun j hj => by
  obtain ⟨cs, h1, h2⟩ := h j hj
  exact ⟨cs, h1.mod m (hd j hj), h2⟩
theorem MarkS.step {ty : TypeId} {sz off Z : Nat} {lab : Nat → Nat} {vs : List Value} {ln : Nat → Nat} {A : Nat → List Value} {wr : World} {i k g o n cap : Nat} (h : MarkS ty sz vs ln A wr i k) (hl : Lab lab off Z vs) (hi : i < vs.length) (hk : k < ln i) (hA : (A i).length = sz) (hv : vs[i] = .slice (some ⟨g, o, none⟩) n cap) : MarkS ty sz vs ln A (wr.setCells g (o + k * sz) (A i)) i (k + 1) := fun j hj => by
  obtain ⟨cs, h1, h2, h3⟩ := h j hj
  by_cases e : j = i
  · subst e
    rw [hv] at h1
    have hn : n = ln j := by obtain ⟨_, _, e, _⟩ := h1.form; exact (Value.slice.inj e).2.1
    subst hn
    have h5 := h1.put hk hA
    rw [hv]
    refine ⟨_, h5, fun e => absurd e (Nat.lt_irrefl _), fun _ => ?_⟩
    have hcl := h1.1
    have hle : (k + 1) * sz ≤ ln j * sz := Nat.mul_le_mul_right sz hk
    rw [Nat.succ_mul] at hle ⊢
    have e1 : (cs.take (k * sz)).length = k * sz := by rw [List.length_take]; omega
    rw [← List.append_assoc, List.take_append_of_le_length (by rw [List.length_append, e1, hA]; omega), List.take_of_length_le (by rw [List.length_append, e1, hA]; omega), h3 rfl, repl_succ]
  · refine ⟨cs, h1.mod (mod_setCells g (A i) _ wr) (fun q hq e2 => ?_), h2, fun e3 => absurd e3 e⟩
    have g1 := hl j hj q hq
    have g2 := hl i hi g (by rw [hv]; rfl)
    rw [e2] at g1
    omega
theorem MarkS.next {ty : TypeId} {sz : Nat} {vs : List Value} {ln : Nat → Nat} {A : Nat → List Value} {wr : World} {i : Nat} (h : MarkS ty sz vs ln A wr i (ln i)) : MarkS ty sz vs ln A wr (i + 1) 0 := fun j hj => by
  obtain ⟨cs, h1, h2, h3⟩ := h j hj
  refine ⟨cs, h1, fun e => ?_, fun _ => by rw [Nat.zero_mul, List.take_zero]; rfl⟩
  by_cases e2 : j < i
  · exact h2 e2
  · obtain rfl : j = i := by omega
    have := h3 rfl
    rwa [← h1.1, List.take_length] at this
theorem MarkS.start {ty : TypeId} {sz : Nat} {vs : List Value} {ln : Nat → Nat} {A : Nat → List Value} {wr : World} (h : ∀ j (h : j < vs.length), ∃ cs, OwnR ty sz wr 0 vs[j] (ln j) cs) : MarkS ty sz vs ln A wr 0 0 := fun j hj => by
  obtain ⟨cs, h1⟩ := h j hj
  exact ⟨cs, h1, fun e => by omega, fun _ => by rw [Nat.zero_mul, List.take_zero]; rfl⟩
def MarkD (ty : TypeId) (sz : Nat) (vs : List Value) (ln : Nat → Nat) (A : Nat → List Value) (wr : World) : Prop := ∀ j (h : j < vs.length), OwnR ty sz wr 0 vs[j] (ln j) (repl (ln j) (A j))
theorem MarkS.done {ty : TypeId} {sz : Nat} {vs : List Value} {ln : Nat → Nat} {A : Nat → List Value} {wr : World} {i k : Nat} (h : MarkS ty sz vs ln A wr i k) (hi : vs.length ≤ i) : MarkD ty sz vs ln A wr := fun j hj => by
  obtain ⟨cs, h1, h2, _⟩ := h j hj
  rw [h2 (by omega)] at h1
  exact h1
theorem MarkD.mod {ty : TypeId} {sz : Nat} {vs : List Value} {ln : Nat → Nat} {A : Nat → List Value} {wr w' : World} {S : Nat → Prop} (h : MarkD ty sz vs ln A wr) (m : Mod S wr w') (hd : ∀ j (h : j < vs.length) g, vs[j].ownBlock = some g → ¬ S g) : MarkD ty sz vs ln A w' := fun j hj => (h j hj).mod m (hd j hj)
/-- what an append has done -/
def Grew (W : World) (v : Value) (n m : Nat) (v' : Value) (w' : World) : Prop := (∃ ad cap, v = .slice ad n cap ∧ v' = .slice ad (n + m) cap ∧ Mod (fun k => v.ownBlock = some k) W w') ∨ (Below W.heap.size W w' ∧ ∀ g, v'.ownBlock = some g → W.heap.size ≤ g)
/-- lists that are grown one by one into a row -/
structure GI (ty tyS : TypeId) (sz : Nat) (lab : Nat → Nat) (off Z : Nat) (vs : List Value) (ln : Nat → Nat) (A B : Nat → List Value) (wr : World) (i : Nat) (gs : List Value) (mv : Value) : Prop where
  len : gs.length = i
  row : OwnR tyS 1 wr Z mv i gs
  own : MarkD ty sz vs ln A wr
  gr : ∀ j (h : j < gs.length), OwnR ty sz wr 0 gs[j] (ln j + 70) (repl (ln j) (A j) ++ repl 70 (B j)) ∧ ∀ g, gs[j].ownBlock = some g → ((g < Z ∧ lab g = off + 1 + j) ∨ Z ≤ g) ∧ mv.ownBlock ≠ some g
  size : Z ≤ wr.heap.size
structure GK (ty tyS : TypeId) (sz : Nat) (lab : Nat → Nat) (off Z : Nat) (vs : List Value) (ln : Nat → Nat) (A B : Nat → List Value) (wZ : World) (i k : Nat) (v gv : Value) (wr : World) : Prop where
  own : MarkD ty sz vs ln A wr
  g : OwnR ty sz wr 0 gv (ln i + k) (repl (ln i) (A i) ++ repl k (B i))
  st : (∃ ad cap, v = .slice ad (ln i) cap ∧ gv = .slice ad (ln i + k) cap) ∨ (∀ g, gv.ownBlock = some g → wZ.heap.size ≤ g)
  m : Mod (fun g => g < Z ∧ lab g = off + 1 + i) wZ wr
variable {ty tyS : TypeId} {sz off Z : Nat} {lab : Nat → Nat} {vs : List Value} {ln : Nat → Nat} {A B : Nat → List Value}
theorem own_len (ad : Option Addr) (n m c d : Nat) : (Value.slice ad n c).ownBlock = (Value.slice ad m d).ownBlock := by cases ad <;> rfl
theorem GI.start {wr : World} (h : MarkD ty sz vs ln A wr) (hz : Z ≤ wr.heap.size) : GI ty tyS sz lab off Z vs ln A B wr 0 [] (.slice none 0 0) :=
  ⟨rfl, OwnR.nil _ _ _ _, h, fun j hj => by simp at hj, hz⟩
theorem GK.start {wZ : World} {i : Nat} {gs : List Value} {mv : Value} (h : GI ty tyS sz lab off Z vs ln A B wZ i gs mv) (hi : i < vs.length) : GK ty tyS sz lab off Z vs ln A B wZ i 0 vs[i] vs[i] wZ := by
  obtain ⟨ad, cap, e, _⟩ := (h.own i hi).form
  exact ⟨h.own, by rw [repl_zero, List.append_nil]; exact h.own i hi, .inl ⟨ad, cap, e, e⟩, Mod.refl _ _⟩
theorem GK.step {wZ wr wa w5 : World} {i k : Nat} {gv gv' : Value} (hi : i < vs.length) (hl : Lab lab off Z vs) (hz : Z ≤ wZ.heap.size) (h : GK ty tyS sz lab off Z vs ln A B wZ i k vs[i] gv wr) (ba : Below wr.heap.size wr wa) (ho : OwnR ty sz w5 0 gv' (ln i + k + 1) (repl (ln i) (A i) ++ repl k (B i) ++ B i)) (hg : Grew wa gv (ln i + k) 1 gv' w5) : GK ty tyS sz lab off Z vs ln A B wZ i (k + 1) vs[i] gv' w5 := by
  have hrep : repl (ln i) (A i) ++ repl k (B i) ++ B i = repl (ln i) (A i) ++ repl (k + 1) (B i) := by rw [repl_succ, List.append_assoc]
  have owna : MarkD ty sz vs ln A wa := h.own.mod (Mod.of (fun _ => False) ba) (fun _ _ _ _ h => h)
  have ma : Mod (fun g => g < Z ∧ lab g = off + 1 + i) wZ wa := h.m.then (Mod.of _ ba)
  have hzr := h.m.size
  have hza := ba.size
  rcases hg with ⟨ad, cap, e1, e2, m5⟩ | ⟨b5, hf⟩
  · -- in its place
    have key : ∀ q, gv.ownBlock = some q → (q < Z ∧ lab q = off + 1 + i ∧ (∃ ad cap, vs[i] = .slice ad (ln i) cap ∧ gv = .slice ad (ln i + k) cap)) ∨ wZ.heap.size ≤ q := fun q hq => by
      rcases h.st with ⟨ad2, cap2, e3, e4⟩ | h1
      · have := hl i hi q (by rw [e3]; rw [e4] at hq; exact (own_len ..).trans hq)
        exact .inl ⟨this.1, this.2, ad2, cap2, e3, e4⟩
      · exact .inr (h1 q hq)
    refine ⟨fun j hj => ?_, by rw [← hrep]; exact ho, ?_, ma.trans m5 (fun q hq hs => ?_)⟩
    · by_cases hs : ∃ q, gv.ownBlock = some q ∧ vs[j].ownBlock = some q
      · obtain ⟨q, hq1, hq2⟩ := hs
        have hlj := hl j hj q hq2
        rcases key q hq1 with ⟨_, k2, ad2, cap2, k3, k4⟩ | k1
        · obtain rfl : j = i := by omega
          rw [k3]
          rw [k4] at e1
          obtain ⟨e5, _, e6⟩ := Value.slice.inj e1
          subst e5 e6
          rw [e2] at ho
          rw [List.append_assoc, Nat.add_assoc] at ho
          exact ho.cut (owna j hj).1
        · omega
      · exact (owna j hj).mod m5 (fun q hq hs2 => hs ⟨q, hs2, hq⟩)
    · rcases h.st with ⟨ad2, cap2, e3, e4⟩ | h1
      · rw [e4] at e1
        obtain ⟨e5, _, e6⟩ := Value.slice.inj e1
        exact .inl ⟨ad2, cap2, e3, by rw [e2, e5, e6]; rfl⟩
      · refine .inr (fun q hq => h1 q ?_)
        rw [e1]; rw [e2] at hq; exact (own_len ..).trans hq
    · rcases key q hs with ⟨k1, k2, _⟩ | k1
      · exact ⟨k1, k2⟩
      · omega
  · exact ⟨owna.mod (Mod.of (fun _ => False) b5) (fun _ _ _ _ h => h), by rw [← hrep]; exact ho, .inr (fun q hq => by have := hf q hq; omega), ma.then (Mod.of _ b5)⟩
theorem GI.next {wZ wr wa w5 : World} {i : Nat} {gs : List Value} {gv mv mv' : Value} (hi : i < vs.length) (hl : Lab lab off Z vs) (hI : GI ty tyS sz lab off Z vs ln A B wZ i gs mv) (h : GK ty tyS sz lab off Z vs ln A B wZ i 70 vs[i] gv wr) (ba : Below wr.heap.size wr wa) (ho : OwnR tyS 1 w5 Z mv' (i + 1) (gs ++ [gv])) (hg : Grew wa mv i 1 mv' w5) : GI ty tyS sz lab off Z vs ln A B w5 (i + 1) (gs ++ [gv]) mv' ∧ Mod (fun g => g < Z ∧ lab g = off + 1 + i ∨ Z ≤ g) wZ w5 := by
  have hzZ := hI.size
  have hzr := h.m.size
  have hza := ba.size
  have owna : MarkD ty sz vs ln A wa := h.own.mod (Mod.of (fun _ => False) ba) (fun _ _ _ _ h => h)
  have ma : Mod (fun g => g < Z ∧ lab g = off + 1 + i) wZ wa := h.m.then (Mod.of _ ba)
  have ga := h.g.below ba
  have gvb : ∀ q, gv.ownBlock = some q → (q < Z ∧ lab q = off + 1 + i) ∨ wZ.heap.size ≤ q := fun q hq => by
    rcases h.st with ⟨ad2, cap2, e3, e4⟩ | h1
    · exact .inl (hl i hi q (by rw [e3]; rw [e4] at hq; exact (own_len ..).trans hq))
    · exact .inr (h1 q hq)
  have gra : ∀ j (hj : j < gs.length), OwnR ty sz wa 0 gs[j] (ln j + 70) (repl (ln j) (A j) ++ repl 70 (B j)) := fun j hj => by
    refine (hI.gr j hj).1.mod ma (fun q hq hs => ?_)
    rcases ((hI.gr j hj).2 q hq).1 with h1 | h1
    · have := hI.len; omega
    · omega
  have mvb := hI.row.lt
  -- the row's block is none of theirs
  have mvd : ∀ q, mv.ownBlock = some q → (∀ j (hj : j < vs.length), vs[j].ownBlock ≠ some q) ∧ gv.ownBlock ≠ some q ∧ ∀ j (hj : j < gs.length), gs[j].ownBlock ≠ some q := fun q hq => by
    have hb := mvb q hq
    refine ⟨fun j hj e => ?_, fun e => ?_, fun j hj e => ((hI.gr j hj).2 q e).2 hq⟩
    · have := hl j hj q e; omega
    · rcases gvb q e with h1 | h1 <;> omega
  have fin : (∀ q, mv'.ownBlock = some q → (mv.ownBlock = some q ∨ wa.heap.size ≤ q)) ∧ MarkD ty sz vs ln A w5 ∧ OwnR ty sz w5 0 gv (ln i + 70) (repl (ln i) (A i) ++ repl 70 (B i)) ∧ (∀ j (hj : j < gs.length), OwnR ty sz w5 0 gs[j] (ln j + 70) (repl (ln j) (A j) ++ repl 70 (B j))) ∧ Mod (fun g => g < Z ∧ lab g = off + 1 + i ∨ Z ≤ g) wZ w5 := by
    rcases hg with ⟨ad, cap, e1, e2, m5⟩ | ⟨b5, hf⟩
    · refine ⟨fun q hq => .inl (by rw [e1]; rw [e2] at hq; exact (own_len ..).trans hq), owna.mod m5 (fun j hj q hq hs => (mvd q hs).1 j hj hq), ga.mod m5 (fun q hq hs => (mvd q hs).2.1 hq), fun j hj => (gra j hj).mod m5 (fun q hq hs => (mvd q hs).2.2 j hj hq), ?_⟩
      refine (ma.mono (fun q _ h => Or.inl h)).trans m5 (fun q hq hs => .inr (mvb q hs).1)
    · exact ⟨fun q hq => .inr (hf q hq), owna.mod (Mod.of (fun _ => False) b5) (fun _ _ _ _ h => h), ga.below b5, fun j hj => (gra j hj).below b5, (ma.mono (fun q _ h => Or.inl h)).then (Mod.of _ b5)⟩
  obtain ⟨f1, f2, f3, f4, f5⟩ := fin
  have hlen := hI.len
  refine ⟨⟨by rw [List.length_append, hlen]; rfl, ho, f2, fun j hj => ?_, by have := f5.size; omega⟩, f5⟩
  rw [List.length_append, List.length_singleton] at hj
  by_cases e : j < gs.length
  · rw [List.getElem_append_left e]
    refine ⟨f4 j e, fun q hq => ⟨((hI.gr j e).2 q hq).1, fun hm => ?_⟩⟩
    rcases f1 q hm with h1 | h1
    · exact ((hI.gr j e).2 q hq).2 h1
    · have := ((gra j e).lt q hq).2; omega
  · obtain rfl : j = gs.length := by omega
    have e3 : (gs ++ [gv])[gs.length]'(by simp) = gv := by simp
    rw [e3, hlen]
    refine ⟨f3, fun q hq => ⟨?_, fun hm => ?_⟩⟩
    · rcases gvb q hq with h1 | h1
      · exact .inl h1
      · exact .inr (by omega)
    · rcases f1 q hm with h1 | h1
      · exact (mvd q h1).2.1 hq
      · have := (ga.lt q hq).2; omega
theorem GI.mod {wr w' : World} {i : Nat} {gs : List Value} {mv : Value} {S : Nat → Prop} (h : GI ty tyS sz lab off Z vs ln A B wr i gs mv) (hl : Lab lab off Z vs) (m : Mod S wr w') (hS : ∀ q, q < wr.heap.size → S q → q < Z ∧ ∀ j, j < vs.length → lab q ≠ off + 1 + j) (hi : i ≤ vs.length) : GI ty tyS sz lab off Z vs ln A B w' i gs mv := by
  have hz := m.size
  have hs := h.size
  refine ⟨h.len, h.row.mod m (fun q hq hs2 => ?_), h.own.mod m (fun j hj q hq hs2 => ?_), fun j hj => ⟨(h.gr j hj).1.mod m (fun q hq hs2 => ?_), (h.gr j hj).2⟩, by omega⟩
  · have := h.row.lt q hq
    have := (hS q (by omega) hs2).1
    omega
  · have h1 := hl j hj q hq
    exact (hS q (by omega) hs2).2 j hj h1.2
  · have h0 := ((h.gr j hj).1.lt q hq).2
    have h1 := hS q h0 hs2
    rcases ((h.gr j hj).2 q hq).1 with h2 | h2
    · exact h1.2 j (by have := h.len; omega) h2.2
    · omega
end Go.Proofs.Ytkngmnfgdlnddaa

