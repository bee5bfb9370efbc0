/-
  What lists keeps while it deals the loose numbers out.
-/
import Derived.Test.YtkngmnfgdlnddaaTakE
namespace Go.Proofs.Ytkngmnfgdlnddaa
open Go.RowKit Go.Lib Hw Go.Maps
set_option linter.unusedVariables false

def sec (bs : List (Nat × Value)) (i : Nat) : Option Value := (bs[i]?).map (·.2)
structure DL (w : World) (N LC TC T hb lb most : Nat) (tv chv : Value) (n : Nat) (xs0 ps : List Nat) (u1 lv : Value) (op pg j jd : Nat) (bs : List (Nat × Value)) (wr : World) : Prop where
  c1 : wr.heap[LC]? = some (.cells #[u1] 28 (0, 0))
  ct : wr.heap[TC]? = some (.cells #[.pointer (some ⟨T, 0, none⟩)] 126 (0, 0))
  o1 : OwnO wr N u1 (xs0.drop (j * n))
  t : TB wr T tv lv op pg hb lb most chv
  c : OwnC wr N lv bs
  m : Mod (fun k => k = T) w wr
  a : ∀ g, lv.ownBlock = some g → g ≠ LC ∧ g ≠ TC ∧ u1.ownBlock ≠ some g
  u : ∀ g, u1.ownBlock = some g → g ≠ LC ∧ g ≠ TC
  lc : N ≤ LC
  tc : N ≤ TC
  tn : T < N
  nw : w.heap.size = N
  lt : LC ≠ TC
  fst : bs.map (·.1) = ps
  d : ∀ i v, i < jd → sec bs i = some v → OwnO wr N v ((xs0.drop (i * n)).take n) ∧ ∀ g, v.ownBlock = some g → lv.ownBlock ≠ some g ∧ u1.ownBlock ≠ some g ∧ g ≠ LC ∧ g ≠ TC
  e : ∀ i k v v', i < k → k < jd → sec bs i = some v → sec bs k = some v' → ∀ g, v.ownBlock = some g → v'.ownBlock ≠ some g
theorem LI.deal {w wr : World} {N LC FC TC T hb lb most P op pg : Nat} {tv chv u1 u2 lv : Value} {s : Sets} {bs : List (Nat × Value)} (h : LI w N LC FC TC T hb lb most tv chv P u1 u2 lv s op pg bs wr) (n : Nat) : DL w N LC TC T hb lb most tv chv n (setL P s.L) (bs.map (·.1)) u1 lv op pg 0 0 bs wr :=
  ⟨h.v.c1, h.v.ct, by rw [Nat.zero_mul, List.drop_zero]; exact h.v.o1, h.t, h.c, h.m, fun g hg => ⟨(h.a g hg).1, (h.a g hg).2.2.1, (h.a g hg).2.2.2.1⟩, fun g hg => ⟨(h.v.a1 g hg).1, (h.v.a1 g hg).2.2.1⟩, h.lc, h.tc, h.tn, h.nw, h.v.lt, rfl, fun i v hi => absurd hi (Nat.not_lt_zero _), fun i k v v' h1 h2 => absurd h2 (Nat.not_lt_zero _)⟩
section
variable {w wr wr2 : World} {N LC TC T hb lb most op pg j jd n : Nat} {tv chv u1 lv : Value} {xs0 ps : List Nat} {bs : List (Nat × Value)}
theorem DL.low (h : DL w N LC TC T hb lb most tv chv n xs0 ps u1 lv op pg j jd bs wr) (b : Below wr.heap.size wr wr2) : DL w N LC TC T hb lb most tv chv n xs0 ps u1 lv op pg j jd bs wr2 := by
  have m := Mod.of (fun _ => False) b
  exact ⟨m.heap h.c1 id, m.heap h.ct id, h.o1.mod m (fun _ _ h => h), h.t.mod m id, h.c.mod m (fun _ _ h => h), h.m.then (Mod.of _ b), h.a, h.u, h.lc, h.tc, h.tn, h.nw, h.lt, h.fst, fun i v hi hv => ⟨(h.d i v hi hv).1.mod m (fun _ _ h => h), (h.d i v hi hv).2⟩, h.e⟩
theorem DL.drew (h : DL w N LC TC T hb lb most tv chv n xs0 ps u1 lv op pg j jd bs wr) : DL w N LC TC T hb lb most tv chv n xs0 ps u1 lv op pg j jd bs wr.drew := h.low ⟨rfl, rfl, rfl, Nat.le_refl _, fun _ _ => rfl⟩
theorem DL.size (h : DL w N LC TC T hb lb most tv chv n xs0 ps u1 lv op pg j jd bs wr) : N ≤ wr.heap.size := by
  have := h.m.size
  have := h.nw
  omega
theorem sec_set_same {i : Nat} {b : Nat × Value} (h : i < bs.length) : sec (bs.set i b) i = some b.2 := by
  unfold sec
  rw [List.getElem?_set_self h]
  rfl
theorem sec_set_other {i k : Nat} {b : Nat × Value} (h : i ≠ k) : sec (bs.set i b) k = sec bs k := by
  unfold sec
  rw [List.getElem?_set_ne h]
/-- a list of numbers more was dealt out -/
theorem DL.dealt {gv lcap : Nat} {v' : Value} (h : DL w N LC TC T hb lb most tv chv n xs0 ps u1 (.slice (some ⟨gv, 0, none⟩) bs.length lcap) op pg j j bs wr) (hj : j < bs.length) (hlow : ∀ g, v'.ownBlock = some g → N ≤ g)
    (ho : OwnO wr N v' ((xs0.drop (j * n)).take n)) (hnew : ∀ g, v'.ownBlock = some g → gv ≠ g ∧ u1.ownBlock ≠ some g ∧ g ≠ LC ∧ g ≠ TC ∧ ∀ i v, i < j → sec bs i = some v → v.ownBlock ≠ some g) :
    DL w N LC TC T hb lb most tv chv n xs0 ps u1 (.slice (some ⟨gv, 0, none⟩) bs.length lcap) op pg j (j + 1) (bs.set j (bs[j].1, v')) (wr.setCell ⟨gv, j * 2 + 1, none⟩ v') := by
  have m := Mod.set (S := fun k => k = gv) (o := j * 2 + 1) wr rfl v'
  have ha := h.a gv rfl
  have hgv := (h.c.lt gv rfl).1
  have htn := h.tn
  have hnw := h.nw
  have keep : ∀ (v : Value) (xs : List Nat), OwnO wr N v xs → (∀ g, v.ownBlock = some g → gv ≠ g) → OwnO (wr.setCell ⟨gv, j * 2 + 1, none⟩ v') N v xs := fun v xs o hv => o.mod m (fun g hg e => hv g hg e.symm)
  refine ⟨m.heap h.c1 (fun e => ha.1 e.symm), m.heap h.ct (fun e => ha.2.1 e.symm), keep _ _ h.o1 (fun g hg e => ha.2.2 (e ▸ hg)), h.t.mod m (by omega), h.c.set j hj v', ?_, h.a, h.u, h.lc, h.tc, h.tn, h.nw, h.lt, ?_, fun i v hi hv => ?_, fun i k v v2 hik hk hv hv2 => ?_⟩
  · exact h.m.trans m (fun i hi e => by omega)
  · rw [← h.fst]
    apply List.ext_getElem (by simp)
    intro i h1 h2
    by_cases hij : j = i
    · subst hij; simp
    · simp [List.getElem_set_ne hij]
  · by_cases hij : i = j
    · subst hij
      rw [sec_set_same hj] at hv
      have hv3 : v' = v := Option.some.inj hv
      subst hv3
      exact ⟨keep _ _ ho (fun g hg => (hnew g hg).1), fun g hg => ⟨fun e => (hnew g hg).1 (Option.some.inj e), (hnew g hg).2.1, (hnew g hg).2.2.1, (hnew g hg).2.2.2.1⟩⟩
    · rw [sec_set_other (fun e => hij e.symm)] at hv
      have hd := h.d i v (by omega) hv
      exact ⟨keep _ _ hd.1 (fun g hg e => (hd.2 g hg).1 (congrArg some e)), hd.2⟩
  · have hi : i ≠ j := by omega
    rw [sec_set_other (fun e => hi e.symm)] at hv
    by_cases hkj : k = j
    · subst hkj
      rw [sec_set_same hj] at hv2
      have hv3 : v' = v2 := Option.some.inj hv2
      subst hv3
      exact fun g hg e => (hnew g e).2.2.2.2 i v (by omega) hv hg
    · rw [sec_set_other (fun e => hkj e.symm)] at hv2
      exact h.e i k v v2 hik (by omega) hv hv2
/-- the loose numbers that are left -/
theorem DL.cut {u2 : Value} (h : DL w N LC TC T hb lb most tv chv n xs0 ps u1 lv op pg j jd bs wr) (ho : OwnO wr N u2 (xs0.drop ((j + 1) * n))) (hu : ∀ g, u2.ownBlock = some g → u1.ownBlock = some g) :
    DL w N LC TC T hb lb most tv chv n xs0 ps u2 lv op pg (j + 1) jd bs (wr.setCell ⟨LC, 0, none⟩ u2) := by
  have m := Mod.set (S := fun k => k = LC) (o := 0) wr rfl u2
  have hlc := h.lc
  have htn := h.tn
  have hnw := h.nw
  refine ⟨by rw [heap_set h.c1]; rfl, m.heap h.ct (fun e => h.lt e.symm), ho.mod m (fun g hg e => (h.u g (hu g hg)).1 e), h.t.mod m (by omega), h.c.mod m (fun g hg e => (h.a g hg).1 e), h.m.trans m (fun i hi e => by omega), fun g hg => ⟨(h.a g hg).1, (h.a g hg).2.1, fun e => (h.a g hg).2.2 (hu g e)⟩, fun g hg => h.u g (hu g hg), h.lc, h.tc, h.tn, h.nw, h.lt, h.fst, fun i v hi hv => ?_, h.e⟩
  have hd := h.d i v hi hv
  exact ⟨hd.1.mod m (fun g hg e => (hd.2 g hg).2.2.1 e), fun g hg => ⟨(hd.2 g hg).1, fun e => (hd.2 g hg).2.1 (hu g e), (hd.2 g hg).2.2⟩⟩
end
theorem dealL_len (n : Nat) : ∀ (xs ps : List Nat), (dealL n xs ps).length = ps.length
  | xs, [] => rfl
  | xs, p :: r => by rw [dealL, List.length_cons, dealL_len n _ r, List.length_cons]
theorem dealL_at (n : Nat) : ∀ (ps xs : List Nat) (i : Nat) (h : i < ps.length), (dealL n xs ps)[i]'(by rw [dealL_len]; exact h) = (ps[i], (xs.drop (i * n)).take n)
  | p :: r, xs, 0, h => by simp [dealL]
  | p :: r, xs, i + 1, h => by
    have h1 := dealL_at n r (xs.drop n) i (by simpa using h)
    simp only [dealL, List.getElem_cons_succ, h1, List.drop_drop]
    rw [show n + i * n = (i + 1) * n by rw [Nat.add_mul]; omega]
/-- a row cut at both ends -/
theorem OwnO.headR {w : World} {B n cap : Nat} {ad : Option Addr} {xs : List Nat} (h : OwnO w B (.slice ad n cap) xs) (k : Nat) (hk : k ≤ xs.length) (hA : All4 xs) : URow w (.slice ad k k) (xs.take k) := by
  rcases h with ⟨h1, h2⟩ | ⟨g, o, c2, cur, hv, h1, h2, h3, h4, h5, h6⟩
  · cases h1
    subst h2
    have hk0 : k = 0 := by simpa using hk
    subst hk0
    exact URow.nil w
  · cases hv
    have hl : (xs.take k).length = k := by rw [List.length_take]; omega
    refine ⟨hA.take k, _, k, by rw [hl], by omega, by omega, fun hp => ⟨g, o, rfl, heap_lt h2, fun i hi => ?_⟩⟩
    rw [heap_cell h2, h6 i (by omega), List.getElem_take]
end Go.Proofs.Ytkngmnfgdlnddaa
