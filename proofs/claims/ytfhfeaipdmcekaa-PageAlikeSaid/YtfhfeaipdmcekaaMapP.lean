/-
  Maps of pages by their numbers.
-/
import Derived.Test.YtfhfeaipdmcekaaPageS2
import Derived.Maps.OwnOps
import Derived.Maps.OwnSet
import Derived.Maps.Views
namespace Go.Proofs.Ytfhfeaipdmcekaa
open Go.RowKit Hw Go.Maps
set_option linter.unusedVariables false

structure Pg where
  k : Int
  n : Int
  r : Int
  s : ByteArray
def PgOk (p : Pg) : Prop := (0 ≤ p.k ∧ p.k < 256) ∧ (0 ≤ p.n ∧ p.n < 4294967296) ∧ (0 ≤ p.r ∧ p.r < 18446744073709551616) ∧ p.s.size ≤ 9223372036854775807
def pgV (p : Pg) : Value := .agg #[.int .u8 p.k, .int .u32 p.n, .int .u64 p.r, .string p.s]
def zeroPg : Pg := ⟨0, 0, 0, ⟨#[]⟩⟩
def pgD (p : Pg) : DataW Unit := .agg [.lit (.int .u8 p.k), .lit (.int .u32 p.n), .lit (.int .u64 p.r), .lit (.string p.s.data.toList)]
def PgR : Value → Option (DataW Unit × List MemPlace)
  | .agg cs => match cs.toList with
    | [.int q0 k, .int q1 n, .int q2 r, .string s] => if q0 = .u8 ∧ q1 = .u32 ∧ q2 = .u64 then some (pgD ⟨k, n, r, s⟩, []) else none
    | _ => none
  | _ => none
theorem PgR_mk (p : Pg) : PgR (pgV p) = some (pgD p, []) := rfl
theorem pgD_inj {p q : Pg} (h : pgD p = pgD q) : p = q := by
  obtain ⟨k, n, r, s⟩ := p
  obtain ⟨k', n', r', s'⟩ := q
  simp only [pgD, DataW.agg.injEq, List.cons.injEq, DataW.lit.injEq, Lit.int.injEq, Lit.string.injEq, true_and, and_true] at h
  obtain ⟨rfl, rfl, rfl, h4⟩ := h
  have : s = s' := by
    apply ByteArray.ext
    exact Array.toList_inj.1 h4
  rw [this]
theorem PgR_inv {v : Value} {p : Pg} {ps : List MemPlace} (h : PgR v = some (pgD p, ps)) : v = pgV p := by
  unfold PgR at h
  split at h
  · rename_i cs
    split at h
    · rename_i q0 k q1 n q2 r s e
      split at h
      · rename_i hq
        obtain ⟨rfl, rfl, rfl⟩ := hq
        simp only [Option.some.injEq, Prod.mk.injEq] at h
        rw [← pgD_inj h.1]
        have : cs = #[.int .u8 k, .int .u32 n, .int .u64 r, .string s] := Array.toList_inj.1 e
        rw [this]; rfl
      · cases h
    · cases h
  · cases h
def pk (x : Int) : Lit := .int .u32 x
theorem pk_key (x : Int) : WideAt.IsKeyLit (pk x) := trivial
theorem pk_inj {x y : Int} (h : pk x = pk y) : x = y := by simpa [pk] using h
theorem keyed_u32 : Keyed Try.prog 25 := int_keyed Try.underlying25
theorem wf_u32 {x : Int} (h : 0 ≤ x ∧ x < 4294967296) : (Lit.int .u32 x).wf = true := by
  have h' : 0 ≤ x ∧ x ≤ 4294967295 := by omega
  simpa [Lit.wf, IntKind.min, IntKind.max, IntKind.signed, IntKind.bits] using h'
theorem key_u32 {x : Int} (h : 0 ≤ x ∧ x < 4294967296) : keyOf Try.prog 25 (.int .u32 x) = some (pk x) := keyOf_int_mk Try.underlying25 (wf_u32 h)
theorem zero_Page (w : World) : (zeroValue 28).run Try.prog w = .ok (pgV zeroPg) w := by kernel_rfl

def updP (g : Int → Option Pg) (x : Int) (p : Pg) : Int → Option Pg := fun y => if y = x then some p else g y
/-- block b is a map of at most n pages: g says which -/
def PMap (w : World) (b n : Nat) (g : Int → Option Pg) : Prop :=
  ∃ D : DataW Unit, w.ownsMap Try.prog 25 PgR b n D ∧ IsMap D ∧ ∀ x, (∀ p, g x = some p → has D (pk x) = true ∧ ∀ z, D.atKey (pk x) z = pgD p) ∧ (g x = none → has D (pk x) = false)
theorem PMap.made (w : World) : PMap (w.alloc (.map #[] 0)) w.heap.size 0 (fun _ => none) :=
  ⟨.map [], World.ownsMap_made w _ _ _, isMap_empty, fun x => ⟨fun p h => (by cases h), fun _ => rfl⟩⟩
theorem PMap.kept {w w' : World} {b n : Nat} {g : Int → Option Pg} {row : Option Nat} (h : PMap w b n g) (hg : w.grownBy w' row) (hne : some b ≠ row) : PMap w' b n g := by
  obtain ⟨D, h1, h2⟩ := h
  exact ⟨D, h1.kept hg hne, h2⟩
theorem PMap.lt {w : World} {b n : Nat} {g : Int → Option Pg} (h : PMap w b n g) : b < w.heap.size := by
  obtain ⟨D, h1, _⟩ := h
  exact h1.lt
theorem PMap.heap {w w' : World} {b n : Nat} {g : Int → Option Pg} (h : PMap w b n g) (e : w'.heap[b]? = w.heap[b]?) : PMap w' b n g := by
  obtain ⟨D, ⟨es, clock, hb, r⟩, h2⟩ := h
  exact ⟨D, ⟨es, clock, e.trans hb, r⟩, h2⟩
theorem PMap.below {w w' : World} {b n B : Nat} {g : Int → Option Pg} (h : PMap w b n g) (hb : Below B w w') (hB : b < B) : PMap w' b n g := h.heap (hb.block b hB)
theorem PMap.alloc {w : World} {b n : Nat} {g : Int → Option Pg} (h : PMap w b n g) (o : Obj) : PMap (w.alloc o) b n g := h.kept (World.grownBy_alloc w o none) (by simp)
theorem PMap.drew {w : World} {b n : Nat} {g : Int → Option Pg} (h : PMap w b n g) : PMap w.drew b n g := h
theorem PMap.put {w' : World} {b n : Nat} {g : Int → Option Pg} {D : DataW Unit} (hD : IsMap D) (hg : ∀ x, (∀ p, g x = some p → has D (pk x) = true ∧ ∀ z, D.atKey (pk x) z = pgD p) ∧ (g x = none → has D (pk x) = false)) (x : Int) (p : Pg)
    (h : w'.ownsMap Try.prog 25 PgR b n (D.put (pk x) (pgD p))) : PMap w' b n (updP g x p) := by
  refine ⟨_, h, hD.put _ _, fun y => ?_⟩
  by_cases hy : y = x
  · subst hy
    refine ⟨fun q hq => ?_, fun hq => ?_⟩
    · rw [updP, if_pos rfl] at hq
      obtain rfl := Option.some.inj hq
      exact ⟨has_put_same hD (pk_key _) _, fun z => atKey_put_same hD (pk_key _) _ z⟩
    · rw [updP, if_pos rfl] at hq
      cases hq
  · have hne : pk y ≠ pk x := fun e => hy (pk_inj e)
    refine ⟨fun q hq => ?_, fun hq => ?_⟩
    · rw [updP, if_neg hy] at hq
      obtain ⟨h1, h2⟩ := (hg y).1 q hq
      exact ⟨by rw [has_put_other hne]; exact h1, fun z => by rw [atKey_put_other hne]; exact h2 z⟩
    · rw [updP, if_neg hy] at hq
      rw [has_put_other hne]
      exact (hg y).2 hq

section
variable {ops : Array Oper} {rest : List Oper} {o : Oper} {a : Act} {Q : Exit → Act → World → Prop}
/-- v, there := m[x] -/
theorem wpList_lookP (w : World) (hgd : o.guard = none) (m x : Operand) (hop : o.op = Op.lookup 84 m x true) (b n : Nat) (g : Int → Option Pg) (hm : a.eval m = .map (some b)) (h : PMap w b n g) (y : Int) (hx : a.eval x = .int .u32 y) (hy : 0 ≤ y ∧ y < 4294967296)
    (p : Pg) (t : Bool) (hp : (g y).getD zeroPg = p) (ht : (g y).isSome = t) (hK : wpList Try.prog ops Q rest (a.put o.dst (.tuple #[pgV p, .bool t])) w) : wpList Try.prog ops Q (o :: rest) a w := by
  obtain ⟨D, h1, h2, h3⟩ := h
  refine wpList_lookup_own_ok w hgd m x _ hop _ _ keyed_u32 Try.underlying84 PgR (zero_Page w) (pgD zeroPg) [] (PgR_mk _) b n D hm h1 _ (pk y) hx (key_u32 hy) (fun v ps hv => ?_)
  obtain ⟨h4, h5⟩ := h3 y
  cases hgy : g y with
  | none =>
    rw [hgy] at hp ht
    have h6 := h5 hgy
    rw [atKey_of_not_has h6] at hv
    rw [PgR_inv hv, h6]
    obtain rfl : zeroPg = p := hp
    obtain rfl : false = t := ht
    exact hK
  | some q =>
    rw [hgy] at hp ht
    obtain ⟨h6, h7⟩ := h4 q hgy
    rw [h7] at hv
    rw [PgR_inv hv, h6]
    obtain rfl : q = p := hp
    obtain rfl : true = t := ht
    exact hK
/-- m[x] = p -/
theorem wpList_storeP (w : World) (hgd : o.guard = none) (m x v : Operand) (hop : o.op = Op.mapUpdate 84 m x v) (b n : Nat) (g : Int → Option Pg) (hm : a.eval m = .map (some b)) (h : PMap w b n g) (hn : n < 9223372036854775807) (y : Int) (hx : a.eval x = .int .u32 y) (hy : 0 ≤ y ∧ y < 4294967296)
    (p : Pg) (hv : a.eval v = pgV p) (hK : ∀ w', PMap w' b (n + 1) (updP g y p) → w.grownBy w' (some b) → wpList Try.prog ops Q rest (a.put o.dst undef) w') : wpList Try.prog ops Q (o :: rest) a w := by
  obtain ⟨D, h1, h2, h3⟩ := h
  exact wpList_mapUpdate_own w hgd m x v _ hop _ _ keyed_u32 Try.underlying84 PgR b n D hm h1 (by unfold maxLen; omega) _ _ (pk y) hx hv (key_u32 hy) (pgD p) [] (PgR_mk p) (fun w' h4 h5 => hK w' (PMap.put h2 h3 y p h4) h5)
end

/-! ### what NewShelf answers -/
def ckP (a b : Int) (p : Pg) : Int := checkI a b p.k p.n p.r p.s.size
def shelfC (a b : Int) : (Int → Option Pg) → List Pg → Option (Int → Option Pg) × Int
  | g, [] => (some g, 0)
  | g, p :: l => if ckP a b p ≠ 0 then (none, ckP a b p) else if (g p.n).isSome = true then (none, 56) else shelfC a b (updP g p.n p) l
theorem shelfC_some (a b : Int) : ∀ (l : List Pg) (g0 g : Int → Option Pg) (c : Int), shelfC a b g0 l = (some g, c) → c = 0 ∧ (∀ x q, g0 x = some q → g x = some q) ∧ (∀ p ∈ l, ckP a b p = 0 ∧ g p.n = some p ∧ g0 p.n = none) ∧ (l.map Pg.n).Nodup
  | [], g0, g, c, h => by
    simp only [shelfC, Prod.mk.injEq, Option.some.injEq] at h
    obtain ⟨rfl, rfl⟩ := h
    exact ⟨rfl, fun _ _ h => h, fun p hp => by simp at hp, by simp⟩
  | p :: l, g0, g, c, h => by
    rw [shelfC] at h
    split at h
    · cases h
    split at h
    · cases h
    rename_i h1 h2
    have hg0 : g0 p.n = none := by
      cases hg : g0 p.n
      · rfl
      · rw [hg] at h2; exact absurd rfl h2
    obtain ⟨e1, e2, e3, e4⟩ := shelfC_some a b l _ g c h
    refine ⟨e1, fun x q hx => ?_, fun q hq => ?_, ?_⟩
    · refine e2 x q ?_
      rw [updP, if_neg (fun e => by rw [e, hg0] at hx; cases hx)]
      exact hx
    · rcases List.mem_cons.1 hq with rfl | hq
      · exact ⟨Classical.not_not.1 h1, e2 _ _ (if_pos rfl), hg0⟩
      · obtain ⟨f1, f2, f3⟩ := e3 q hq
        refine ⟨f1, f2, ?_⟩
        by_cases hqp : q.n = p.n
        · rw [updP, if_pos hqp] at f3; cases f3
        · rw [updP, if_neg hqp] at f3; exact f3
    · rw [List.map_cons, List.nodup_cons]
      refine ⟨fun hm => ?_, e4⟩
      obtain ⟨q, hq, hqn⟩ := List.mem_map.1 hm
      have f3 := (e3 q hq).2.2
      rw [updP, if_pos hqn] at f3
      cases f3
theorem shelfC_none (a b : Int) : ∀ (l : List Pg) (g0 : Int → Option Pg) (c : Int), shelfC a b g0 l = (none, c) → c ≠ 0
  | [], g0, c, h => by simp [shelfC] at h
  | p :: l, g0, c, h => by
    rw [shelfC] at h
    split at h
    · rename_i h1
      simp only [Prod.mk.injEq, true_and] at h
      rw [← h]; exact h1
    split at h
    · simp only [Prod.mk.injEq, true_and] at h
      rw [← h]; decide
    · exact shelfC_none a b l _ c h
end Go.Proofs.Ytfhfeaipdmcekaa
