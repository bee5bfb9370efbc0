/-
 Rings in plain words: what a log tells of itself is taken.
-/
import Derived.Test.YtihbhpggpnmifaaGQ
import Derived.Test.YtihbhpggpnmifaaGG
import Derived.Deep.Slices
set_option linter.unusedSimpArgs false
set_option linter.unusedVariables false
namespace Go.Proofs.Ytihbhpggpnmifaa
open Hw
/-! ### halves -/
theorem halfFrom_pow (n : Nat) : ∀ (f k : Nat), ∃ j, halfFrom n f k = k * 2 ^ j
 | 0, k => ⟨0, by simp [halfFrom]⟩
 | f + 1, k => by
  rw [halfFrom]
  by_cases h : 2 * k < n
  ·rw [if_pos h]
   obtain ⟨j, hj⟩ := halfFrom_pow n f (2 * k)
   exact ⟨j + 1, by rw [hj, Nat.pow_succ, Nat.mul_comm 2 k, Nat.mul_assoc, Nat.mul_comm 2 (2 ^ j)]⟩
  ·rw [if_neg h]
   exact ⟨0, by simp⟩
theorem half_pow (n : Nat) : ∃ j, halfN n = 2 ^ j := by
 obtain ⟨j, hj⟩ := halfFrom_pow n n 1
 exact ⟨j, by rw [halfN, hj, Nat.one_mul]⟩
theorem pow_between {i j : Nat} (h : 2 ^ i < 2 ^ j) : i < j := (Nat.pow_lt_pow_iff_right (by decide)).1 h
theorem half_uniq {n j : Nat} (h1 : 2 ^ j < n) (h2 : n ≤ 2 * 2 ^ j) : halfN n = 2 ^ j := by
 have h0 : 0 < 2 ^ j := Nat.pow_pos (by decide)
 obtain ⟨i, hi⟩ := half_pow n
 have hs := half_spec (n := n) (by omega)
 rw [hi] at hs ⊢
 have e : ∀ k, 2 * 2 ^ k = 2 ^ (k + 1) := fun k => by rw [Nat.pow_succ, Nat.mul_comm]
 rw [e] at h2
 rw [e] at hs
 have a1 := pow_between (Nat.lt_of_lt_of_le hs.2.1 h2)
 have a2 := pow_between (Nat.lt_of_lt_of_le h1 hs.2.2)
 rw [show i = j by omega]
theorem half_same {m n : Nat} (hn : 2 ≤ n) (h1 : halfN n < m) (h2 : m ≤ n) : halfN m = halfN n := by
 obtain ⟨j, hj⟩ := half_pow n
 have hs := half_spec hn
 rw [hj] at h1 hs ⊢
 exact half_uniq h1 (by omega)
/-! ### what a log tells -/
theorem climb_own (w : Nat) (L : List Dg) : ∀ (n i a : Nat) (rest : List Dg) (ok : Bool) (hi : i < n) (han : a + n ≤ L.length) (hl : a + i < L.length),
  ∃ st, climbP w (L[a + i]) i n (trailP w L a i n ++ rest) ok = (spanD w L a n, st, rest, ok) := by
 intro n
 induction n using Nat.strongRecOn with
 | _ n ih =>
  intro i a rest ok hi han hl
  by_cases h1 : n = 1
  ·subst h1
   obtain rfl : i = 0 := by omega
   rw [trailP_one _ _ _ _ _ (Nat.le_refl _), climbP_one _ _ _ _ _ _ (Nat.le_refl _), spanD_one w L a (by omega)]
   exact ⟨[], rfl⟩
  ·have hs := half_spec (n := n) (by omega)
   by_cases hk : i < halfN n
   ·rw [trailP_left w L a i n (by omega) hk, climbP_left w _ i n _ ok (by omega) hk, List.append_assoc]
    obtain ⟨st, hst⟩ := ih (halfN n) (by omega) i a ([spanD w L (a + halfN n) (n - halfN n)] ++ rest) ok hk (by omega) hl
    rw [hst, spanD_more w L a n (by omega) han]
    exact ⟨st ++ [spanD w L a (halfN n) ++ spanD w L (a + halfN n) (n - halfN n)], by simp⟩
   ·rw [trailP_right w L a i n (by omega) hk, climbP_right w _ i n _ ok (by omega) hk, List.append_assoc]
    obtain ⟨st, hst⟩ := ih (n - halfN n) (by omega) (i - halfN n) (a + halfN n) ([spanD w L a (halfN n)] ++ rest) ok (by omega) (by omega) (by omega)
    have e : a + halfN n + (i - halfN n) = a + i := by omega
    simp only [e] at hst
    rw [hst, spanD_more w L a n (by omega) han]
    exact ⟨st ++ [spanD w L a (halfN n) ++ spanD w L (a + halfN n) (n - halfN n)], by simp⟩
theorem two_own (w : Nat) (L : List Dg) : ∀ (n m a : Nat) (rest : List Dg) (ok whole : Bool) (old : Dg), 1 ≤ m → m ≤ n → a + n ≤ L.length → (whole = true → old = spanD w L a m) →
  twoP w old m n (sinceP w L a m n whole ++ rest) ok whole = (spanD w L a m, spanD w L a n, rest, ok) := by
 intro n
 induction n using Nat.strongRecOn with
 | _ n ih =>
  intro m a rest ok whole old h0 hm han ho
  by_cases h1 : m = n
  ·subst h1
   cases whole
   ·rw [sinceP_part w L a m h0, twoP_part w old m _ ok h0]
    simp
   ·rw [sinceP_whole w L a m h0, twoP_whole w old m _ ok h0, ho rfl]
    rfl
  ·have hs := half_spec (n := n) (by omega)
   by_cases hk : m ≤ halfN n
   ·rw [sinceP_left w L a m n whole h0 (by omega) hk, twoP_left w old m n _ ok whole h0 (by omega) hk, List.append_assoc]
    rw [ih (halfN n) (by omega) m a ([spanD w L (a + halfN n) (n - halfN n)] ++ rest) ok whole old h0 hk (by omega) ho, spanD_more w L a n (by omega) han]
    simp
   ·rw [sinceP_right w L a m n whole h0 (by omega) hk, twoP_right w old m n _ ok whole h0 (by omega) hk, List.append_assoc]
    rw [ih (n - halfN n) (by omega) (m - halfN n) (a + halfN n) ([spanD w L a (halfN n)] ++ rest) ok false old (by omega) (by omega) (by omega) (fun h => by cases h)]
    have hsm := half_same (n := n) (by omega) (by omega : halfN n < m) hm
    rw [spanD_more w L a n (by omega) han, spanD_more w L a m (by omega) (by omega), hsm]
    simp
/-! ### what fits a width -/
theorem lay_idem (l : List UInt8) (n : Nat) (hl : l.length = 32) (hn : n ≤ 32) : lay32 (lay32 l n) n = lay32 l n := by
 unfold lay32
 rw [List.take_append_of_le_length (by rw [List.length_take]; omega), List.take_take, Nat.min_self]
theorem fit_lay32 (w : Nat) (l : List UInt8) (h1 : 1 ≤ w) (h2 : w ≤ 32) (hl : l.length = 32) : fitB w (lay32 l w) = true := by
 have hw : wideB (w : Int) = true := by simp [wideB]; omega
 unfold fitB cutL
 rw [hw]
 simp only [cond_true, Int.toNat_natCast]
 rw [lay_idem l w hl h2]
 exact beq_self_eq_true _
theorem fit_dig (w : Nat) (tag : ByteArray) (ss : List ByteArray) (h1 : 1 ≤ w) (h2 : w ≤ 32) (ht : badTag tag = false) : fitB w (digL w tag ss) = true := by
 have hw : wideB (w : Int) = true := by simp [wideB]; omega
 unfold digL cutL
 rw [hw, ht]
 simp only [cond_true, cond_false, Int.toNat_natCast]
 exact fit_lay32 w _ h1 h2 (sha256_length _)
def AllFit (w : Nat) (L : List Dg) : Prop := ∀ d ∈ L, fitB (w : Int) d = true
theorem fitsL_of {w : Nat} {L : List Dg} (h : AllFit w L) : fitsL w L = true := by unfold fitsL; rw [List.all_eq_true]; exact h
theorem fit_leaf (w : Nat) (s : ByteArray) (h1 : 1 ≤ w) (h2 : w ≤ 32) : fitB w (leafD w s) = true := fit_dig w _ _ h1 h2 (by decide +kernel)
theorem fit_knot (w : Nat) (a b : Dg) (h1 : 1 ≤ w) (h2 : w ≤ 32) : fitB w (knotD w a b) = true := fit_dig w _ _ h1 h2 (by decide +kernel)
theorem fit_none (w : Nat) (h1 : 1 ≤ w) (h2 : w ≤ 32) : fitB w (noneD w) = true := fit_dig w _ _ h1 h2 (by decide +kernel)
theorem fit_span (w : Nat) (L : List Dg) (a n : Nat) (h1 : 1 ≤ w) (h2 : w ≤ 32) (hL : AllFit w L) (h : a + n ≤ L.length) : fitB w (spanD w L a n) = true := by
 match n, h with
 | 0, h => rw [spanD_zero]; exact fit_none w h1 h2
 | 1, h => rw [spanD_one w L a (by omega)]; exact hL _ (List.getElem_mem _)
 | n + 2, h => rw [spanD_more w L a (n + 2) (by omega) h]; exact fit_knot w _ _ h1 h2
theorem fit_trail (w : Nat) (L : List Dg) (h1 : 1 ≤ w) (h2 : w ≤ 32) (hL : AllFit w L) : ∀ (n a i : Nat), a + n ≤ L.length → AllFit w (trailP w L a i n) := by
 intro n
 induction n using Nat.strongRecOn with
 | _ n ih =>
  intro a i h d hd
  by_cases hn : n ≤ 1
  ·rw [trailP_one w L a i n hn] at hd; simp at hd
  ·have hs := half_spec (n := n) (by omega)
   by_cases hk : i < halfN n
   ·rw [trailP_left w L a i n (by omega) hk] at hd
    rcases List.mem_append.1 hd with hd | hd
    ·exact ih (halfN n) (by omega) a i (by omega) d hd
    ·rw [List.mem_singleton.1 hd]; exact fit_span w L _ _ h1 h2 hL (by omega)
   ·rw [trailP_right w L a i n (by omega) hk] at hd
    rcases List.mem_append.1 hd with hd | hd
    ·exact ih (n - halfN n) (by omega) _ _ (by omega) d hd
    ·rw [List.mem_singleton.1 hd]; exact fit_span w L _ _ h1 h2 hL (by omega)
theorem fit_since (w : Nat) (L : List Dg) (h1 : 1 ≤ w) (h2 : w ≤ 32) (hL : AllFit w L) : ∀ (n a m : Nat) (whole : Bool), 1 ≤ m → m ≤ n → a + n ≤ L.length → AllFit w (sinceP w L a m n whole) := by
 intro n
 induction n using Nat.strongRecOn with
 | _ n ih =>
  intro a m whole h0 hm h d hd
  by_cases hn : m = n
  ·subst hn
   cases whole
   ·rw [sinceP_part w L a m h0] at hd
    rw [List.mem_singleton.1 hd]; exact fit_span w L _ _ h1 h2 hL h
   ·rw [sinceP_whole w L a m h0] at hd; simp at hd
  ·have hs := half_spec (n := n) (by omega)
   by_cases hk : m ≤ halfN n
   ·rw [sinceP_left w L a m n whole h0 (by omega) hk] at hd
    rcases List.mem_append.1 hd with hd | hd
    ·exact ih (halfN n) (by omega) a m whole h0 hk (by omega) d hd
    ·rw [List.mem_singleton.1 hd]; exact fit_span w L _ _ h1 h2 hL (by omega)
   ·rw [sinceP_right w L a m n whole h0 (by omega) hk] at hd
    rcases List.mem_append.1 hd with hd | hd
    ·exact ih (n - halfN n) (by omega) _ _ false (by omega) (by omega) (by omega) d hd
    ·rw [List.mem_singleton.1 hd]; exact fit_span w L _ _ h1 h2 hL (by omega)
theorem holds_own (w : Nat) (L : List Dg) (i n : Nat) (h1 : 1 ≤ w) (h2 : w ≤ 32) (hL : AllFit w L) (hi : i < n) (hn : n ≤ L.length) (hm : n ≤ 1048576) (hl : i < L.length) :
  holdsB w n (spanD w L 0 n) i (L[i]) (trailP w L 0 i n) = true := by
 have hw : wideB (w : Int) = true := by simp [wideB]; omega
 have f1 : fitsL w [spanD w L 0 n, L[i]] = true := fitsL_of (fun d hd => by
  rcases List.mem_cons.1 hd with rfl | hd
  ·exact fit_span w L 0 n h1 h2 hL (by omega)
  ·rw [List.mem_singleton.1 hd]; exact hL _ (List.getElem_mem _))
 have f2 : fitsL w (trailP w L 0 i n) = true := fitsL_of (fit_trail w L h1 h2 hL n 0 i (by omega))
 obtain ⟨st, hst⟩ := climb_own w L n i 0 [] true hi (by omega) (by omega)
 simp only [Nat.zero_add, List.append_nil] at hst
 unfold holdsB
 rw [hw, f1, f2, Int.toNat_natCast, hst, decide_eq_true hi, decide_eq_true hm]
 simp
theorem extends_own (w : Nat) (L : List Dg) (m n : Nat) (h1 : 1 ≤ w) (h2 : w ≤ 32) (hL : AllFit w L) (hmn : m ≤ n) (hn : n ≤ L.length) (hm : n ≤ 1048576) :
  extendsB w m (spanD w L 0 m) n (spanD w L 0 n) (sinceD w L m n) = true := by
 have hw : wideB (w : Int) = true := by simp [wideB]; omega
 have f1 : fitsL w [spanD w L 0 m, spanD w L 0 n] = true := fitsL_of (fun d hd => by
  rcases List.mem_cons.1 hd with rfl | hd
  ·exact fit_span w L 0 m h1 h2 hL (by omega)
  ·rw [List.mem_singleton.1 hd]; exact fit_span w L 0 n h1 h2 hL (by omega))
 unfold extendsB
 by_cases he : m = n
 ·subst he
  have e : sinceD w L m m = [] := by unfold sinceD; rw [if_pos (.inr rfl)]
  rw [e, hw, f1, decide_eq_true hm, decide_eq_true hmn, if_pos rfl]
  simp [fitsL]
 ·by_cases h0 : m = 0
  ·subst h0
   have e : sinceD w L 0 n = [] := by unfold sinceD; rw [if_pos (.inl rfl)]
   rw [e, hw, f1, decide_eq_true hm, decide_eq_true hmn, if_neg he, if_pos rfl, spanD_zero, Int.toNat_natCast]
   simp [fitsL]
  ·have e : sinceD w L m n = sinceP w L 0 m n true := by unfold sinceD; rw [if_neg (by omega)]
   have f2 : fitsL w (sinceP w L 0 m n true) = true := fitsL_of (fit_since w L h1 h2 hL n 0 m true (by omega) hmn (by omega))
   have ht := two_own w L n m 0 [] true true (spanD w L 0 m) (by omega) hmn (by omega) (fun _ => rfl)
   rw [List.append_nil] at ht
   rw [e, hw, f1, f2, decide_eq_true hm, decide_eq_true hmn, if_neg he, if_neg h0, Int.toNat_natCast, ht]
   simp
end Go.Proofs.Ytihbhpggpnmifaa
namespace Go.Proofs.Ytihbhpggpnmifaa
open Go.RowKit Go.Lib Hw
def sA : ByteArray := ⟨#[97]⟩
def sB : ByteArray := ⟨#[98]⟩
def sC : ByteArray := ⟨#[99]⟩
def sD : ByteArray := ⟨#[100]⟩
def L3 : List Dg := [sA, sB, sC].map (leafD 32)
def L4 : List Dg := L3 ++ [sD].map (leafD 32)
theorem L3_fit : AllFit 32 L3 := fun d hd => by
 obtain ⟨s, _, rfl⟩ := List.mem_map.1 hd
 exact fit_leaf 32 s (by decide) (by decide)
theorem L4_fit : AllFit 32 L4 := fun d hd => by
 rcases List.mem_append.1 hd with h | h
 ·exact L3_fit d h
 ·obtain ⟨s, _, rfl⟩ := List.mem_map.1 h
  exact fit_leaf 32 s (by decide) (by decide)
theorem half_3 : halfN 3 = 2 := by decide
theorem half_4 : halfN 4 = 2 := by decide
theorem half_2 : halfN 2 = 1 := by decide
theorem live_trail : (trailP 32 L3 0 2 3).length = 1 := by
 rw [trailP_right 32 L3 0 2 3 (by decide) (by rw [half_3]; decide), half_3, trailP_one _ _ _ _ _ (by decide)]; rfl
theorem live_holds : holdsB 32 3 (spanD 32 L3 0 3) 2 (leafD 32 sC) (trailP 32 L3 0 2 3) = true :=
 holds_own 32 L3 2 3 (by decide) (by decide) L3_fit (by decide) (by decide) (by decide) (by decide)
theorem live_not : holdsB 32 3 (spanD 32 L3 0 3) 1 (leafD 32 sC) (trailP 32 L3 0 2 3) = false := by
 obtain ⟨x, hx⟩ := List.length_eq_one_iff.1 live_trail
 rw [hx]
 unfold holdsB
 have h : ∀ D : Dg, (climbP (32 : Int).toNat D 1 3 [x] true).2.2.2 = false := fun D => by
  rw [climbP_left _ D 1 3 [x] true (by decide) (by rw [half_3]; decide), half_3, climbP_right _ D 1 2 [x] true (by decide) (by rw [half_2]; decide), half_2, climbP_one _ _ _ _ _ _ (by decide)]
  rfl
 rw [h]
 simp
theorem live_since : (sinceD 32 L4 3 4).length = 3 := by
 have e : sinceD 32 L4 3 4 = sinceP 32 L4 0 3 4 true := by unfold sinceD; rw [if_neg (by decide)]
 rw [e, sinceP_right 32 L4 0 3 4 true (by decide) (by decide) (by rw [half_4]; decide), half_4, List.length_append, sinceP_left 32 L4 (0 + 2) (3 - 2) (4 - 2) false (by decide) (by decide) (by decide), List.length_append, show halfN (4 - 2) = 1 from half_2, sinceP_part _ _ _ 1 (by decide)]
 rfl
theorem live_span : spanD 32 L4 0 3 = spanD 32 L3 0 3 := spanD_append 32 L3 _ 0 3 (by decide)
theorem live_ext : extendsB 32 3 (spanD 32 L3 0 3) 4 (spanD 32 L4 0 4) (sinceD 32 L4 3 4) = true := by
 have h := extends_own 32 L4 3 4 (by decide) (by decide) L4_fit (by decide) (by decide) (by decide)
 rw [live_span] at h
 exact h
theorem live_next : extendsB 32 4 (spanD 32 L4 0 4) 3 (spanD 32 L3 0 3) (sinceD 32 L4 3 4) = false := by
 unfold extendsB
 simp
set_option maxRecDepth 100000 in
theorem live_ne : (spanD 32 L4 0 4 == spanD 32 L3 0 3) = false := by decide +kernel
theorem StrRow.three (w : World) (x y z : ByteArray) (t : TypeId) (b : Nat) (hb : w.heap.size = b) : StrRow (w.alloc (.cells #[.string x, .string y, .string z] t)) (.slice (some ⟨b, 0, none⟩) 3 3) [x, y, z] := by
 subst hb
 refine ⟨some ⟨w.heap.size, 0, none⟩, 3, rfl, (fun h => by cases h), fun _ => ⟨w.heap.size, 0, rfl, fun i h => ?_⟩⟩
 rw [Nat.zero_add, heap_cell (heap_alloc_new w _)]
 match i, h with
 | 0, _ => rfl
 | 1, _ => rfl
 | 2, _ => rfl
end Go.Proofs.Ytihbhpggpnmifaa
namespace Go.Proofs.Ytihbhpggpnmifaa
open Go.RowKit Go.Lib Hw
section
variable {ops : Array Oper} {rest : List Oper} {o : Oper} {a : Act} {w : World} {Q : Exit → Act → World → Prop}
theorem wpList_loadHG (hg : Region.wanted o (yielded ops a.tmps) = true) (x : Operand) (ho : o.op = .load 31 x) (b : Nat) (hx : a.eval x = .pointer (some ⟨b, 0, none⟩)) (s : Nat) (d : Dg) (hd : d.length = 32) (hb : HB w b s d)
  (h : wpList Try.prog ops Q rest (a.put o.dst (hv s d)) w) : wpList Try.prog ops Q (o :: rest) a w :=
 wpList_step fun K hK => by
  rw [if_pos hg]
  exact wp_load_mid 31 x ho b 0 hx (hcs s d) _ (range_all (cs := hcs s d) hb) Try.underlying31 rfl (info_H.trans (congrArg some (hcs_length s hd).symm)) (hK _ _ h)
end
theorem neD (l m : List UInt8) (hl : l.length = 32) (hm : m.length = 32) : ∀ w, (binOp .neq 23 (dv l) (dv m)).run Try.prog w = .ok (.bool (!(l == m))) w := fun w => by
 show (binOp .neq _ (.agg (l.map bv).toArray) (.agg (m.map bv).toArray)).run _ _ = _
 rw [run_neq_struct]
 have h := run_equalIn_bytes w 9998 23 5 32 Try.underlying23 Try.underlying5 (fun w => size_u8 w) l m hl hm
 have e : (fun b : UInt8 => bv b) = bv := rfl
 rw [show (Op.equalIn 10000 23 (.agg (l.map bv).toArray) (.agg (m.map bv).toArray)).run Try.prog w = .ok (l == m) w from h]
 rfl
theorem get_of {L : List Dg} {i : Nat} {D : Dg} (h : L[i]? = some D) (hi : i < L.length) : L[i] = D := by rw [List.getElem?_eq_getElem hi] at h; exact Option.some.inj h
theorem kA : ∀ s ∈ [sA, sB, sC], s.size ≤ 140737488355300 := fun s hs => by
 have h : s = sA ∨ s = sB ∨ s = sC := by simpa using hs
 rcases h with rfl | rfl | rfl <;> decide
theorem kD : ∀ s ∈ [sD], s.size ≤ 140737488355300 := fun s hs => by
 rw [List.mem_singleton.1 hs]; decide
set_option maxHeartbeats 16000000 in
theorem lives_any (w : World) : Calls Try.prog 15 #[] w fun e w' => e = .returned (.bool true) ∧ Below w.heap.size w w' := by
 have hl3 : L3.length = 3 := rfl
 have hl4 : L4.length = 4 := rfl
 have hl2 : L3[2]? = some (leafD 32 sC) := rfl
 have hx3 : ([sA, sB, sC].map (leafD 32)) = L3 := rfl
 have hx4 : L3 ++ [sD].map (leafD 32) = L4 := rfl
 have hsp3 := spanD_length 32 L3 0 3
 have hsp4 := spanD_length 32 L4 0 4
 have f1 := live_holds
 have f2 := live_not
 have f3 := live_ext
 have f4 := live_next
 have f5 := live_ne
 have ft := live_trail
 have fs := live_since
 have hcl := leafD_length 32 sC
 obtain ⟨D2, hD2⟩ : ∃ x, leafD 32 sC = x := ⟨_, rfl⟩
 obtain ⟨LL3, hL3⟩ : ∃ x, L3 = x := ⟨_, rfl⟩
 obtain ⟨LL4, hL4⟩ : ∃ x, L4 = x := ⟨_, rfl⟩
 rw [hL3] at hl3 hx3 hx4 hsp3 f1 f2 f3 f4 f5 ft
 rw [hL4] at hl4 hx4 hsp4 f3 f4 f5 fs
 rw [hL3, hD2] at hl2
 rw [hD2] at f1 f2 hcl
 obtain ⟨H3, hH3⟩ : ∃ x, spanD 32 LL3 0 3 = x := ⟨_, rfl⟩
 obtain ⟨H4, hH4⟩ : ∃ x, spanD 32 LL4 0 4 = x := ⟨_, rfl⟩
 obtain ⟨T, hT⟩ : ∃ x, trailP 32 LL3 0 2 3 = x := ⟨_, rfl⟩
 obtain ⟨S, hS⟩ : ∃ x, sinceD 32 LL4 3 4 = x := ⟨_, rfl⟩
 rw [hH3] at f1 f2 f3 f4 f5 hsp3
 rw [hH4] at f3 f4 f5 hsp4
 rw [hT] at f1 f2 ft
 rw [hS] at f3 f4 fs
 have X3 := Lib.hid hx3
 have X4 := Lib.hid hx4
 have E3 := Lib.hid hH3
 have E4 := Lib.hid hH4
 have ET := Lib.hid hT
 have ES := Lib.hid hS
 have F1 := Lib.hid f1
 have F2 := Lib.hid f2
 have F3 := Lib.hid f3
 have F4 := Lib.hid f4
 have F5 := Lib.hid f5
 have FT := Lib.hid ft
 have FS := Lib.hid fs
 have HL2 := Lib.hid hl2
 have HD2 := Lib.hid hcl
 have HL3 := Lib.hid hl3
 have HL4 := Lib.hid hl4
 have HS3 := Lib.hid hsp3
 have HS4 := Lib.hid hsp4
 clear hl3 hl4 hl2 hx3 hx4 hsp3 hsp4 f1 f2 f3 f4 f5 ft fs hcl hD2 hL3 hL4 hH3 hH4 hT hS
 go_enter Try.func15, Try.ntmps15
 go_upto_region 1 with fail
 refine wp_region_list ?_
 (refine wpList_plain rfl (fun K hK => ?_)); go_simp; refine hK _ _ ?_; clear hK K; try simp only [Act.put,nA,nB,nC]
 obtain ⟨w0, hw0⟩ : ∃ W, w.alloc (.cells #[.string ⟨#[97]⟩, .string ⟨#[98]⟩, .string ⟨#[99]⟩] 9) = W := ⟨_, rfl⟩
 have R0 : StrRow w0 (.slice (some ⟨w.heap.size, 0, none⟩) 3 3) [sA, sB, sC] := by rw [← hw0]; exact StrRow.three w sA sB sC _ _ rfl
 have B0 : Hid (Below w.heap.size w w0) := by rw [← hw0]; exact (Below.refl _ _).alloc (Nat.le_refl _) _
 have z0 : w0.heap.size = w.heap.size + 1 := by rw [← hw0]; simp
 rw [hw0]
 have hR0 := Lib.hid R0
 clear hw0 R0
 refine wpList_plain rfl (fun K hK => ?_)
 go_simp
 refine (New_ok 32 _ [sA, sB, sC] w0 (by decide) (by decide) hR0 (by decide) kA (fun k hk => by obtain rfl := Option.some.inj hk; show w.heap.size < w0.heap.size; omega)).mono ?_; rintro e w1 ⟨p, b, lv, rfl, l1, b1⟩
 refine hK _ _ ?_
 clear hK K
 try simp only [Act.put,nA,nB,nC]
 rw [X3.out] at l1
 have hA3 := l1.all
 have H3l : Hid (List.length H3 = 32) := HS3.out hA3 (by rw [HL3.out]; decide)
 have T1 := Lib.hid l1
 have B1 := Lib.hid (B0.out.trans (b1.mono (by omega)))
 obtain ⟨BB, hBB⟩ : ∃ x, w0.heap.size = x := ⟨_, rfl⟩
 have hBw : w.heap.size + 1 = BB := by omega
 rw [hBB] at T1
 have hz1 := b1.size
 clear l1 b1 B0 hR0 hA3
 iterate 5
  (refine wpList_plain rfl (fun K hK => ?_)); go_simp; refine hK _ _ ?_; clear hK K; try simp only [Act.put,nA,nB,nC]
 go_upto_region 4 with fail
 refine wp_region_list ?_
 (refine wpList_plain rfl (fun K hK => ?_)); go_simp; refine hK _ _ ?_; clear hK K; try simp only [Act.put,nA,nB,nC]
 refine wpList_plain rfl (fun K hK => ?_)
 go_simp
 refine (Head_yes w1 BB p b lv 32 LL3 3 T1 (by decide) (by decide) (by rw [HL3.out]; decide)).mono ?_; rintro e w2 ⟨rfl, l2, m2⟩; rw [E3.out]
 refine hK _ _ ?_
 clear hK K
 try simp only [Act.put,nA,nB,nC]
 have T2 := Lib.hid l2
 have B2 := Lib.hid (B1.out.trans (m2.below (n := w.heap.size) (fun k hk e => by have := T1.out.hb; omega) (by omega)))
 have hz2 := m2.size
 clear T1 B1 l2 m2
 iterate 3
  (refine wpList_plain rfl (fun K hK => ?_)); go_simp; refine hK _ _ ?_; clear hK K; try simp only [Act.put,nA,nB,nC]
 obtain ⟨x, hx⟩ : ∃ x, w2.heap.size = x := ⟨_, rfl⟩
 have hpx : p < x := by have := T2.out.lt; omega
 have hbx : b < x := by have := T2.out.ltb; omega
 have HLx : Hid (∀ g, lv.ownBlock = some g → g < x) := fun g hg => by have := (T2.out.leaves.lt g hg).2; omega
 have hbB : BB ≤ b := T2.out.hb
 have hpB : BB ≤ p := T2.out.hp
 have HLB : Hid (∀ g, lv.ownBlock = some g → BB ≤ g) := fun g hg => (T2.out.leaves.lt g hg).1
 refine wpList_allocH rfl rfl x hx ?_
 intro w3 e3 b3 z3
 try simp only [Act.put,nA,nB,nC]
 refine wpList_storeH rfl _ _ rfl x rfl 0 3 zeros32 H3 rfl H3l.out e3 rfl ?_
 intro w4 e4 k4 b4 z4
 try simp only [Act.put,nA,nB,nC]
 have b24 : Below x w2 w4 := b3.trans b4
 have K4 := Lib.hid e4
 have T4 := Lib.hid (T2.out.below (by rw [hx]; exact b24))
 have B4 := Lib.hid (B2.out.trans (b24.mono (by omega)))
 rw [z3] at z4
 clear e3 b3 z3 e4 k4 b4 b24 T2 B2
 (refine wpList_plain rfl (fun K hK => ?_)); go_simp; refine hK _ _ ?_; clear hK K; try simp only [Act.put,nA,nB,nC]
 go_upto_region 5 with fail
 refine wp_region_list ?_
 (refine wpList_plain rfl (fun K hK => ?_)); go_simp; refine hK _ _ ?_; clear hK K; try simp only [Act.put,nA,nB,nC]
 refine wpList_plain rfl (fun K hK => ?_)
 go_simp
 refine (Trail_yes w4 BB p b lv 32 LL3 2 3 T4 (by decide) (by decide) (by rw [HL3.out]; decide) (by decide)).mono ?_; rintro e w5 ⟨tv, rfl, o5, a5, l5, m5⟩
 refine hK _ _ ?_
 clear hK K
 try simp only [Act.put,nA,nB,nC]
 rw [ET.out] at o5 a5
 obtain ⟨ad, cap, htv, _⟩ := o5.shape
 rw [FT.out] at htv
 subst htv
 have T5 := Lib.hid l5
 have K5 := Lib.hid (m5.heap K4.out (by omega))
 have B5 := Lib.hid (B4.out.trans (m5.below (n := w.heap.size) (fun k hk e => by omega) (by omega)))
 have O5 := Lib.hid (o5.mono (C := x) (by omega))
 have A5 := Lib.hid a5
 have z5 := m5.size
 rw [z4] at z5
 clear T4 K4 B4 o5 a5 l5 m5
 iterate 5
  (refine wpList_plain rfl (fun K hK => ?_)); go_simp; refine hK _ _ ?_; clear hK K; try simp only [Act.put,nA,nB,nC]
 go_upto_region 6 with fail
 refine wp_region_list ?_
 (refine wpList_plain rfl (fun K hK => ?_)); go_simp; refine hK _ _ ?_; clear hK K; try simp only [Act.put,nA,nB,nC]
 refine wpList_plain rfl (fun K hK => ?_)
 go_simp
 refine (LLeaf_yes w5 BB p b lv 32 LL3 2 T5 (by decide) (by rw [HL3.out]; decide)).mono ?_; rintro e w6 ⟨rfl, b6⟩; rw [get_of HL2.out]
 refine hK _ _ ?_
 clear hK K
 try simp only [Act.put,nA,nB,nC]
 have z6 := b6.size
 have T6 := Lib.hid (T5.out.below b6)
 have K6 := Lib.hid (heap_below K5.out b6 (by omega))
 have B6 := Lib.hid (B5.out.trans (b6.mono (by omega)))
 have O6 := Lib.hid (O5.out.below b6 (fun g hg => (O5.out.lt g hg).2))
 clear T5 K5 B5 O5 b6
 iterate 3
  (refine wpList_plain rfl (fun K hK => ?_)); go_simp; refine hK _ _ ?_; clear hK K; try simp only [Act.put,nA,nB,nC]
 obtain ⟨y, hy⟩ : ∃ y, w6.heap.size = y := ⟨_, rfl⟩
 have hxy : x < y := by omega
 have HOy : Hid (∀ g, (Value.slice ad 1 cap).ownBlock = some g → g < y) := fun g hg => by have := (O6.out.lt g hg).2; omega
 refine wpList_allocD rfl rfl y hy ?_
 intro w7 e7 b7 z7
 try simp only [Act.put,nA,nB,nC]
 refine wpList_storeD rfl _ _ rfl y rfl zeros32 D2 rfl HD2.out rfl e7 ?_
 intro w8 e8 b8 k8 z8
 try simp only [Act.put,nA,nB,nC]
 have b68 : Below y w6 w8 := b7.trans b8
 have Y8 := Lib.hid e8
 have T8 := Lib.hid (T6.out.below (by rw [hy]; exact b68))
 have K8 := Lib.hid (heap_below K6.out b68 (by omega))
 have B8 := Lib.hid (B6.out.trans (b68.mono (by omega)))
 have O8 := Lib.hid (O6.out.below b68 HOy.out)
 rw [z7] at z8
 clear e7 b7 z7 e8 b8 k8 b68 T6 K6 B6 O6
 (refine wpList_plain rfl (fun K hK => ?_)); go_simp; refine hK _ _ ?_; clear hK K; try simp only [Act.put,nA,nB,nC]
 go_upto_region 7 with fail
 refine wp_region_list ?_
 iterate 3
  (refine wpList_plain rfl (fun K hK => ?_)); go_simp; refine hK _ _ ?_; clear hK K; try simp only [Act.put,nA,nB,nC]
 iterate 2
  refine wpList_step (fun K hK => ?_)
  rw [if_pos (by rfl)]
  go_simp
  refine hK _ _ ?_
  clear hK K
  try simp only [Act.put,nA,nB,nC]
 iterate 2
  (refine wpList_plain rfl (fun K hK => ?_)); go_simp; refine hK _ _ ?_; clear hK K; try simp only [Act.put,nA,nB,nC]
 iterate 2
  refine wpList_step (fun K hK => ?_)
  rw [if_pos (by rfl)]
  go_simp
  refine hK _ _ ?_
  clear hK K
  try simp only [Act.put,nA,nB,nC]
 iterate 2
  (refine wpList_plain rfl (fun K hK => ?_)); go_simp; refine hK _ _ ?_; clear hK K; try simp only [Act.put,nA,nB,nC]
 iterate 3
  refine wpList_step (fun K hK => ?_)
  rw [if_pos (by rfl)]
  go_simp
  refine hK _ _ ?_
  clear hK K
  try simp only [Act.put,nA,nB,nC]
 iterate 2
  (refine wpList_plain rfl (fun K hK => ?_)); go_simp; refine hK _ _ ?_; clear hK K; try simp only [Act.put,nA,nB,nC]
 set_option maxRecDepth 20000 in
 refine wpList_loadHG rfl _ rfl x rfl 3 H3 H3l.out K8.out ?_
 try simp only [Act.put,nA,nB,nC]
 set_option maxRecDepth 20000 in
 refine wpList_loadDg rfl _ rfl y rfl D2 HD2.out Y8.out ?_
 try simp only [Act.put,nA,nB,nC]
 refine wpList_step (fun K hK => ?_)
 rw [if_pos (by rfl)]
 go_simp
 refine hK _ _ ?_
 clear hK K
 try simp only [Act.put,nA,nB,nC]
 have dr8 := Lib.hid (O8.out.drow A5.out (by rw [FT.out]; decide))
 refine wpList_step (fun K hK => ?_)
 rw [if_pos (by rfl)]
 go_simp
 refine (Holds_any 32 3 2 H3 D2 _ T w8 H3l HD2 dr8 (by decide) (by decide)).mono ?_; rintro e w9 ⟨rfl, b9⟩; rw [F1.out]
 refine hK _ _ ?_
 clear hK K
 try simp only [Act.put,nA,nB,nC]
 have z9 := b9.size
 have T9 := Lib.hid (T8.out.below b9)
 have K9 := Lib.hid (heap_below K8.out b9 (by omega))
 have Y9 := Lib.hid (heap_below Y8.out b9 (by omega))
 have B9 := Lib.hid (B8.out.trans (b9.mono (by omega)))
 have O9 := Lib.hid (O8.out.below b9 (fun g hg => (O8.out.lt g hg).2))
 clear b9 T8 K8 Y8 B8 O8 dr8
 refine wpList_step (fun K hK => ?_)
 rw [if_pos (by rfl)]
 go_simp
 refine hK _ _ ?_
 clear hK K
 try simp only [Act.put,nA,nB,nC]
 iterate 2
  (refine wpList_plain rfl (fun K hK => ?_)); go_simp; refine hK _ _ ?_; clear hK K; try simp only [Act.put,nA,nB,nC]
 set_option maxRecDepth 20000 in
 refine wpList_loadHG rfl _ rfl x rfl 3 H3 H3l.out K9.out ?_
 try simp only [Act.put,nA,nB,nC]
 set_option maxRecDepth 20000 in
 refine wpList_loadDg rfl _ rfl y rfl D2 HD2.out Y9.out ?_
 try simp only [Act.put,nA,nB,nC]
 refine wpList_step (fun K hK => ?_)
 rw [if_pos (by rfl)]
 go_simp
 refine hK _ _ ?_
 clear hK K
 try simp only [Act.put,nA,nB,nC]
 have dr9 := Lib.hid (O9.out.drow A5.out (by rw [FT.out]; decide))
 refine wpList_step (fun K hK => ?_)
 rw [if_pos (by rfl)]
 go_simp
 refine (Holds_any 32 3 1 H3 D2 _ T w9 H3l HD2 dr9 (by decide) (by decide)).mono ?_; rintro e wa ⟨rfl, ba⟩; rw [F2.out]
 refine hK _ _ ?_
 clear hK K
 try simp only [Act.put,nA,nB,nC]
 have za := ba.size
 have Ta := Lib.hid (T9.out.below ba)
 have Ka := Lib.hid (heap_below K9.out ba (by omega))
 have Ba := Lib.hid (B9.out.trans (ba.mono (by omega)))
 clear ba T9 K9 Y9 B9 O9 dr9
 iterate 2
  (refine wpList_plain rfl (fun K hK => ?_)); go_simp; refine hK _ _ ?_; clear hK K; try simp only [Act.put,nA,nB,nC]
 iterate 2
  refine wpList_step (fun K hK => ?_)
  rw [if_pos (by rfl)]
  go_simp
  refine hK _ _ ?_
  clear hK K
  try simp only [Act.put,nA,nB,nC]
 obtain ⟨u, hu⟩ : ∃ u, wa.heap.size = u := ⟨_, rfl⟩
 have hyu : y + 1 ≤ u := by omega
 rw [hu]
 obtain ⟨wb, hwb⟩ : ∃ W, wa.alloc (.cells #[.string ⟨#[100]⟩] 9) = W := ⟨_, rfl⟩
 have Rb : Hid (StrRow wb (.slice (some ⟨u, 0, none⟩) 1 1) [sD]) := by rw [← hwb]; exact StrRow.oneAt wa sD _ u hu
 have bb : Below wa.heap.size wa wb := by rw [← hwb]; exact (Below.refl _ _).alloc (Nat.le_refl _) _
 have zb : wb.heap.size = u + 1 := by rw [← hwb]; simp [hu]
 rw [hwb]
 have Tb := Lib.hid (Ta.out.below bb)
 have Kb := Lib.hid (heap_below Ka.out bb (by omega))
 have Bb := Lib.hid (Ba.out.trans (bb.mono (by omega)))
 clear bb Ta Ka Ba hwb
 refine wpList_step (fun K hK => ?_)
 rw [if_pos (by rfl)]
 go_simp
 refine (Add_yes wb BB p b lv 32 LL3 _ [sD] Tb (by decide) (by decide) Rb (by rw [HL3.out]; decide) kD (by omega) (fun k hk => by obtain rfl := Option.some.inj hk; exact ⟨by show u < _; omega, by show u ≠ p; omega, fun e => by have h : u < x := HLx.out _ e; omega⟩)).mono ?_; rintro e wc ⟨rfl, lv2, lc, mc, oc⟩
 refine hK _ _ ?_
 clear hK K
 try simp only [Act.put,nA,nB,nC]
 rw [X4.out] at lc
 have Tc := Lib.hid lc
 have H4l : Hid (List.length H4 = 32) := HS4.out lc.all (by rw [HL4.out]; decide)
 have Kc := Lib.hid (mc.heap Kb.out (fun e => by rcases e with e | e; omega; have := HLx.out _ e; omega))
 have Bc := Lib.hid (Bb.out.trans (mc.below (n := w.heap.size) (fun k hk e => by rcases e with e | e; omega; have := HLB.out _ e; omega) (by omega)))
 have zc := mc.size
 clear lc mc oc Tb Kb Bb Rb
 refine wpList_step (fun K hK => ?_)
 rw [if_pos (by rfl)]
 go_simp
 refine hK _ _ ?_
 clear hK K
 try simp only [Act.put,nA,nB,nC]
 (refine wpList_plain rfl (fun K hK => ?_)); go_simp; refine hK _ _ ?_; clear hK K; try simp only [Act.put,nA,nB,nC]
 go_upto_region 9 with fail
 refine wp_region_list ?_
 (refine wpList_plain rfl (fun K hK => ?_)); go_simp; refine hK _ _ ?_; clear hK K; try simp only [Act.put,nA,nB,nC]
 refine wpList_plain rfl (fun K hK => ?_)
 go_simp
 refine (Head_yes wc BB p b lv2 32 LL4 4 Tc (by decide) (by decide) (by rw [HL4.out]; decide)).mono ?_; rintro e wd ⟨rfl, ld, md⟩; rw [E4.out]
 refine hK _ _ ?_
 clear hK K
 try simp only [Act.put,nA,nB,nC]
 have Td := Lib.hid ld
 have Kd := Lib.hid (md.heap Kc.out (by omega))
 have Bd := Lib.hid (Bc.out.trans (md.below (n := w.heap.size) (fun k hk e => by omega) (by omega)))
 have zd := md.size
 clear ld md Tc Kc Bc
 iterate 3
  (refine wpList_plain rfl (fun K hK => ?_)); go_simp; refine hK _ _ ?_; clear hK K; try simp only [Act.put,nA,nB,nC]
 obtain ⟨q, hq⟩ : ∃ q, wd.heap.size = q := ⟨_, rfl⟩
 refine wpList_allocH rfl rfl q hq ?_
 intro we ee be ze
 try simp only [Act.put,nA,nB,nC]
 refine wpList_storeH rfl _ _ rfl q rfl 0 4 zeros32 H4 rfl H4l.out ee rfl ?_
 intro wf ef kf bf zf
 try simp only [Act.put,nA,nB,nC]
 have bdf : Below q wd wf := be.trans bf
 have Qf := Lib.hid ef
 have Tf := Lib.hid (Td.out.below (by rw [hq]; exact bdf))
 have Kf := Lib.hid (heap_below Kd.out bdf (by omega))
 have Bf := Lib.hid (Bd.out.trans (bdf.mono (by omega)))
 rw [ze] at zf
 clear ee be ze ef kf bf bdf Td Kd Bd
 (refine wpList_plain rfl (fun K hK => ?_)); go_simp; refine hK _ _ ?_; clear hK K; try simp only [Act.put,nA,nB,nC]
 go_upto_region 10 with fail
 refine wp_region_list ?_
 (refine wpList_plain rfl (fun K hK => ?_)); go_simp; refine hK _ _ ?_; clear hK K; try simp only [Act.put,nA,nB,nC]
 refine wpList_plain rfl (fun K hK => ?_)
 go_simp
 refine (Since_yes wf BB p b lv2 32 LL4 3 4 Tf (by decide) (by decide) (by rw [HL4.out]; decide) (by decide)).mono ?_; rintro e wg ⟨sv, rfl, og, ag, lg, mg⟩
 refine hK _ _ ?_
 clear hK K
 try simp only [Act.put,nA,nB,nC]
 rw [ES.out] at og ag
 obtain ⟨ad2, cap2, hsv, _⟩ := og.shape
 rw [FS.out] at hsv
 subst hsv
 have Kg := Lib.hid (mg.heap Kf.out (by omega))
 have Qg := Lib.hid (mg.heap Qf.out (by omega))
 have Bg := Lib.hid (Bf.out.trans (mg.below (n := w.heap.size) (fun k hk e => by omega) (by omega)))
 have Og := Lib.hid og
 have Ag := Lib.hid ag
 have zg := mg.size
 clear og ag lg mg Tf Kf Qf Bf
 iterate 5
  (refine wpList_plain rfl (fun K hK => ?_)); go_simp; refine hK _ _ ?_; clear hK K; try simp only [Act.put,nA,nB,nC]
 go_upto_region 11 with fail
 have hne := neD H4 H3 H4l.out H3l.out
 rw [F5.out] at hne
 refine wp_region_list ?_
 iterate 3
  (refine wpList_plain rfl (fun K hK => ?_)); go_simp; refine hK _ _ ?_; clear hK K; try simp only [Act.put,nA,nB,nC]
 iterate 2
  refine wpList_step (fun K hK => ?_)
  rw [if_pos (by rfl)]
  go_simp
  refine hK _ _ ?_
  clear hK K
  try simp only [Act.put,nA,nB,nC]
 iterate 2
  (refine wpList_plain rfl (fun K hK => ?_)); go_simp; refine hK _ _ ?_; clear hK K; try simp only [Act.put,nA,nB,nC]
 iterate 3
  refine wpList_step (fun K hK => ?_)
  rw [if_pos (by rfl)]
  go_simp
  refine hK _ _ ?_
  clear hK K
  try simp only [Act.put,nA,nB,nC]
 iterate 2
  (refine wpList_plain rfl (fun K hK => ?_)); go_simp; refine hK _ _ ?_; clear hK K; try simp only [Act.put,nA,nB,nC]
 set_option maxRecDepth 20000 in
 refine wpList_loadHG rfl _ rfl x rfl 3 H3 H3l.out Kg.out ?_
 try simp only [Act.put,nA,nB,nC]
 set_option maxRecDepth 20000 in
 refine wpList_loadHG rfl _ rfl q rfl 4 H4 H4l.out Qg.out ?_
 try simp only [Act.put,nA,nB,nC]
 refine wpList_step (fun K hK => ?_)
 rw [if_pos (by rfl)]
 go_simp
 refine hK _ _ ?_
 clear hK K
 try simp only [Act.put,nA,nB,nC]
 have drg := Lib.hid (Og.out.drow Ag.out (by rw [FS.out]; decide))
 refine wpList_step (fun K hK => ?_)
 rw [if_pos (by rfl)]
 go_simp
 refine (Extends_any 32 3 4 H3 H4 _ S wg H3l H4l drg (by decide) (by decide)).mono ?_; rintro e wh ⟨rfl, bh⟩; rw [F3.out]
 refine hK _ _ ?_
 clear hK K
 try simp only [Act.put,nA,nB,nC]
 have zh := bh.size
 have Kh := Lib.hid (heap_below Kg.out bh (by omega))
 have Qh := Lib.hid (heap_below Qg.out bh (by omega))
 have Bh := Lib.hid (Bg.out.trans (bh.mono (by omega)))
 have Oh := Lib.hid (Og.out.below bh (fun g hg => (Og.out.lt g hg).2))
 clear bh Kg Qg Bg Og drg
 iterate 2
  (refine wpList_plain rfl (fun K hK => ?_)); go_simp; refine hK _ _ ?_; clear hK K; try simp only [Act.put,nA,nB,nC]
 set_option maxRecDepth 20000 in
 refine wpList_loadHG rfl _ rfl q rfl 4 H4 H4l.out Qh.out ?_
 try simp only [Act.put,nA,nB,nC]
 set_option maxRecDepth 20000 in
 refine wpList_loadHG rfl _ rfl x rfl 3 H3 H3l.out Kh.out ?_
 try simp only [Act.put,nA,nB,nC]
 refine wpList_step (fun K hK => ?_)
 rw [if_pos (by rfl)]
 go_simp
 refine hK _ _ ?_
 clear hK K
 try simp only [Act.put,nA,nB,nC]
 have drh := Lib.hid (Oh.out.drow Ag.out (by rw [FS.out]; decide))
 refine wpList_step (fun K hK => ?_)
 rw [if_pos (by rfl)]
 go_simp
 refine (Extends_any 32 4 3 H4 H3 _ S wh H4l H3l drh (by decide) (by decide)).mono ?_; rintro e wi ⟨rfl, bi⟩; rw [F4.out]
 refine hK _ _ ?_
 clear hK K
 try simp only [Act.put,nA,nB,nC]
 have zi := bi.size
 have Ki := Lib.hid (heap_below Kh.out bi (by omega))
 have Qi := Lib.hid (heap_below Qh.out bi (by omega))
 have Bi := Lib.hid (Bh.out.trans (bi.mono (by omega)))
 have HSub3 := Lib.hid (sub_hv 3 H3 H3l.out)
 have HSub4 := Lib.hid (sub_hv 4 H4 H4l.out)
 have cq : wi.cell? ⟨q, 0, none⟩ = some (.int .u64 4) := by rw [heap_cell Qi.out]; rfl
 clear bi Kh Qh Bh Oh drh
 refine wpList_step (fun K hK => ?_)
 rw [if_pos (by rfl)]
 go_simp
 refine hK _ _ ?_
 clear hK K
 try simp only [Act.put,nA,nB,nC]
 iterate 2
  (refine wpList_plain rfl (fun K hK => ?_)); go_simp; refine hK _ _ ?_; clear hK K; try simp only [Act.put,nA,nB,nC]
 iterate 3
  refine wpList_step (fun K hK => ?_)
  rw [if_pos (by rfl)]
  go_simp
  refine hK _ _ ?_
  clear hK K
  try simp only [Act.put,nA,nB,nC]
 iterate 2
  (refine wpList_plain rfl (fun K hK => ?_)); go_simp; refine hK _ _ ?_; clear hK K; try simp only [Act.put,nA,nB,nC]
 refine wpList_step (fun K hK => ?_)
 rw [if_pos (by rfl)]
 go_simp
 refine hK _ _ ?_
 clear hK K
 try simp only [Act.put,nA,nB,nC]
 set_option maxRecDepth 20000 in
 refine wpList_loadAtG rfl _ rfl q 1 rfl H4 H4l.out _ _ Qi.out HSub4.out ?_
 try simp only [Act.put,nA,nB,nC]
 refine wpList_step (fun K hK => ?_)
 rw [if_pos (by rfl)]
 go_simp
 refine hK _ _ ?_
 clear hK K
 try simp only [Act.put,nA,nB,nC]
 set_option maxRecDepth 20000 in
 refine wpList_loadAtG rfl _ rfl x 1 rfl H3 H3l.out _ _ Ki.out HSub3.out ?_
 try simp only [Act.put,nA,nB,nC]
 refine wpList_step (fun K hK => ?_)
 rw [if_pos (by rfl)]
 go_simp
 refine hK _ _ ?_
 clear hK K
 try simp only [Act.put,nA,nB,nC]
 iterate 2
  (refine wpList_plain rfl (fun K hK => ?_)); go_simp; refine hK _ _ ?_; clear hK K; try simp only [Act.put,nA,nB,nC]
 clear cq Ki Qi HSub3 HSub4 hne
 go_wp2_with fail
 go_ret
 exact ⟨rfl, Bi.out⟩
end Go.Proofs.Ytihbhpggpnmifaa
namespace Go.Proofs.Ytihbhpggpnmifaa
open Go.RowKit Go.Lib Hw
theorem refRight_any (n : Int) (w : World) : Calls Try.prog 22 #[.int .i64 n] w fun e w' => e = .returned (.bool (wideB n)) ∧ w = w' := by
 unfold wideB
 go_enter Try.func22, Try.ntmps22
 cases h1 : decide (1 ≤ n)
 ·go_wp2
  go_ret
  exact ⟨rfl, rfl⟩
 ·cases h2 : decide (n ≤ 32)
  ·go_wp2
   go_ret
   exact ⟨rfl, rfl⟩
  ·go_wp2
   go_ret
   exact ⟨rfl, rfl⟩
def leafE (n : Int) : Int := digE n entryTag
theorem leafE_yes {n : Int} (h : wideB n = true) : leafE n = 0 := by unfold leafE digE; rw [h]; rfl
theorem leafE_no {n : Int} (h : wideB n = false) : leafE n = 2 := by unfold leafE digE; rw [h]; rfl
def leafI (n : Int) (s : ByteArray) : Dg := digL n entryTag [s]
theorem leafI_no {n : Int} (h : wideB n = false) (s : ByteArray) : leafI n s = zeros32 := by unfold leafI digL; rw [h]; rfl
theorem leafI_length (n : Int) (s : ByteArray) : (leafI n s).length = 32 := digL_length _ _ _
set_option maxHeartbeats 2000000 in
theorem refLeaf_any (n : Int) (s : ByteArray) (w : World) (hs : s.size ≤ 140737488351232) :
  Calls Try.prog 14 #[.int .i64 n, .string s] w fun e w' => e = .returned (.tuple #[dv (leafI n s), .int .i64 (leafE n)]) ∧ Below w.heap.size w w' := by
 cases hw : wideB n
 ·rw [leafI_no hw, leafE_no hw]
  have HW := Lib.hid hw
  clear hw
  go_enter Try.func14, Try.ntmps14
  go_upto_region 1 with (refine wpList_allocD rfl rfl w.heap.size rfl ?_; intro w1 hd1 hb1 hz1)
  go_wp2_with (first
   | (go_at_call 22; refine (refRight_any _ _).mono ?_; rintro e w3 ⟨rfl, rfl⟩; rw [HW.out])
   | (refine wpList_buildD rfl rfl ?_)
   | (refine wpList_storeD rfl _ _ rfl w.heap.size rfl zeros32 zeros32 rfl rfl rfl hd1 ?_; intro w3 hd3 hb3 hk3 hz3))
  refine bodyPost_ret (v := .tuple #[dv zeros32, .int .i64 2]) ?_ rfl ⟨rfl, hb1.trans hb3⟩
  exact results_DE Try.results14 rfl rfl rfl hd3
 ·have Hl := Lib.hid (leafI_length n s)
  have he := leafE_yes hw
  obtain ⟨R, hR⟩ : ∃ R, leafI n s = R := ⟨_, rfl⟩
  rw [hR] at Hl ⊢
  have HR : Hid (digL n entryTag [s] = R) := hR
  have HE : Hid (digE n entryTag = leafE n) := rfl
  have HW := Lib.hid hw
  have HLen : Hid (entryTag.size + ([s].flatMap partL).length < 140737488355000) := by
   show _ < _
   have h4 : entryTag.size = 5 := rfl
   simp only [List.flatMap_cons, List.flatMap_nil, List.append_nil, partL_length]
   omega
  clear hR hw he
  go_enter Try.func14, Try.ntmps14
  go_upto_region 1 with (refine wpList_allocD rfl rfl w.heap.size rfl ?_; intro w1 hd1 hb1 hz1)
  have D1 := Lib.hid hd1
  have B1 := Lib.hid hb1
  clear hd1 hb1
  go_upto_region 3 with (go_at_call 22; refine (refRight_any _ _).mono ?_; rintro e w3 ⟨rfl, rfl⟩; rw [HW.out])
  go_wp2_with fail
  refine (refDigest_wide n entryTag _ [s] _ (StrRow.oneAt _ s _ _ hz1) HLen.out (by simp)).mono ?_
  rintro e w5 ⟨rfl, hb5⟩
  rw [HR.out, HE.out]
  have D5 : Hid (DB w5 w.heap.size zeros32) := DB.below (DB.alloc D1.out _) hb5 (by simp; omega)
  have z5 := hb5.size
  simp only [World.size_alloc] at z5
  have B5 : Hid (Below w.heap.size w w5) := (B1.out.alloc (by omega) _).trans (hb5.mono (by simp; omega))
  clear hb5
  go_wp2_with (refine wpList_storeD rfl _ _ rfl w.heap.size rfl zeros32 R rfl Hl.out rfl D5.out ?_; intro w8 hd8 hb8 hk8 hz8)
  refine bodyPost_ret (v := .tuple #[dv R, .int .i64 (leafE n)]) ?_ rfl ⟨rfl, B5.out.trans hb8⟩
  exact results_DE Try.results14 rfl rfl Hl.out hd8
end Go.Proofs.Ytihbhpggpnmifaa
namespace Go.Proofs.Ytihbhpggpnmifaa
open Go.Deep Go.ChangeShapes Go.WideShapes Go.ChangeAt Go.RowKit Go.Joins
section
variable {H : Type} {enc : TypeId × Value → H} {W : World} {base : Nat} {sp : Nat → Bool} {b1 : Nat} {held : Bool}
theorem cells_u8R : Try.prog.cellsOf 5 = 1 := by kernel_rfl
theorem cells_Dg : Try.prog.cellsOf 23 = 32 := by kernel_rfl
theorem bytes_Dg : Try.prog.bytesOf 23 = 32 := by kernel_rfl
theorem list_bv : ∀ (cs : List Value), (∀ i, i < cs.length → ∃ b : UInt8, cs[i]? = some (bv b)) → ∃ l : List UInt8, cs = l.map bv
 | [], _ => ⟨[], rfl⟩
 | c :: cs, h => by
  obtain ⟨b, hb⟩ := h 0 (by simp)
  obtain ⟨l, hl⟩ := list_bv cs (fun i hi => by
   obtain ⟨b, hb⟩ := h (i + 1) (by simpa using hi)
   exact ⟨b, by simpa using hb⟩)
  exact ⟨b :: l, by rw [List.map_cons, ← hl]; congr 1; simpa using hb⟩
theorem trod_dg {n : Nat} {cs : List Value} {y : DataW H × List MemPlace} (h : DataW.trod enc Try.prog W base sp held n 23 cs = some y) : ∃ l : Dg, cs = l.map bv ∧ l.length = 32 := by
 obtain ⟨xs, m, _, _, hl, hx, hf⟩ := DataW.trod_array Try.underlying23 h
 rw [cells_Dg] at hl
 obtain ⟨l, hl2⟩ := list_bv cs (fun i hi => by
  have h1 := hf i (by omega)
  rw [cells_u8R, Nat.mul_one, List.drop_eq_getElem_cons hi, List.take_succ_cons, List.take_zero, List.getElem?_eq_getElem (by omega : i < xs.length)] at h1
  obtain ⟨x, e, _, wx⟩ := DataW.trod_int Try.underlying5 h1
  have hb := wf_u8_bd wx
  simp only [List.cons.injEq, and_true] at e
  refine ⟨UInt8.ofNat x.toNat, ?_⟩
  rw [List.getElem?_eq_getElem hi, e]
  unfold bv
  rw [UInt8.toNat_ofNat']
  congr 2
  omega)
 exact ⟨l, hl2, by rw [← hl, hl2, List.length_map]⟩
set_option maxRecDepth 100000 in
theorem okWide_row {v : Value} {n e : Nat} {t : TypeId} (ht : Try.prog.underlying t = some (.array n e)) (hv : Value.okWide Try.prog W .any b1 t v) : ∃ cs, v = .agg cs ∧ cs.size = Try.prog.cellsOf t := by
 simp only [Value.okWide, ht] at hv
 obtain ⟨cs, h1, h2, _⟩ := hv
 exact ⟨cs, h1, h2⟩
def NilOk (v : Value) : Prop := v.ownBlock = none → v = .slice none 0 0
theorem trod_dgs {n : Nat} {v : Value} {y : DataW H × List MemPlace} (h : DataW.trod enc Try.prog W base sp held n 32 [v] = some y) :
  ∃ l : List Dg, DRow W W.heap.size v l ∧ NilOk v ∧ ((l = [] ∧ y.1 = .nil) ∨ ∃ ds spare, y.1 = .slice ds spare ∧ ds.length = l.length) := by
 rcases open_slice Try.underlying32 h with ⟨hc, hy⟩ | ⟨a, len, cap, m, k, D, Pl, hc, _, hlc, hcm, hm, hy, hx⟩
 ·simp only [List.cons.injEq, and_true] at hc
  subst hc
  exact ⟨[], ⟨All32.nil, none, 0, rfl, Nat.le_refl _, by decide, fun h => by simp at h⟩, fun _ => rfl, .inl ⟨rfl, by rw [hy]⟩⟩
 ·simp only [List.cons.injEq, and_true] at hc
  subst hc
  have hlm : len ≤ m := by rw [hm]; split <;> omega
  have each : ∀ i, i < len → ∃ x : Dg, x.length = 32 ∧ ∀ j, j < 32 → W.cell? ((a.add (i * 32)).add j) = (x.map bv)[j]? := by
   intro i hi
   obtain ⟨cs', h1, h2⟩ := hx i (by omega)
   rw [cells_Dg] at h1
   obtain ⟨_, hlen, hcell⟩ := World.cells?_some h1
   obtain ⟨l, hl, hll⟩ := trod_dg h2
   exact ⟨l, hll, fun j hj => by rw [← hl]; exact hcell j hj⟩
  haveI : Inhabited Dg := ⟨[]⟩
  obtain ⟨f, hf⟩ := choose_lt each
  have hml : maxLen = 9223372036854775807 := rfl
  refine ⟨(List.range len).map f, ⟨?_, some a, cap, by simp, by simpa using hlc, by omega, fun hl => ?_⟩, (fun h => by cases h), .inr ⟨_, _, by rw [hy], by simp⟩⟩
  ·intro d hd
   simp at hd
   obtain ⟨i, hi, rfl⟩ := hd
   exact (hf i hi).1
  ·simp at hl
   have cell0 : ∃ v, W.cell? (a.add (0 * 32)) = some v := by
    have h1 := (hf 0 hl).2 0 (by decide)
    have e : (a.add (0 * 32)).add 0 = a.add (0 * 32) := by simp [Addr.add]
    rw [e, List.getElem?_eq_getElem (by rw [List.length_map, (hf 0 hl).1]; decide)] at h1
    exact ⟨_, h1⟩
   obtain ⟨v0, h0⟩ := cell0
   have h0' := World.cell?_spot h0
   have ha : a = ⟨a.block, a.off, none⟩ := by
    cases a with
    | mk b o s => simp [Addr.add] at h0'; simp [h0']
   have hblk : a.block < W.heap.size := by
    have := World.block_lt_of_cell? _ _ h0
    simpa [Addr.add] using this
   refine ⟨a.block, a.off, by rw [← ha], hblk, hblk, fun i hi => ?_⟩
   simp at hi
   intro j v hv
   simp only [List.getElem_map, List.getElem_range] at hv
   have hj : j < 32 := by
    rcases Nat.lt_or_ge j 32 with h | h
    ·exact h
    ·rw [List.getElem?_eq_none (by rw [List.length_map, (hf i hi).1]; omega)] at hv; cases hv
   have h1 := (hf i hi).2 j hj
   rw [hv] at h1
   rw [← h1]
   congr 1
   have hadd : a.add (i * 32) = ⟨a.block, a.off + i * 32, none⟩ := add_plain a (by rw [ha]) (i * 32)
   rw [hadd, add_plain _ rfl j]
end
end Go.Proofs.Ytihbhpggpnmifaa
