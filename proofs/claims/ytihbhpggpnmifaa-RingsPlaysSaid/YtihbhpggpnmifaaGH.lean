/-
 Rings of digests, in plain words.
-/
import Derived.Test.YtihbhpggpnmifaaGD
import Derived.BigQuiet
import Derived.Maps.OwnOps
import Derived.Maps.OwnSet
import Derived.Maps.Views
import Derived.Maps.Range
import Derived.DeepKeys4
import Derived.Deep.AppendLies
set_option linter.unusedSimpArgs false
set_option linter.unusedVariables false
namespace Go.Proofs.Ytihbhpggpnmifaa
open Hw
abbrev Dg := List UInt8
def bsOf (l : List UInt8) : ByteArray := ⟨l.toArray⟩
def entryTag : ByteArray := ⟨#[101, 110, 116, 114, 121]⟩
def knotTag : ByteArray := ⟨#[107, 110, 111, 116]⟩
def ringsTag : ByteArray := ⟨#[114, 105, 110, 103, 115]⟩
def leafD (w : Nat) (s : ByteArray) : Dg := digL w entryTag [s]
def knotD (w : Nat) (a b : Dg) : Dg := digL w knotTag [bsOf (a.take w), bsOf (b.take w)]
def noneD (w : Nat) : Dg := digL w ringsTag []
def halfFrom (n : Nat) : Nat → Nat → Nat
 | 0, k => k
 | f + 1, k => if 2 * k < n then halfFrom n f (2 * k) else k
def halfN (n : Nat) : Nat := halfFrom n n 1
theorem halfFrom_spec (n : Nat) : ∀ (f k : Nat), 1 ≤ k → k < n → n ≤ k + f → k ≤ halfFrom n f k ∧ halfFrom n f k < n ∧ n ≤ 2 * halfFrom n f k
 | 0, k, h1, h2, h3 => by omega
 | f + 1, k, h1, h2, h3 => by
  rw [halfFrom]
  by_cases h : 2 * k < n
  ·rw [if_pos h]
   have := halfFrom_spec n f (2 * k) (by omega) h (by omega)
   omega
  ·rw [if_neg h]
   omega
theorem half_spec {n : Nat} (h : 2 ≤ n) : 1 ≤ halfN n ∧ halfN n < n ∧ n ≤ 2 * halfN n := halfFrom_spec n n 1 (by omega) (by omega) (by omega)
theorem halfFrom_done {n k : Nat} (h : ¬ 2 * k < n) : ∀ f, halfFrom n f k = k
 | 0 => rfl
 | f + 1 => by rw [halfFrom, if_neg h]
theorem halfFrom_fuel (n : Nat) : ∀ (f g k : Nat), 1 ≤ k → n ≤ k + f → n ≤ k + g → halfFrom n f k = halfFrom n g k
 | 0, g, k, h1, h2, h3 => by rw [halfFrom, halfFrom_done (by omega)]
 | f + 1, 0, k, h1, h2, h3 => by rw [halfFrom_done (by omega)]; rfl
 | f + 1, g + 1, k, h1, h2, h3 => by
  rw [halfFrom, halfFrom]
  by_cases h : 2 * k < n
  ·rw [if_pos h, if_pos h]
   exact halfFrom_fuel n f g (2 * k) (by omega) (by omega) (by omega)
  ·rw [if_neg h, if_neg h]
def ringF (w : Nat) : Nat → List Dg → Dg
 | 0, _ => []
 | f + 1, l => match l with
  | [] => noneD w
  | [x] => x
  | x :: y :: r => knotD w (ringF w f ((x :: y :: r).take (halfN (r.length + 2)))) (ringF w f ((x :: y :: r).drop (halfN (r.length + 2))))
def ringD (w : Nat) (l : List Dg) : Dg := ringF w (l.length + 1) l
theorem ringF_fuel (w : Nat) : ∀ (f g : Nat) (l : List Dg), l.length < f → l.length < g → ringF w f l = ringF w g l
 | 0, g, l, h1, h2 => by omega
 | f + 1, 0, l, h1, h2 => by omega
 | f + 1, g + 1, [], h1, h2 => rfl
 | f + 1, g + 1, [x], h1, h2 => rfl
 | f + 1, g + 1, x :: y :: r, h1, h2 => by
  have hs := half_spec (n := r.length + 2) (by omega)
  simp only [List.length_cons] at h1 h2
  rw [ringF, ringF, ringF_fuel w f g _ (by simp; omega) (by simp; omega), ringF_fuel w f g _ (by simp; omega) (by simp; omega)]
theorem ringD_nil (w : Nat) : ringD w [] = noneD w := rfl
theorem ringD_one (w : Nat) (x : Dg) : ringD w [x] = x := rfl
theorem ringD_more (w : Nat) (l : List Dg) (h : 2 ≤ l.length) : ringD w l = knotD w (ringD w (l.take (halfN l.length))) (ringD w (l.drop (halfN l.length))) := by
 match l, h with
 | x :: y :: r, _ =>
  have hs := half_spec (n := r.length + 2) (by omega)
  unfold ringD
  rw [ringF]
  have e : (x :: y :: r).length = r.length + 2 := by simp
  rw [e, ringF_fuel w (r.length + 2) ((List.take (halfN (r.length + 2)) (x :: y :: r)).length + 1) _ (by simp; omega) (by omega), ringF_fuel w (r.length + 2) ((List.drop (halfN (r.length + 2)) (x :: y :: r)).length + 1) _ (by simp; omega) (by omega)]
def spanD (w : Nat) (L : List Dg) (a n : Nat) : Dg := ringD w ((L.drop a).take n)
theorem spanD_zero (w : Nat) (L : List Dg) (a : Nat) : spanD w L a 0 = noneD w := by rw [spanD, List.take_zero]; rfl
theorem spanD_one (w : Nat) (L : List Dg) (a : Nat) (h : a < L.length) : spanD w L a 1 = L[a] := by
 rw [spanD, List.drop_eq_getElem_cons h, List.take_succ_cons, List.take_zero]; rfl
theorem spanD_more (w : Nat) (L : List Dg) (a n : Nat) (hn : 2 ≤ n) (h : a + n ≤ L.length) : spanD w L a n = knotD w (spanD w L a (halfN n)) (spanD w L (a + halfN n) (n - halfN n)) := by
 have hs := half_spec hn
 have hl : ((L.drop a).take n).length = n := by simp; omega
 unfold spanD
 rw [ringD_more w _ (by omega), hl]
 congr 2
 ·rw [List.take_take, Nat.min_eq_left (by omega)]
 ·rw [List.drop_take, List.drop_drop]
theorem spanD_append (w : Nat) (L M : List Dg) (a n : Nat) (h : a + n ≤ L.length) : spanD w (L ++ M) a n = spanD w L a n := by
 unfold spanD
 rw [List.drop_append_of_le_length (by omega), List.take_append_of_le_length (by simp; omega)]
theorem knotD_length (w : Nat) (a b : Dg) : (knotD w a b).length = 32 := digL_length _ _ _
theorem noneD_length (w : Nat) : (noneD w).length = 32 := digL_length _ _ _
theorem leafD_length (w : Nat) (s : ByteArray) : (leafD w s).length = 32 := digL_length _ _ _
theorem spanD_length (w : Nat) (L : List Dg) (a n : Nat) (hL : ∀ d ∈ L, d.length = 32) (h : a + n ≤ L.length) : (spanD w L a n).length = 32 := by
 match n with
 | 0 => rw [spanD_zero]; exact noneD_length w
 | 1 => rw [spanD_one w L a (by omega)]; exact hL _ (List.getElem_mem _)
 | n + 2 => rw [spanD_more w L a (n + 2) (by omega) h]; exact knotD_length w _ _
/-! ### climbing -/
def climbF (w : Nat) (leaf : Dg) : Nat → Nat → Nat → List Dg → Bool → Dg × List Dg × List Dg × Bool
 | 0, _, _, t, ok => (leaf, [], t, ok)
 | f + 1, i, n, t, ok =>
  if n ≤ 1 then (leaf, [], t, ok)
  else if i < halfN n then
   let r := climbF w leaf f i (halfN n) t ok
   (knotD w r.1 (r.2.2.1.headD zeros32), r.2.1 ++ [r.1 ++ r.2.2.1.headD zeros32], r.2.2.1.tail, r.2.2.2 && !r.2.2.1.isEmpty)
  else
   let r := climbF w leaf f (i - halfN n) (n - halfN n) t ok
   (knotD w (r.2.2.1.headD zeros32) r.1, r.2.1 ++ [r.2.2.1.headD zeros32 ++ r.1], r.2.2.1.tail, r.2.2.2 && !r.2.2.1.isEmpty)
def climbP (w : Nat) (leaf : Dg) (i n : Nat) (t : List Dg) (ok : Bool) : Dg × List Dg × List Dg × Bool := climbF w leaf n i n t ok
theorem climbF_fuel (w : Nat) (leaf : Dg) : ∀ (f g i n : Nat) (t : List Dg) (ok : Bool), n ≤ f → n ≤ g → climbF w leaf f i n t ok = climbF w leaf g i n t ok
 | 0, 0, i, n, t, ok, h1, h2 => rfl
 | 0, g + 1, i, n, t, ok, h1, h2 => by rw [climbF, climbF, if_pos (by omega)]
 | f + 1, 0, i, n, t, ok, h1, h2 => by rw [climbF, climbF, if_pos (by omega)]
 | f + 1, g + 1, i, n, t, ok, h1, h2 => by
  rw [climbF, climbF]
  by_cases h : n ≤ 1
  ·rw [if_pos h, if_pos h]
  ·have hs := half_spec (n := n) (by omega)
   rw [if_neg h, if_neg h, climbF_fuel w leaf f g i (halfN n) t ok (by omega) (by omega), climbF_fuel w leaf f g (i - halfN n) (n - halfN n) t ok (by omega) (by omega)]
theorem climbP_one (w : Nat) (leaf : Dg) (i n : Nat) (t : List Dg) (ok : Bool) (h : n ≤ 1) : climbP w leaf i n t ok = (leaf, [], t, ok) := by
 unfold climbP
 match n, h with
 | 0, _ => rfl
 | 1, _ => rfl
theorem climbP_left (w : Nat) (leaf : Dg) (i n : Nat) (t : List Dg) (ok : Bool) (h : 2 ≤ n) (hi : i < halfN n) :
  climbP w leaf i n t ok = (let r := climbP w leaf i (halfN n) t ok; (knotD w r.1 (r.2.2.1.headD zeros32), r.2.1 ++ [r.1 ++ r.2.2.1.headD zeros32], r.2.2.1.tail, r.2.2.2 && !r.2.2.1.isEmpty)) := by
 unfold climbP
 have hs := half_spec h
 obtain ⟨m, rfl⟩ : ∃ m, n = m + 1 := ⟨n - 1, by omega⟩
 rw [climbF, if_neg (by omega), if_pos hi, climbF_fuel w leaf m (halfN (m + 1)) i (halfN (m + 1)) t ok (by omega) (by omega)]
theorem climbP_right (w : Nat) (leaf : Dg) (i n : Nat) (t : List Dg) (ok : Bool) (h : 2 ≤ n) (hi : ¬ i < halfN n) :
  climbP w leaf i n t ok = (let r := climbP w leaf (i - halfN n) (n - halfN n) t ok; (knotD w (r.2.2.1.headD zeros32) r.1, r.2.1 ++ [r.2.2.1.headD zeros32 ++ r.1], r.2.2.1.tail, r.2.2.2 && !r.2.2.1.isEmpty)) := by
 unfold climbP
 have hs := half_spec h
 obtain ⟨m, rfl⟩ : ∃ m, n = m + 1 := ⟨n - 1, by omega⟩
 rw [climbF, if_neg (by omega), if_neg hi, climbF_fuel w leaf m (m + 1 - halfN (m + 1)) (i - halfN (m + 1)) (m + 1 - halfN (m + 1)) t ok (by omega) (by omega)]
/-! ### trails -/
def trailF (w : Nat) (L : List Dg) : Nat → Nat → Nat → Nat → List Dg
 | 0, _, _, _ => []
 | f + 1, a, i, n =>
  if n ≤ 1 then []
  else if i < halfN n then trailF w L f a i (halfN n) ++ [spanD w L (a + halfN n) (n - halfN n)]
  else trailF w L f (a + halfN n) (i - halfN n) (n - halfN n) ++ [spanD w L a (halfN n)]
def trailP (w : Nat) (L : List Dg) (a i n : Nat) : List Dg := trailF w L n a i n
theorem trailF_fuel (w : Nat) (L : List Dg) : ∀ (f g a i n : Nat), n ≤ f → n ≤ g → trailF w L f a i n = trailF w L g a i n
 | 0, 0, a, i, n, h1, h2 => rfl
 | 0, g + 1, a, i, n, h1, h2 => by rw [trailF, trailF, if_pos (by omega)]
 | f + 1, 0, a, i, n, h1, h2 => by rw [trailF, trailF, if_pos (by omega)]
 | f + 1, g + 1, a, i, n, h1, h2 => by
  rw [trailF, trailF]
  by_cases h : n ≤ 1
  ·rw [if_pos h, if_pos h]
  ·have hs := half_spec (n := n) (by omega)
   rw [if_neg h, if_neg h, trailF_fuel w L f g a i (halfN n) (by omega) (by omega), trailF_fuel w L f g (a + halfN n) (i - halfN n) (n - halfN n) (by omega) (by omega)]
theorem trailP_one (w : Nat) (L : List Dg) (a i n : Nat) (h : n ≤ 1) : trailP w L a i n = [] := by
 unfold trailP
 match n, h with
 | 0, _ => rfl
 | 1, _ => rfl
theorem trailP_left (w : Nat) (L : List Dg) (a i n : Nat) (h : 2 ≤ n) (hi : i < halfN n) : trailP w L a i n = trailP w L a i (halfN n) ++ [spanD w L (a + halfN n) (n - halfN n)] := by
 unfold trailP
 have hs := half_spec h
 obtain ⟨m, rfl⟩ : ∃ m, n = m + 1 := ⟨n - 1, by omega⟩
 rw [trailF, if_neg (by omega), if_pos hi, trailF_fuel w L m (halfN (m + 1)) a i (halfN (m + 1)) (by omega) (by omega)]
theorem trailP_right (w : Nat) (L : List Dg) (a i n : Nat) (h : 2 ≤ n) (hi : ¬ i < halfN n) : trailP w L a i n = trailP w L (a + halfN n) (i - halfN n) (n - halfN n) ++ [spanD w L a (halfN n)] := by
 unfold trailP
 have hs := half_spec h
 obtain ⟨m, rfl⟩ : ∃ m, n = m + 1 := ⟨n - 1, by omega⟩
 rw [trailF, if_neg (by omega), if_neg hi, trailF_fuel w L m (m + 1 - halfN (m + 1)) _ _ (m + 1 - halfN (m + 1)) (by omega) (by omega)]
def sinceF (w : Nat) (L : List Dg) : Nat → Nat → Nat → Nat → Bool → List Dg
 | 0, _, _, _, _ => []
 | f + 1, a, m, n, whole =>
  if m = n then (if whole then [] else [spanD w L a n])
  else if m ≤ halfN n then sinceF w L f a m (halfN n) whole ++ [spanD w L (a + halfN n) (n - halfN n)]
  else sinceF w L f (a + halfN n) (m - halfN n) (n - halfN n) false ++ [spanD w L a (halfN n)]
def sinceP (w : Nat) (L : List Dg) (a m n : Nat) (whole : Bool) : List Dg := sinceF w L n a m n whole
theorem sinceF_fuel (w : Nat) (L : List Dg) : ∀ (f g a m n : Nat) (whole : Bool), 1 ≤ m → m ≤ n → n ≤ f → n ≤ g → sinceF w L f a m n whole = sinceF w L g a m n whole
 | 0, _, a, m, n, whole, h0, h1, h2, h3 => by omega
 | f + 1, 0, a, m, n, whole, h0, h1, h2, h3 => by omega
 | f + 1, g + 1, a, m, n, whole, h0, h1, h2, h3 => by
  rw [sinceF, sinceF]
  by_cases h : m = n
  ·rw [if_pos h, if_pos h]
  ·have hs := half_spec (n := n) (by omega)
   rw [if_neg h, if_neg h]
   by_cases hm : m ≤ halfN n
   ·rw [if_pos hm, if_pos hm, sinceF_fuel w L f g a m (halfN n) whole h0 hm (by omega) (by omega)]
   ·rw [if_neg hm, if_neg hm, sinceF_fuel w L f g (a + halfN n) (m - halfN n) (n - halfN n) false (by omega) (by omega) (by omega) (by omega)]
theorem sinceP_whole (w : Nat) (L : List Dg) (a n : Nat) (h : 1 ≤ n) : sinceP w L a n n true = [] := by
 unfold sinceP
 obtain ⟨m, rfl⟩ : ∃ m, n = m + 1 := ⟨n - 1, by omega⟩
 rw [sinceF, if_pos rfl, if_pos rfl]
theorem sinceP_part (w : Nat) (L : List Dg) (a n : Nat) (h : 1 ≤ n) : sinceP w L a n n false = [spanD w L a n] := by
 unfold sinceP
 obtain ⟨m, rfl⟩ : ∃ m, n = m + 1 := ⟨n - 1, by omega⟩
 rw [sinceF, if_pos rfl, if_neg (by decide)]
theorem sinceP_left (w : Nat) (L : List Dg) (a m n : Nat) (whole : Bool) (h0 : 1 ≤ m) (h : m < n) (hm : m ≤ halfN n) : sinceP w L a m n whole = sinceP w L a m (halfN n) whole ++ [spanD w L (a + halfN n) (n - halfN n)] := by
 unfold sinceP
 have hs := half_spec (n := n) (by omega)
 obtain ⟨x, rfl⟩ : ∃ x, n = x + 1 := ⟨n - 1, by omega⟩
 rw [sinceF, if_neg (by omega), if_pos hm, sinceF_fuel w L x (halfN (x + 1)) a m (halfN (x + 1)) whole h0 hm (by omega) (by omega)]
theorem sinceP_right (w : Nat) (L : List Dg) (a m n : Nat) (whole : Bool) (h0 : 1 ≤ m) (h : m < n) (hm : ¬ m ≤ halfN n) : sinceP w L a m n whole = sinceP w L (a + halfN n) (m - halfN n) (n - halfN n) false ++ [spanD w L a (halfN n)] := by
 unfold sinceP
 have hs := half_spec (n := n) (by omega)
 obtain ⟨x, rfl⟩ : ∃ x, n = x + 1 := ⟨n - 1, by omega⟩
 rw [sinceF, if_neg (by omega), if_neg hm, sinceF_fuel w L x (x + 1 - halfN (x + 1)) _ _ (x + 1 - halfN (x + 1)) false (by omega) (by omega) (by omega) (by omega)]
/-! ### two heads -/
def twoF (w : Nat) (old : Dg) : Nat → Nat → Nat → List Dg → Bool → Bool → Dg × Dg × List Dg × Bool
 | 0, _, _, t, ok, _ => (old, old, t, ok)
 | f + 1, m, n, t, ok, whole =>
  if m = n then (if whole then (old, old, t, ok) else (t.headD zeros32, t.headD zeros32, t.tail, ok && !t.isEmpty))
  else if m ≤ halfN n then
   let r := twoF w old f m (halfN n) t ok whole
   (r.1, knotD w r.2.1 (r.2.2.1.headD zeros32), r.2.2.1.tail, r.2.2.2 && !r.2.2.1.isEmpty)
  else
   let r := twoF w old f (m - halfN n) (n - halfN n) t ok false
   (knotD w (r.2.2.1.headD zeros32) r.1, knotD w (r.2.2.1.headD zeros32) r.2.1, r.2.2.1.tail, r.2.2.2 && !r.2.2.1.isEmpty)
def twoP (w : Nat) (old : Dg) (m n : Nat) (t : List Dg) (ok whole : Bool) : Dg × Dg × List Dg × Bool := twoF w old n m n t ok whole
theorem twoF_fuel (w : Nat) (old : Dg) : ∀ (f g m n : Nat) (t : List Dg) (ok whole : Bool), 1 ≤ m → m ≤ n → n ≤ f → n ≤ g → twoF w old f m n t ok whole = twoF w old g m n t ok whole
 | 0, _, m, n, t, ok, whole, h0, h1, h2, h3 => by omega
 | f + 1, 0, m, n, t, ok, whole, h0, h1, h2, h3 => by omega
 | f + 1, g + 1, m, n, t, ok, whole, h0, h1, h2, h3 => by
  rw [twoF, twoF]
  by_cases h : m = n
  ·rw [if_pos h, if_pos h]
  ·have hs := half_spec (n := n) (by omega)
   rw [if_neg h, if_neg h]
   by_cases hm : m ≤ halfN n
   ·rw [if_pos hm, if_pos hm, twoF_fuel w old f g m (halfN n) t ok whole h0 hm (by omega) (by omega)]
   ·rw [if_neg hm, if_neg hm, twoF_fuel w old f g (m - halfN n) (n - halfN n) t ok false (by omega) (by omega) (by omega) (by omega)]
theorem twoP_whole (w : Nat) (old : Dg) (n : Nat) (t : List Dg) (ok : Bool) (h : 1 ≤ n) : twoP w old n n t ok true = (old, old, t, ok) := by
 unfold twoP
 obtain ⟨m, rfl⟩ : ∃ m, n = m + 1 := ⟨n - 1, by omega⟩
 rw [twoF, if_pos rfl, if_pos rfl]
theorem twoP_part (w : Nat) (old : Dg) (n : Nat) (t : List Dg) (ok : Bool) (h : 1 ≤ n) : twoP w old n n t ok false = (t.headD zeros32, t.headD zeros32, t.tail, ok && !t.isEmpty) := by
 unfold twoP
 obtain ⟨m, rfl⟩ : ∃ m, n = m + 1 := ⟨n - 1, by omega⟩
 rw [twoF, if_pos rfl, if_neg (by decide)]
theorem twoP_left (w : Nat) (old : Dg) (m n : Nat) (t : List Dg) (ok whole : Bool) (h0 : 1 ≤ m) (h : m < n) (hm : m ≤ halfN n) :
  twoP w old m n t ok whole = (let r := twoP w old m (halfN n) t ok whole; (r.1, knotD w r.2.1 (r.2.2.1.headD zeros32), r.2.2.1.tail, r.2.2.2 && !r.2.2.1.isEmpty)) := by
 unfold twoP
 have hs := half_spec (n := n) (by omega)
 obtain ⟨x, rfl⟩ : ∃ x, n = x + 1 := ⟨n - 1, by omega⟩
 rw [twoF, if_neg (by omega), if_pos hm, twoF_fuel w old x (halfN (x + 1)) m (halfN (x + 1)) t ok whole h0 hm (by omega) (by omega)]
theorem twoP_right (w : Nat) (old : Dg) (m n : Nat) (t : List Dg) (ok whole : Bool) (h0 : 1 ≤ m) (h : m < n) (hm : ¬ m ≤ halfN n) :
  twoP w old m n t ok whole = (let r := twoP w old (m - halfN n) (n - halfN n) t ok false; (knotD w (r.2.2.1.headD zeros32) r.1, knotD w (r.2.2.1.headD zeros32) r.2.1, r.2.2.1.tail, r.2.2.2 && !r.2.2.1.isEmpty)) := by
 unfold twoP
 have hs := half_spec (n := n) (by omega)
 obtain ⟨x, rfl⟩ : ∃ x, n = x + 1 := ⟨n - 1, by omega⟩
 rw [twoF, if_neg (by omega), if_neg hm, twoF_fuel w old x (x + 1 - halfN (x + 1)) (m - halfN (x + 1)) (x + 1 - halfN (x + 1)) t ok false (by omega) (by omega) (by omega) (by omega)]
end Go.Proofs.Ytihbhpggpnmifaa
namespace Go.Proofs.Ytihbhpggpnmifaa
open Go.RowKit Go.Lib Hw
theorem right_any (n : Int) (w : World) : Calls Try.prog 42 #[.int .i64 n] w fun e w' => e = .returned (.bool (wideB n)) ∧ w = w' := by
 unfold wideB
 go_enter Try.func42, Try.ntmps42
 cases h1 : decide (1 ≤ n)
 ·go_wp2
  go_ret
  exact ⟨rfl, rfl⟩
 ·cases h2 : decide (n ≤ 32)
  ·go_wp2
   go_ret
   exact ⟨rfl, rfl⟩
  ·go_wp2
   go_ret
   exact ⟨rfl, rfl⟩
theorem half_any (n : Nat) (w : World) (h2 : 2 ≤ n) (hn : n ≤ 1048576) : Calls Try.prog 52 #[.int .i64 (n : Int)] w fun e w' => e = .returned (.int .i64 (halfN n : Int)) ∧ w = w' := by
 obtain ⟨R, hR⟩ : ∃ R, halfN n = R := ⟨_, rfl⟩
 have HR : Hid (halfFrom n (n - 1) 1 = R) := by show _ = _; rw [← hR]; exact halfFrom_fuel n _ _ 1 (by omega) (by omega) (by omega)
 rw [hR]
 clear hR
 go_enter Try.func52, Try.ntmps52
 go_wp2_with fail
 go_loop [3] (fun i => ∃ (k : Nat), 1 ≤ k ∧ k < n ∧ Hid (halfFrom n (n - k) k = R) ∧ i = .int .i64 (k : Int)) (fun i => n - (intOf i).toNat)
 case atStart => exact ⟨1, by omega, by omega, HR, rfl⟩
 case round =>
  clear HR
  obtain ⟨k, hk1, hk2, HR, rfl⟩ := hrel
  have w1 : IntKind.i64.wrap (2 * (k : Int)) = 2 * (k : Int) := IntWalk.i64_in _ (by omega)
  have w2 : IntKind.i64.wrap ((k : Int) * 2) = ((2 * k : Nat) : Int) := by rw [IntWalk.i64_in _ (by omega)]; omega
  by_cases hlt : 2 * k < n
  ·have d1 : decide (2 * (k : Int) < (n : Int)) = true := decide_eq_true (by omega)
   have d2 : decide (2 * k < n) = true := decide_eq_true hlt
   have HR2 : Hid (halfFrom n (n - 2 * k) (2 * k) = R) := by
    show _ = _
    rw [← HR.out]
    obtain ⟨f, hf⟩ : ∃ f, n - k = f + 1 := ⟨n - k - 1, by omega⟩
    rw [hf, halfFrom, if_pos hlt]
    exact halfFrom_fuel n _ _ _ (by omega) (by omega) (by omega)
   go_wp2_with fail
   exact ⟨⟨2 * k, by omega, hlt, HR2, rfl⟩, by simp [intOf]; omega⟩
  ·have d1 : decide (2 * (k : Int) < (n : Int)) = false := decide_eq_false (by omega)
   have d2 : decide (2 * k < n) = false := decide_eq_false hlt
   have hkR : Hid (k = R) := by show _ = _; rw [← HR.out, halfFrom_done hlt]
   go_wp2_with fail
   go_ret
   exact ⟨by first | rfl | (rw [hkR.out]; rfl), rfl⟩
theorem slice_dg (b m : Nat) (hm : m ≤ 32) (w : World) : (Instr.sliceAt 23 (.pointer (some ⟨b, 0, none⟩)) none (some (.int .i64 (m : Int))) none).run Try.prog w = .ok (.slice (some ⟨b, 0, none⟩) m 32) w := by
 have hm0 : (0 : Int) ≤ m := by omega
 have hm1 : (m : Int) ≤ 32 := by omega
 go_simp
theorem conv_dg {w : World} {b : Nat} {l : List UInt8} (h : DB w b l) (hl : l.length = 32) (m : Nat) (hm : m ≤ 32) :
  (convert 121 9 (.slice (some ⟨b, 0, none⟩) m 32)).run Try.prog w = .ok (.string (bsOf (l.take m))) w := by
 have hlen : (l.take m).length = m := by rw [List.length_take]; omega
 have hcell : ∀ i, i < (l.take m).length → w.cell? ⟨b, 0 + i, none⟩ = some (.int .u8 (((l.take m).map fun b => (b.toNat : Int)).getD i 0)) := by
  intro i hi
  rw [Nat.zero_add, h.cell i (by omega)]
  rw [List.getD_eq_getElem?_getD, List.getElem?_eq_getElem (by simpa using hi), List.getElem_map, List.getElem_take]
  rfl
 have h2 := run_convert_bytes_arg (P := Try.prog) w 121 5 Try.underlying121 Try.underlying5 b 0 (l.take m).length 32 ((l.take m).map fun b => (b.toNat : Int)) (by simp) hcell 9 Try.underlying9
 rw [strOf_bytes] at h2
 rw [hlen] at h2
 exact h2
theorem knotParts_any (m : Nat) (x y : List UInt8) (w : World) (hm : m ≤ 32) (hx : x.length = 32) (hy : y.length = 32) :
  Calls Try.prog 62 #[.int .i64 (m : Int), dv x, dv y] w fun e w' => e = .returned (.tuple #[.string (bsOf (x.take m)), .string (bsOf (y.take m))]) ∧ Below w.heap.size w w' := by
 go_enter Try.func62, Try.ntmps62
 go_upto_region 1 with (first
  | (refine wpList_boxD rfl _ rfl y rfl (w.heap.size + 1) hz1 ?_; intro w2 hd2 hb2 hz2)
  | (refine wpList_boxD rfl _ rfl x rfl w.heap.size rfl ?_; intro w1 hd1 hb1 hz1))
 have D1 := Lib.hid (DB.below hd1 hb2 (by omega))
 have D2 := Lib.hid hd2
 have HB := Lib.hid (hb1.trans (hb2.mono (by omega)))
 clear hd1 hd2 hb1 hb2 hz1
 have s1 := slice_dg w.heap.size m hm
 have s2 := slice_dg (w.heap.size + 1) m hm
 have c1 := fun n => conv_dg (w := w2.drewN n) D1.out hx m hm
 have c2 := fun n => conv_dg (w := w2.drewN n) D2.out hy m hm
 go_quiet (fail)
 clear s1 s2 c1 c2
 go_wp2_with fail
 go_ret2
 exact ⟨rfl, below_drewN HB.out nq⟩
end Go.Proofs.Ytihbhpggpnmifaa
namespace Go.Proofs.Ytihbhpggpnmifaa
open Go.RowKit Go.Lib Hw
theorem parts2_len (a b : ByteArray) (ha : a.size ≤ 32) (hb : b.size ≤ 32) : ([a, b].flatMap partL).length ≤ 100 := by
 simp only [List.flatMap_cons, List.flatMap_nil, List.append_nil, List.length_append, partL_length]
 omega
theorem StrRow.oneAt (w : World) (x : ByteArray) (t : TypeId) (b : Nat) (hb : w.heap.size = b) : StrRow (w.alloc (.cells #[.string x] t)) (.slice (some ⟨b, 0, none⟩) 1 1) [x] := by
 subst hb
 exact StrRow.one w x t
theorem bsOf_size (l : List UInt8) : (bsOf l).size = l.length := by simp [bsOf, ByteArray.size]
set_option maxHeartbeats 4000000 in
theorem knot_any (m : Nat) (x y : List UInt8) (w : World) (hm : m ≤ 32) (hx : x.length = 32) (hy : y.length = 32) :
  Calls Try.prog 53 #[.int .i64 (m : Int), dv x, dv y] w fun e w' => e = .returned (dv (knotD m x y)) ∧ Below w.heap.size w w' := by
 have Hl := Lib.hid (knotD_length m x y)
 obtain ⟨R, hR⟩ : ∃ R, knotD m x y = R := ⟨_, rfl⟩
 rw [hR] at Hl ⊢
 have HR : Hid (digL m knotTag [bsOf (x.take m), bsOf (y.take m)] = R) := hR
 have hlen : knotTag.size + ([bsOf (x.take m), bsOf (y.take m)].flatMap partL).length < 140737488355328 := by
  have h1 : (bsOf (x.take m)).size ≤ 32 := by rw [bsOf_size, List.length_take]; omega
  have h2 : (bsOf (y.take m)).size ≤ 32 := by rw [bsOf_size, List.length_take]; omega
  have h3 := parts2_len _ _ h1 h2
  have h4 : knotTag.size = 4 := rfl
  omega
 obtain ⟨s1, hs1⟩ : ∃ s, bsOf (x.take m) = s := ⟨_, rfl⟩
 obtain ⟨s2, hs2⟩ : ∃ s, bsOf (y.take m) = s := ⟨_, rfl⟩
 rw [hs1, hs2] at HR hlen
 have HS1 := Lib.hid hs1
 have HS2 := Lib.hid hs2
 have HLen := Lib.hid hlen
 clear hR hs1 hs2 hlen
 go_enter Try.func53, Try.ntmps53
 go_upto_region 1 with (first
  | (refine wpList_boxD rfl _ rfl y rfl (w.heap.size + 1) hz1 ?_; intro w2 hd2 hb2 hz2)
  | (refine wpList_boxD rfl _ rfl x rfl w.heap.size rfl ?_; intro w1 hd1 hb1 hz1)
  | (refine wpList_allocD rfl rfl w2.heap.size rfl ?_; intro w3 hd3 hb3 hz3))
 have z2 : w2.heap.size = w.heap.size + 2 := by omega
 have D1 := Lib.hid ((DB.below hd1 hb2 (by omega)).below hb3 (by omega))
 have D2 := Lib.hid (hd2.below hb3 (by omega))
 have D3 := Lib.hid hd3
 have HB := Lib.hid ((hb1.trans (hb2.mono (by omega))).trans (hb3.mono (by omega)))
 have z3 : w3.heap.size = w2.heap.size + 1 := hz3
 clear hd1 hd2 hd3 hb1 hb2 hb3 hz1 hz3
 set_option maxRecDepth 20000 in
 go_upto_region 2 with (first
  | (refine wpList_loadD rfl _ rfl w.heap.size rfl x hx D1.out ?_; try simp only [Act.put,nA,nB,nC])
  | (refine wpList_loadD rfl _ rfl (w.heap.size + 1) rfl y hy D2.out ?_; try simp only [Act.put,nA,nB,nC])
  | (go_at_call 62; refine (knotParts_any m x y _ hm hx hy).mono ?_; rintro e w4 ⟨rfl, hb4⟩; rw [HS1.out, HS2.out]))
 have D34 : Hid (DB w4 (w.heap.size + 1 + 1) zeros32) := by have h := D3.out.below hb4 (by omega); rw [z2] at h; exact h
 have HB4 := Lib.hid (HB.out.trans (hb4.mono (by omega)))
 have z4 := hb4.size
 clear hb4 D1 D2 D3 HB
 go_upto_region 3 with (first
  | (go_at_call 43; refine (Digest_any (m : Int) knotTag _ [s1, s2] _ (StrRow.two _ s1 s2 _ _ rfl) HLen.out (by simp)).mono ?_; rintro e w5 ⟨rfl, hb5⟩; rw [HR.out])
  | (refine wpList_allocD rfl rfl w5.heap.size rfl ?_; intro w6 hd6 hb6 hz6)
  | (refine wpList_storeD rfl _ _ rfl w5.heap.size rfl zeros32 R rfl Hl.out rfl hd6 ?_; intro w7 hd7 hb7 hk7 hz7))
 have za : (w4.alloc (.cells #[.string s1, .string s2] 9)).heap.size = w4.heap.size + 1 := by simp
 have z5 := hb5.size
 have D6 : Hid (DB w7 (w.heap.size + 1 + 1) zeros32) := (((DB.alloc D34.out _).below hb5 (by omega)).below hb6 (by omega)).below hb7 (by omega)
 have E7 := Lib.hid hd7
 have HB7 : Hid (Below w.heap.size w w7) := (((HB4.out.alloc (by omega) _).trans (hb5.mono (by omega))).trans (hb6.mono (by omega))).trans (hb7.mono (by omega))
 clear hd6 hd7 hb5 hb6 hb7 hk7
 go_wp2_with (first
  | (refine wpList_loadD rfl _ rfl w5.heap.size rfl R Hl.out E7.out ?_; try simp only [Act.put,nA,nB,nC])
  | (refine wpList_storeD rfl _ _ rfl (w.heap.size + 1 + 1) rfl zeros32 R rfl Hl.out rfl D6.out ?_; intro w8 hd8 hb8 hk8 hz8))
 refine bodyPost_ret (v := dv R) ?_ rfl ⟨rfl, HB7.out.trans (hb8.mono (by omega))⟩
 exact results_cell1 Try.results53 rfl (DB.load hd8 Hl.out)
set_option maxHeartbeats 2000000 in
theorem none_any (m : Nat) (w : World) : Calls Try.prog 49 #[.int .i64 (m : Int)] w fun e w' => e = .returned (dv (noneD m)) ∧ Below w.heap.size w w' := by
 have Hl := Lib.hid (noneD_length m)
 obtain ⟨R, hR⟩ : ∃ R, noneD m = R := ⟨_, rfl⟩
 rw [hR] at Hl ⊢
 have HR : Hid (digL m ringsTag [] = R) := hR
 have HLen : Hid (ringsTag.size + (([] : List ByteArray).flatMap partL).length < 140737488355328) := by
  show _ < _
  have h4 : ringsTag.size = 5 := rfl
  rw [h4]
  simp
 clear hR
 go_enter Try.func49, Try.ntmps49
 go_upto_region 1 with (refine wpList_allocD rfl rfl w.heap.size rfl ?_; intro w1 hd1 hb1 hz1)
 have D1 := Lib.hid hd1
 have B1 := Lib.hid hb1
 clear hd1 hb1
 set_option maxRecDepth 20000 in
 go_upto_region 2 with (first
  | (go_at_call 43; refine (Digest_any (m : Int) ringsTag _ [] _ (StrRow.nil _) HLen.out (by simp)).mono ?_; rintro e w5 ⟨rfl, hb5⟩; rw [HR.out])
  | (refine wpList_allocD rfl rfl w5.heap.size rfl ?_; intro w6 hd6 hb6 hz6)
  | (refine wpList_storeD rfl _ _ rfl w5.heap.size rfl zeros32 R rfl Hl.out rfl hd6 ?_; intro w7 hd7 hb7 hk7 hz7))
 have z5 := hb5.size
 have D6 : Hid (DB w7 w.heap.size zeros32) := ((D1.out.below hb5 (by omega)).below hb6 (by omega)).below hb7 (by omega)
 have E7 := Lib.hid hd7
 have HB7 : Hid (Below w.heap.size w w7) := ((B1.out.trans (hb5.mono (by omega))).trans (hb6.mono (by omega))).trans (hb7.mono (by omega))
 clear hd6 hd7 hb5 hb6 hb7 hk7
 go_wp2_with (first
  | (refine wpList_loadD rfl _ rfl w5.heap.size rfl R Hl.out E7.out ?_; try simp only [Act.put,nA,nB,nC])
  | (refine wpList_storeD rfl _ _ rfl w.heap.size rfl zeros32 R rfl Hl.out rfl D6.out ?_; intro w8 hd8 hb8 hk8 hz8))
 refine bodyPost_ret (v := dv R) ?_ rfl ⟨rfl, HB7.out.trans hb8⟩
 exact results_cell1 Try.results49 rfl (DB.load hd8 Hl.out)
set_option maxHeartbeats 2000000 in
theorem Leaf_any (m : Nat) (s : ByteArray) (w : World) (hm1 : 1 ≤ m) (hm : m ≤ 32) (hs : s.size ≤ 140737488355300) :
  Calls Try.prog 13 #[.int .i64 (m : Int), .string s] w fun e w' => e = .returned (.tuple #[dv (leafD m s), .int .i64 0]) ∧ Below w.heap.size w w' := by
 have Hl := Lib.hid (leafD_length m s)
 have hw : wideB (m : Int) = true := by simp [wideB]; omega
 have HW := Lib.hid hw
 obtain ⟨R, hR⟩ : ∃ R, leafD m s = R := ⟨_, rfl⟩
 rw [hR] at Hl ⊢
 have HR : Hid (digL m entryTag [s] = R) := hR
 have HE : Hid (digE m entryTag = 0) := by show digE _ _ = _; unfold digE; rw [hw]; rfl
 have HLen : Hid (entryTag.size + ([s].flatMap partL).length < 140737488355328) := by
  show _ < _
  have h4 : entryTag.size = 5 := rfl
  simp only [List.flatMap_cons, List.flatMap_nil, List.append_nil, partL_length]
  omega
 clear hR hw
 go_enter Try.func13, Try.ntmps13
 go_upto_region 1 with (refine wpList_allocD rfl rfl w.heap.size rfl ?_; intro w1 hd1 hb1 hz1)
 have D1 := Lib.hid hd1
 have B1 := Lib.hid hb1
 clear hd1 hb1
 go_upto_region 3 with (go_at_call 42; refine (right_any _ _).mono ?_; rintro e w3 ⟨rfl, rfl⟩; rw [HW.out])
 go_wp2_with fail
 refine (Digest_any (m : Int) entryTag _ [s] _ (StrRow.oneAt _ s _ _ hz1) HLen.out (by simp)).mono ?_
 rintro e w5 ⟨rfl, hb5⟩
 rw [HR.out, HE.out]
 have D5 : Hid (DB w5 w.heap.size zeros32) := DB.below (DB.alloc D1.out _) hb5 (by simp; omega)
 have z5 := hb5.size
 simp only [World.size_alloc] at z5
 have B5 : Hid (Below w.heap.size w w5) := (B1.out.alloc (by omega) _).trans (hb5.mono (by simp; omega))
 clear hb5
 go_wp2_with (refine wpList_storeD rfl _ _ rfl w.heap.size rfl zeros32 R rfl Hl.out rfl D5.out ?_; intro w8 hd8 hb8 hk8 hz8)
 refine bodyPost_ret (v := .tuple #[dv R, .int .i64 0]) ?_ rfl ⟨rfl, B5.out.trans hb8⟩
 exact results_DE Try.results13 rfl rfl Hl.out hd8
end Go.Proofs.Ytihbhpggpnmifaa
namespace Go.Proofs.Ytihbhpggpnmifaa
open Go.RowKit Hw Go.Maps
theorem bv_inj {a b : UInt8} (h : bv a = bv b) : a = b := by
 have h2 : (a.toNat : Int) = (b.toNat : Int) := by simpa [bv] using h
 exact UInt8.toNat_inj.1 (by omega)
theorem map_bv_inj : ∀ {l m : List UInt8}, l.map bv = m.map bv → l = m
 | [], [], _ => rfl
 | [], _ :: _, h => by cases h
 | _ :: _, [], h => by cases h
 | a :: l, b :: m, h => by
  simp only [List.map_cons, List.cons.injEq] at h
  rw [bv_inj h.1, map_bv_inj h.2]
theorem dv_inj {l m : List UInt8} (h : dv l = dv m) : l = m := by
 unfold dv at h
 simp only [Value.agg.injEq] at h
 exact map_bv_inj (by simpa using h)
def dgD (l : List UInt8) : DataW Unit := .lit (.string l)
theorem dgD_inj {l m : List UInt8} (h : dgD l = dgD m) : l = m := by simpa [dgD] using h
open Classical in
noncomputable def DgR (v : Value) : Option (DataW Unit × List MemPlace) := if h : ∃ l : List UInt8, v = dv l then some (dgD h.choose, []) else none
theorem DgR_mk (l : List UInt8) : DgR (dv l) = some (dgD l, []) := by
 have h : ∃ m : List UInt8, dv l = dv m := ⟨l, rfl⟩
 unfold DgR
 rw [dif_pos h]
 have := h.choose_spec
 rw [← dv_inj this]
theorem DgR_inv {v : Value} {l : List UInt8} {ps : List MemPlace} (h : DgR v = some (dgD l, ps)) : v = dv l := by
 unfold DgR at h
 split at h
 ·rename_i hx
  simp only [Option.some.injEq, Prod.mk.injEq] at h
  rw [hx.choose_spec, dgD_inj h.1]
 ·cases h
def kp (a n : Nat) : Value := .agg #[.int .i64 (a : Int), .int .i64 (n : Int)]
theorem laidOut_ : laidOutB Try.prog = true := by kernel_rfl
theorem keyed_pair : Keyed Try.prog 62 := Keyed.of_law (deep_law_laid laidOut_ (m := 2) (by omega) (of_decide_eq_true (by kernel_rfl)) (by kernel_rfl) (by rw [Try.underlying62]))
theorem kt_pair : Try.prog.keyType 62 = true := by kernel_rfl
theorem key_pair (a n : Nat) (ha : a ≤ 9223372036854775807) (hn : n ≤ 9223372036854775807) : ∃ k, keyOf Try.prog 62 (kp a n) = some k := by
 have w1 : (Lit.int .i64 (a : Int)).wf = true := by
  simp [Lit.wf, IntKind.min, IntKind.max, IntKind.signed, IntKind.bits]
  omega
 have w2 : (Lit.int .i64 (n : Int)).wf = true := by
  simp [Lit.wf, IntKind.min, IntKind.max, IntKind.signed, IntKind.bits]
  omega
 have hc2 : Try.prog.cellsOf 62 = 2 := by kernel_rfl
 have hc1 : Try.prog.cellsOf 3 = 1 := by kernel_rfl
 unfold keyOf
 rw [Try.underlying62]
 have hf : (kp a n).formed Try.prog 62 = true := by
  simp [kp, Value.formed, Try.underlying62, hc2]
 rw [kt_pair, hf]
 have e : ∀ (d : Nat) (x : Int), (Lit.int .i64 x).wf = true → Try.prog.keyLits (d + 1) 3 [.int .i64 x] = some [.int .i64 x] := fun d x hx => by
  unfold Program.keyLits
  rw [Try.underlying3]
  simp [hx]
 have hl : Try.prog.keyLits (Try.prog.types.size + 1) 62 (kp a n).cells.toList = some [.int .i64 (a : Int), .int .i64 (n : Int)] := by
  obtain ⟨d, hd⟩ : ∃ d, Try.prog.types.size = d + 1 := ⟨Try.prog.types.size - 1, by have : 0 < Try.prog.types.size := of_decide_eq_true (by kernel_rfl); omega⟩
  rw [hd]
  have hcs : (kp a n).cells.toList = [.int .i64 (a : Int), .int .i64 (n : Int)] := rfl
  rw [hcs]
  unfold Program.keyLits
  rw [Try.underlying62]
  simp [hc2, hc1, List.range_succ, e _ _ w1, e _ _ w2]
 rw [hl]
 exact ⟨_, rfl⟩
theorem kp_inj {a n b m : Nat} (h : kp a n = kp b m) : a = b ∧ n = m := by
 simp only [kp, Value.agg.injEq, Array.mk.injEq, List.cons.injEq, Value.int.injEq, true_and, and_true] at h
 omega
/-! ### how many keys there may be -/
theorem nodup_le {α : Type} [DecidableEq α] : ∀ (l m : List α), l.Nodup → (∀ x ∈ l, x ∈ m) → l.length ≤ m.length
 | [], m, _, _ => Nat.zero_le _
 | a :: l, m, hn, hs => by
  have ha := hs a (List.mem_cons_self ..)
  rw [List.nodup_cons] at hn
  have h := nodup_le l (m.erase a) hn.2 (fun x hx => (List.mem_erase_of_ne (fun e => hn.1 (by rw [← e]; exact hx))).2 (hs x (List.mem_cons_of_mem _ hx)))
  rw [List.length_erase_of_mem ha] at h
  have := List.length_pos_of_mem ha
  rw [List.length_cons]
  omega
def pairs (N : Nat) : List (Nat × Nat) := (List.range N).flatMap fun a => (List.range N).map fun n => (a, n)
theorem flatMap_const {α β : Type} (f : α → List β) (c : Nat) (h : ∀ a, (f a).length = c) : ∀ l : List α, (l.flatMap f).length = l.length * c
 | [] => by simp
 | a :: l => by rw [List.flatMap_cons, List.length_append, h, flatMap_const f c h l, List.length_cons, Nat.succ_mul]; omega
theorem pairs_length (N : Nat) : (pairs N).length = N * N := by
 rw [pairs, flatMap_const _ N (fun a => by rw [List.length_map, List.length_range]), List.length_range]
theorem mem_pairs {N a n : Nat} (ha : a < N) (hn : n < N) : (a, n) ∈ pairs N :=
 List.mem_flatMap.2 ⟨a, List.mem_range.2 ha, List.mem_map.2 ⟨n, List.mem_range.2 hn, rfl⟩⟩
theorem keys_le (N : Nat) (es : List (Lit × DataW Unit)) (hp : es.Pairwise (fun p q => p.1 ≠ q.1)) (hk : ∀ p ∈ es, ∃ a n, a < N ∧ n < N ∧ keyOf Try.prog 62 (kp a n) = some p.1) : es.length ≤ N * N := by
 classical
 have hn : ((es.map (·.1)).map some).Nodup := by
  unfold List.Nodup
  rw [List.pairwise_map, List.pairwise_map]
  exact hp.imp (fun h e => h (Option.some.inj e))
 have h := nodup_le ((es.map (·.1)).map some) ((pairs N).map fun x => keyOf Try.prog 62 (kp x.1 x.2)) hn ?_
 ·rw [List.length_map, List.length_map, List.length_map, pairs_length] at h
  exact h
 ·intro x hx
  obtain ⟨y, hy, rfl⟩ := List.mem_map.1 hx
  obtain ⟨q, hq, rfl⟩ := List.mem_map.1 hy
  obtain ⟨a, n, ha, hn, hk⟩ := hk q hq
  exact List.mem_map.2 ⟨(a, n), mem_pairs ha hn, hk⟩
theorem ownsMap_tight {w : World} {b q : Nat} {D : DataW Unit} (h : w.ownsMap Try.prog 62 DgR b q D) : w.ownsMap Try.prog 62 DgR b (size D) D := by
 obtain ⟨es, clock, h1, h2, h3, h4⟩ := h
 refine ⟨es, clock, h1, h2, ?_, h4⟩
 rw [h4, size_eq, length_sorted, List.length_map]
 simp
def RMap (w : World) (b : Nat) (wd : Nat) (L : List Dg) : Prop :=
 ∃ D : DataW Unit, w.ownsMap Try.prog 62 DgR b (size D) D ∧ IsMap D ∧ ∀ k, has D k = true → ∃ a n, a + n ≤ L.length ∧ keyOf Try.prog 62 (kp a n) = some k ∧ ∀ z, D.atKey k z = dgD (spanD wd L a n)
theorem RMap.made (w : World) (wd : Nat) (L : List Dg) : RMap (w.alloc (.map #[] 0)) w.heap.size wd L :=
 ⟨.map [], World.ownsMap_made w _ _ _, isMap_empty, fun k h => (by cases h)⟩
theorem RMap.lt {w : World} {b wd : Nat} {L : List Dg} (h : RMap w b wd L) : b < w.heap.size := by
 obtain ⟨D, h1, _⟩ := h
 exact h1.lt
theorem RMap.heap {w w' : World} {b wd : Nat} {L : List Dg} (h : RMap w b wd L) (e : w'.heap[b]? = w.heap[b]?) : RMap w' b wd L := by
 obtain ⟨D, ⟨es, clock, hb, r⟩, h2⟩ := h
 exact ⟨D, ⟨es, clock, e.trans hb, r⟩, h2⟩
theorem RMap.below {w w' : World} {b wd B : Nat} {L : List Dg} (h : RMap w b wd L) (hb : Below B w w') (hB : b < B) : RMap w' b wd L := h.heap (hb.block b hB)
theorem RMap.mod {w w' : World} {S : Nat → Prop} {b wd : Nat} {L : List Dg} (h : RMap w b wd L) (hm : Mod S w w') (hS : ¬ S b) : RMap w' b wd L := h.heap (hm.block b h.lt hS)
theorem RMap.alloc {w : World} {b wd : Nat} {L : List Dg} (h : RMap w b wd L) (o : Obj) : RMap (w.alloc o) b wd L := by
 obtain ⟨D, h1, h2⟩ := h
 exact ⟨D, h1.alloc o, h2⟩
theorem RMap.drew {w : World} {b wd : Nat} {L : List Dg} (h : RMap w b wd L) : RMap w.drew b wd L := h
theorem RMap.more {w : World} {b wd : Nat} {L : List Dg} (h : RMap w b wd L) (M : List Dg) : RMap w b wd (L ++ M) := by
 obtain ⟨D, h1, h2, h3⟩ := h
 refine ⟨D, h1, h2, fun k hk => ?_⟩
 obtain ⟨a, n, h4, h5, h6⟩ := h3 k hk
 exact ⟨a, n, by rw [List.length_append]; omega, h5, fun z => by rw [spanD_append wd L M a n h4]; exact h6 z⟩
theorem RMap.size_le {w : World} {b wd : Nat} {L : List Dg} {D : DataW Unit} (h1 : w.ownsMap Try.prog 62 DgR b (size D) D) (h3 : ∀ k, has D k = true → ∃ a n, a + n ≤ L.length ∧ keyOf Try.prog 62 (kp a n) = some k ∧ ∀ z, D.atKey k z = dgD (spanD wd L a n)) : size D ≤ (L.length + 1) * (L.length + 1) := by
 obtain ⟨es, rfl, hp, hk⟩ := h1.entries keyed_pair
 rw [size_eq]
 refine keys_le _ es hp (fun p hpm => ?_)
 obtain ⟨a, n, h4, h5, _⟩ := h3 p.1 (by rw [has_eq, List.any_eq_true]; exact ⟨p, hpm, WideAt.sameKey_self (hk p hpm)⟩)
 exact ⟨a, n, by omega, by omega, h5⟩
theorem run_lookR {w : World} {b wd : Nat} {L : List Dg} (h : RMap w b wd L) (a n : Nat) (ha : a ≤ 9223372036854775807) (hn : n ≤ 9223372036854775807) : ∃ (l : List UInt8) (t : Bool), (t = true → a + n ≤ L.length ∧ l = spanD wd L a n) ∧ (t = false → l = zeros32) ∧
  ∀ W : World, W.heap[b]? = w.heap[b]? → Sem.run Try.prog (Instr.lookup 99 (.map (some b)) (.agg #[.int .i64 (a : Int), .int .i64 (n : Int)]) true) W = .ok (.tuple #[dv l, .bool t]) W := by
 obtain ⟨D, h1, h2, h3⟩ := h
 obtain ⟨k, hk⟩ := key_pair a n ha hn
 have h1' : ∀ W : World, W.heap[b]? = w.heap[b]? → W.ownsMap Try.prog 62 DgR b (size D) D := fun W e => by
  obtain ⟨es, clock, hb, r⟩ := h1
  exact ⟨es, clock, e.trans hb, r⟩
 cases ht : has D k with
 | false =>
  refine ⟨zeros32, false, fun h => (by cases h), fun _ => rfl, fun W e => ?_⟩
  obtain ⟨v, ps, hrun, hv⟩ := (h1' W e).look_ok keyed_pair Try.underlying99 (zero_D W) (DgR_mk zeros32) hk
  rw [atKey_of_not_has ht] at hv
  refine hrun.trans ?_
  rw [DgR_inv hv, ht]
 | true =>
  obtain ⟨a', n', h4, h5, h6⟩ := h3 k ht
  obtain ⟨rfl, rfl⟩ := kp_inj (keyed_pair.inj h5 hk)
  refine ⟨spanD wd L a' n', true, fun _ => ⟨h4, rfl⟩, fun h => (by cases h), fun W e => ?_⟩
  obtain ⟨v, ps, hrun, hv⟩ := (h1' W e).look_ok keyed_pair Try.underlying99 (zero_D W) (DgR_mk zeros32) hk
  rw [h6] at hv
  refine hrun.trans ?_
  rw [DgR_inv hv, ht]
theorem wp_storeR {o : Oper} {a : Act} {K : Act → World → Prop} {Q : Exit → Act → World → Prop} (w : World) (m x v : Operand) (hop : o.op = Op.mapUpdate 99 m x v) (b wd : Nat) (L : List Dg) (hm : a.eval m = .map (some b)) (h : RMap w b wd L) (hL : L.length ≤ 1048576) (y n : Nat) (hx : a.eval x = .agg #[.int .i64 (y : Int), .int .i64 (n : Int)]) (hyn : y + n ≤ L.length)
  (hv : a.eval v = dv (spanD wd L y n)) (hK : ∀ w', RMap w' b wd L → w.grownBy w' (some b) → K (a.put o.dst undef) w') : o.wp Try.prog a w K Q := by
 obtain ⟨D, h1, h2, h3⟩ := h
 obtain ⟨k, hk⟩ := key_pair y n (by omega) (by omega)
 have hz := RMap.size_le h1 h3
 have hz2 : (L.length + 1) * (L.length + 1) ≤ 1048577 * 1048577 := Nat.mul_le_mul (by omega) (by omega)
 obtain ⟨w', hrun, r1, r2⟩ := h1.update (t := 99) keyed_pair Try.underlying99 (by unfold maxLen; omega) hk (DgR_mk (spanD wd L y n))
 have hrun' : Sem.run Try.prog (Instr.mapUpdate 99 (.map (some b)) (.agg #[.int .i64 (y : Int), .int .i64 (n : Int)]) (dv (spanD wd L y n))) w = .ok () w' := hrun
 unfold Oper.wp
 simp [execOp, hop, hm, hx, hv, hrun', Result.andThen]
 refine hK _ ⟨_, ownsMap_tight r1, h2.put _ _, fun k' hh => ?_⟩ r2
 by_cases e : k' = k
 ·subst e
  exact ⟨y, n, hyn, hk, fun z => atKey_put_same h2 (keyed_pair.key hk) _ z⟩
 ·rw [has_put_other e] at hh
  obtain ⟨a', n', h4, h5, h6⟩ := h3 _ hh
  exact ⟨a', n', h4, h5, fun z => by rw [atKey_put_other e]; exact h6 z⟩
end Go.Proofs.Ytihbhpggpnmifaa
namespace Go.Proofs.Ytihbhpggpnmifaa
open Go.RowKit Hw
def rowV (xs : List Dg) : List Value := xs.flatMap (fun d => d.map bv)
def All32 (xs : List Dg) : Prop := ∀ d ∈ xs, d.length = 32
theorem All32.nil : All32 [] := fun d h => by simp at h
theorem All32.snoc {xs : List Dg} {d : Dg} (h : All32 xs) (hd : d.length = 32) : All32 (xs ++ [d]) := fun x hx => by
 rcases List.mem_append.1 hx with h1 | h1
 ·exact h x h1
 ·rw [List.mem_singleton.1 h1]; exact hd
theorem All32.app {xs ys : List Dg} (h : All32 xs) (g : All32 ys) : All32 (xs ++ ys) := fun x hx => (List.mem_append.1 hx).elim (h x) (g x)
theorem rowV_len : ∀ {xs : List Dg}, All32 xs → (rowV xs).length = xs.length * 32
 | [], _ => rfl
 | d :: xs, h => by
  show ((d.map bv) ++ rowV xs).length = _
  rw [List.length_append, rowV_len (fun x hx => h x (List.mem_cons_of_mem _ hx)), List.length_map, h d (List.mem_cons_self ..), List.length_cons]
  omega
theorem rowV_at : ∀ {xs : List Dg}, All32 xs → ∀ (i : Nat) (h : i < xs.length) (j : Nat), j < 32 → (rowV xs)[i * 32 + j]? = (xs[i].map bv)[j]?
 | d :: xs, hA, 0, h, j, hj => by
  have hd := hA d (List.mem_cons_self ..)
  show ((d.map bv) ++ rowV xs)[0 * 32 + j]? = _
  rw [List.getElem?_append_left (by rw [List.length_map, hd]; omega), Nat.zero_mul, Nat.zero_add]
  rfl
 | d :: xs, hA, i + 1, h, j, hj => by
  have hd := hA d (List.mem_cons_self ..)
  have e : (i + 1) * 32 + j = 32 + (i * 32 + j) := by omega
  show ((d.map bv) ++ rowV xs)[(i + 1) * 32 + j]? = _
  rw [e, List.getElem?_append_right (by rw [List.length_map, hd]; omega)]
  have e2 : 32 + (i * 32 + j) - (d.map bv).length = i * 32 + j := by rw [List.length_map, hd]; omega
  rw [e2, rowV_at (fun x hx => hA x (List.mem_cons_of_mem _ hx)) i (by simpa using h) j hj]
  rfl
theorem rowV_one (xs : List Dg) : ∀ u ∈ rowV xs, u.oneCell' = true := by
 intro u hu
 obtain ⟨d, _, hd⟩ := List.mem_flatMap.1 hu
 obtain ⟨x, _, rfl⟩ := List.mem_map.1 hd
 rfl
def OwnR (w : World) (B : Nat) (v : Value) (xs : List Dg) : Prop := w.ownsRow B 23 32 v xs.length (rowV xs)
theorem infoR : (Try.prog.info? 23).map (fun i => (i.zero, i.size, i.bytes)) = some (some (dv zeros32), 32, 32) := by kernel_rfl
theorem OwnR.nil (w : World) (B : Nat) : OwnR w B (.slice none 0 0) [] := World.ownsRow_nil w B _ 32
theorem OwnR.lt {w : World} {B : Nat} {v : Value} {xs : List Dg} (h : OwnR w B v xs) : ∀ g, v.ownBlock = some g → B ≤ g ∧ g < w.heap.size := World.ownsRow.lt h
theorem OwnR.below {w w' : World} {B C : Nat} {v : Value} {xs : List Dg} (h : OwnR w B v xs) (hb : Below C w w') (hC : ∀ g, v.ownBlock = some g → g < C) : OwnR w' B v xs := by
 refine ⟨h.1, ?_⟩
 rcases h.2 with hn | ⟨g, cap, cur, rfl, hB, hg, r⟩
 ·exact .inl hn
 ·exact .inr ⟨g, cap, cur, rfl, hB, heap_below hg hb (hC g rfl), r⟩
theorem OwnR.mono {w : World} {B C : Nat} {v : Value} {xs : List Dg} (h : OwnR w B v xs) (hC : C ≤ B) : OwnR w C v xs := by
 refine ⟨h.1, ?_⟩
 rcases h.2 with hn | ⟨g, cap, cur, rfl, hb, r⟩
 ·exact .inl hn
 ·exact .inr ⟨g, cap, cur, rfl, by omega, r⟩
theorem OwnR.drew {w : World} {B : Nat} {v : Value} {xs : List Dg} (h : OwnR w B v xs) : OwnR w.drew B v xs := h
theorem OwnR.setOther {w : World} {B : Nat} {v : Value} {xs : List Dg} (h : OwnR w B v xs) {a : Addr} (hne : v.ownBlock ≠ some a.block) (u : Value) : OwnR (w.setCell a u) B v xs := by
 refine ⟨h.1, ?_⟩
 rcases h.2 with hn | ⟨g, cap, cur, rfl, hB, hg, r⟩
 ·exact .inl hn
 ·exact .inr ⟨g, cap, cur, rfl, hB, heap_setOther hg (fun e => hne (by rw [← e]; rfl)) _, r⟩
theorem OwnR.heap {w w' : World} {B : Nat} {v : Value} {xs : List Dg} (h : OwnR w B v xs) (hk : ∀ g, v.ownBlock = some g → w'.heap[g]? = w.heap[g]?) : OwnR w' B v xs := by
 refine ⟨h.1, ?_⟩
 rcases h.2 with hn | ⟨g, cap, cur, rfl, hB, hg, r⟩
 ·exact .inl hn
 ·exact .inr ⟨g, cap, cur, rfl, hB, (hk g rfl).trans hg, r⟩
theorem OwnR.shape {w : World} {B : Nat} {v : Value} {xs : List Dg} (h : OwnR w B v xs) : ∃ ad cap, v = .slice ad xs.length cap ∧ (0 < xs.length → ∃ g, ad = some ⟨g, 0, none⟩) := by
 rcases h.2 with ⟨rfl, h0⟩ | ⟨g, cap, cur, rfl, _⟩
 ·exact ⟨none, 0, by rw [h0], fun h => by omega⟩
 ·exact ⟨_, cap, rfl, fun _ => ⟨g, rfl⟩⟩
theorem OwnR.range {w : World} {B g n cap : Nat} {xs : List Dg} (h : OwnR w B (.slice (some ⟨g, 0, none⟩) n cap) xs) (hA : All32 xs) (i : Nat) (hi : i < xs.length) : w.rangeAt g (i * 32) (xs[i].map bv) := by
 intro j v hv
 have hj : j < 32 := by
  rcases Nat.lt_or_ge j (xs[i].map bv).length with h1 | h1
  ·rw [List.length_map, hA _ (List.getElem_mem hi)] at h1; exact h1
  ·rw [List.getElem?_eq_none h1] at hv; cases hv
 have h1 := World.ownsRow.cells (w := w) h (g := g) rfl (i * 32 + j) v (by rw [rowV_at hA i hi j hj]; exact hv)
 have hadd : (⟨g, 0, none⟩ : Addr).add (i * 32 + j) = ⟨g, i * 32 + j, none⟩ := by unfold Addr.add; split <;> simp_all
 rw [hadd] at h1
 exact h1
section
variable {ops : Array Oper} {rest : List Oper} {o : Oper} {a : Act} {w : World} {Q : Exit → Act → World → Prop} {K : Act → World → Prop}
theorem wpList_loadR (hg : o.guard = none) (x : Operand) (ho : o.op = .load 23 x) {B g n cap : Nat} {xs : List Dg} (h : OwnR w B (.slice (some ⟨g, 0, none⟩) n cap) xs) (hA : All32 xs) (i : Nat) (hi : i < xs.length) (d : Dg) (hd : xs[i] = d) (hx : a.eval x = .pointer (some ⟨g, i * 32, none⟩))
  (hK : wpList Try.prog ops Q rest (a.put o.dst (dv d)) w) : wpList Try.prog ops Q (o :: rest) a w := by
 subst hd
 exact wpList_load_mid hg 23 x ho g (i * 32) hx (xs[i].map bv) _ (h.range hA i hi) Try.underlying23 rfl (info_D.trans (congrArg some ((List.length_map _).trans (hA _ (List.getElem_mem hi))).symm)) hK
theorem wp_appR (W : World) (d : Dg) (hd : d.length = 32) (s y : Operand) (ho : o.op = .call { callee := .builtin .append, args := #[s, y], argTypes := #[32, 32] })
  (B : Nat) (v : Value) (xs : List Dg) (hs : a.eval s = v) (hown : OwnR W B v xs) (hA : All32 xs) (g c : Nat) (hy : a.eval y = .slice (some ⟨g, 0, none⟩) 1 c) (hn : DB W g d)
  (hlen : xs.length ≤ 1000000000000) (hB : B ≤ W.heap.size)
  (h : ∀ g2 cap2 w', OwnR w' B (.slice (some ⟨g2, 0, none⟩) (xs.length + 1) cap2) (xs ++ [d]) → W.grownBy w' v.ownBlock → (v.ownBlock = some g2 ∨ g2 = W.heap.size) → K (a.put o.dst (.slice (some ⟨g2, 0, none⟩) (xs.length + 1) cap2)) w') : o.wp Try.prog a W K Q := by
 obtain ⟨i, hi, hz0, hz1, hz2⟩ := info_parts infoR
 refine wp_append_lies W s y 32 ho B 23 i (dv zeros32) 32 32 Try.underlying32 hi hz0 hz1 hz2 rfl (by decide) v xs.length (rowV xs) hs hown ⟨g, 0, none⟩ 1 c (d.map bv) hy (by rw [List.length_map, hd]) ?_ (fun u hu => rowV_one [d] u (by simpa [rowV] using hu)) (by decide) (by rw [maxLen_eq]; omega) (by omega) hB W.heap.size rfl ?_
 ·intro j u hu
  have hadd : (⟨g, 0, none⟩ : Addr).add j = ⟨g, j, none⟩ := by unfold Addr.add; split <;> simp_all
  rw [hadd, heap_cell hn, List.getElem?_toArray]
  exact hu
 ·intro g' cap w' h1 h2 h3 _
  refine h g' cap w' ?_ h2 h3
  unfold OwnR
  have e : rowV (xs ++ [d]) = rowV xs ++ d.map bv := by simp [rowV]
  rw [List.length_append, e]
  exact h1
end
end Go.Proofs.Ytihbhpggpnmifaa
