/-
  Linear maps of a register as lists of 32 registers: plain.
-/
import Derived.Test.YtmjikebbknjahaaBurst
namespace Hw
open Go
/-- what a list of registers makes of the first k bits of a register -/
def thr (m : List (BitVec 32)) (v : BitVec 32) : Nat → BitVec 32
  | 0 => 0
  | k + 1 => if v.getLsbD k then thr m v k ^^^ m.getD k 0 else thr m v k
/-- what becomes of each bit -/
def matF (f : BitVec 32 → BitVec 32) : List (BitVec 32) := (List.range 32).map fun i => f (1#32 <<< i)
def Lin (f : BitVec 32 → BitVec 32) : Prop := ∀ a b, f (a ^^^ b) = f a ^^^ f b
theorem Lin.zero {f : BitVec 32 → BitVec 32} (h : Lin f) : f 0 = 0 := by
  have h1 := h 0 0
  simp only [BitVec.xor_self] at h1
  exact h1
theorem crcN_lin (n : Nat) : Lin (crcN n) := crcN_xor n
def low (k : Nat) (v : BitVec 32) : BitVec 32 := (v.setWidth k).setWidth 32
theorem low_zero (v : BitVec 32) : low 0 v = 0 := by
  apply BitVec.eq_of_getLsbD_eq; intro i hi; simp [low, BitVec.getLsbD_setWidth]
theorem low_all (v : BitVec 32) : low 32 v = v := by
  apply BitVec.eq_of_getLsbD_eq; intro i hi; simp [low, hi]
theorem low_succ (k : Nat) (v : BitVec 32) (hk : k < 32) : low (k + 1) v = if v.getLsbD k then low k v ^^^ (1#32 <<< k) else low k v := by
  apply BitVec.eq_of_getLsbD_eq
  intro i hi
  cases hb : v.getLsbD k
  · simp only [Bool.false_eq_true, if_false, low, BitVec.getLsbD_setWidth, hi, decide_true, Bool.true_and]
    by_cases h : i = k
    · subst h; simp [hb]
    · by_cases h2 : i < k
      · have : i < k + 1 := by omega
        simp [h2, this]
      · have : ¬ i < k + 1 := by omega
        simp [h2, this]
  · simp only [if_true, low, BitVec.getLsbD_xor, BitVec.getLsbD_setWidth, BitVec.getLsbD_shiftLeft, BitVec.getLsbD_one, hi, decide_true, Bool.true_and]
    by_cases h : i = k
    · subst h; simp [hb]
    · by_cases h2 : i < k
      · have : i < k + 1 := by omega
        simp [h2, this]
      · have h3 : ¬ i < k + 1 := by omega
        have h4 : ¬ i - k = 0 := by omega
        simp [h2, h3, h4]
theorem matF_get (f : BitVec 32 → BitVec 32) (i : Nat) (hi : i < 32) : (matF f).getD i 0 = f (1#32 <<< i) := by
  simp [matF, List.getD, hi]
theorem matF_length (f : BitVec 32 → BitVec 32) : (matF f).length = 32 := by simp [matF]
theorem thr_low {f : BitVec 32 → BitVec 32} (h : Lin f) (v : BitVec 32) (k : Nat) (hk : k ≤ 32) : thr (matF f) v k = f (low k v) := by
  induction k with
  | zero => rw [low_zero, h.zero]; rfl
  | succ k ih =>
    rw [low_succ k v (by omega)]
    simp only [thr]
    rw [ih (by omega), matF_get f k (by omega)]
    split
    · rw [h]
    · rfl
theorem thr_all {f : BitVec 32 → BitVec 32} (h : Lin f) (v : BitVec 32) : thr (matF f) v 32 = f v := by
  rw [thr_low h v 32 (Nat.le_refl _), low_all]
theorem lin_comp {f g : BitVec 32 → BitVec 32} (hf : Lin f) (hg : Lin g) : Lin (fun x => f (g x)) := fun a b => by
  show f (g (a ^^^ b)) = _
  rw [hg, hf]
theorem crc_twice (E : Nat) : (fun x => crcN E (crcN E x)) = crcN (2 * E) := by
  funext x
  rw [← crcN_add, Nat.two_mul]
/-- the bit that a shift and a cut give -/
theorem bit_at (V : BitVec 32) (i : Nat) : (toU ((V >>> i) &&& 1#32) == 1) = V.getLsbD i := by
  rw [and_one_eq]; simp
/-- the first n of a matrix, noughts behind them -/
def rowU (m : List (BitVec 32)) (n : Nat) : List (BitVec 32) := m.take n ++ List.replicate (32 - n) 0#32
theorem rowU_length (m : List (BitVec 32)) (n : Nat) (hl : m.length = 32) (hn : n ≤ 32) : (rowU m n).length = 32 := by simp [rowU, hl]; omega
theorem rowU_all (m : List (BitVec 32)) (hl : m.length = 32) : rowU m 32 = m := by simp [rowU, List.take_of_length_le (Nat.le_of_eq hl)]
theorem rowU_succ (m : List (BitVec 32)) (n : Nat) (x : BitVec 32) (hl : m.length = 32) (hn : n < 32) (hx : m.getD n 0 = x) : (rowU m n).set n x = rowU m (n + 1) := by
  unfold rowU
  have e : 32 - n = (32 - (n + 1)) + 1 := by omega
  have e2 : (m.take n).length = n := by rw [List.length_take]; omega
  have hb : m[n]? = some x := by
    rw [← hx, List.getD_eq_getElem?_getD]
    have : n < m.length := by omega
    rw [List.getElem?_eq_getElem this]; rfl
  rw [e, List.replicate_succ, List.set_append_right _ _ (by omega), e2, Nat.sub_self, List.set_cons_zero, List.take_add_one, hb, List.append_assoc]
  rfl
end Hw
