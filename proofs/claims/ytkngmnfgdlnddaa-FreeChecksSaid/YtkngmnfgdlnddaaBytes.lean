/-
  Numbers as bytes, the highest first: plain.
-/
import Derived.Laws.BitsLemmas
namespace Hw
/-- the k bytes of a number, the highest first -/
def be : Nat → Nat → List UInt8
  | 0, _ => []
  | k + 1, n => be k (n / 256) ++ [UInt8.ofNat (n % 256)]
theorem be_length (k n : Nat) : (be k n).length = k := by
  induction k generalizing n with
  | zero => rfl
  | succ k ih => simp [be, ih]
/-- byte j of k, the highest first -/
theorem be_get (k n j : Nat) (h : j < k) : (be k n)[j]? = some (UInt8.ofNat (n / 256 ^ (k - 1 - j) % 256)) := by
  induction k generalizing n with
  | zero => omega
  | succ k ih =>
    simp only [be]
    by_cases hj : j < k
    · rw [List.getElem?_append_left (by rw [be_length]; exact hj), ih _ hj]
      have : k + 1 - 1 - j = (k - 1 - j) + 1 := by omega
      rw [this, Nat.pow_succ, Nat.mul_comm, Nat.div_div_eq_div_mul]
    · obtain rfl : j = k := by omega
      rw [List.getElem?_append_right (by rw [be_length]; exact Nat.le_refl _), be_length]
      simp
theorem be_take_succ (k n j : Nat) (h : j < k) : (be k n).take (j + 1) = (be k n).take j ++ [UInt8.ofNat (n / 256 ^ (k - 1 - j) % 256)] := by
  rw [List.take_add_one, be_get k n j h]; rfl
/-- the byte that a shift and a cut give -/
theorem byte_of (n : Int) (h0 : 0 ≤ n) (j : Nat) : n / 2 ^ (8 * j) % 256 = ((UInt8.ofNat (n.toNat / 256 ^ j % 256)).toNat : Int) := by
  obtain ⟨m, rfl⟩ := Int.eq_ofNat_of_zero_le h0
  have h1 : (2 : Nat) ^ (8 * j) = 256 ^ j := by rw [Nat.pow_mul]
  have h2 : ((2 : Int) ^ (8 * j)) = (((2 : Nat) ^ (8 * j) : Nat) : Int) := by simp
  rw [h2, h1]
  simp only [Int.toNat_natCast, UInt8.toNat_ofNat']
  have h3 : m / 256 ^ j % 256 % 2 ^ 8 = m / 256 ^ j % 256 := by omega
  rw [h3]
  simp
theorem byte_of1 (n : Int) (h0 : 0 ≤ n ∧ n < 256) (j : Nat) (hj : j = 0) : n / 2 ^ (8 * j) = ((UInt8.ofNat (n.toNat / 256 ^ j % 256)).toNat : Int) := by
  rw [← byte_of n h0.1, hj]
  simp
  omega
end Hw
