/-
  SHA-256 over blocks, plain: no walk in sight.
-/
import Derived.Test.YtmjikebbknjahaaSha
import Derived.Test.YtmjikebbknjahaaBytes
namespace Hw
open Go

/-- the state behind the first n blocks -/
def shaN (v : S8) (l : List UInt8) : Nat → S8
  | 0 => v
  | n + 1 => shaBlock (shaN v l n) ((l.drop (64 * n)).take 64)
/-- the state of no blocks -/
def sha0 : S8 := ⟨0x6a09e667#32, 0xbb67ae85#32, 0x3c6ef372#32, 0xa54ff53a#32, 0x510e527f#32, 0x9b05688c#32, 0x1f83d9ab#32, 0x5be0cd19#32⟩
/-- what is laid behind n bytes -/
def padOf (n : Nat) : List UInt8 := 0x80 :: (List.replicate ((119 - n % 64) % 64) 0 ++ be 8 (8 * n))
/-- the bytes of the eight words -/
def shaOut (v : S8) : List UInt8 := v.list.flatMap (fun x => be 4 x.toNat)
def padded (l : List UInt8) : List UInt8 := l ++ padOf l.length
/-- SHA-256 -/
def sha256 (l : List UInt8) : List UInt8 := shaOut (shaN sha0 (padded l) ((padded l).length / 64))

theorem shaN_take (v : S8) (l m : List UInt8) (n : Nat) (h : l.take (64 * n) = m.take (64 * n)) : shaN v l n = shaN v m n := by
  induction n with
  | zero => rfl
  | succ n ih =>
    have e1 : l.take (64 * n) = m.take (64 * n) := by
      have h1 := congrArg (List.take (64 * n)) h
      rw [List.take_take, List.take_take, Nat.min_eq_left (by omega)] at h1
      exact h1
    have e2 : (l.drop (64 * n)).take 64 = (m.drop (64 * n)).take 64 := by
      have h1 := congrArg (List.drop (64 * n)) h
      rw [List.drop_take, List.drop_take] at h1
      have e : 64 * (n + 1) - 64 * n = 64 := by omega
      rw [e] at h1
      exact h1
    simp only [shaN]
    rw [ih e1, e2]
theorem shaN_append (v : S8) (l m : List UInt8) (n : Nat) (h : 64 * n ≤ l.length) : shaN v (l ++ m) n = shaN v l n :=
  shaN_take v _ _ n (by rw [List.take_append_of_le_length h])
theorem shaN_add (v : S8) (l : List UInt8) (a b : Nat) : shaN v l (a + b) = shaN (shaN v l a) (l.drop (64 * a)) b := by
  induction b with
  | zero => rfl
  | succ b ih =>
    show shaBlock (shaN v l (a + b)) _ = shaBlock _ _
    rw [ih, List.drop_drop, show 64 * a + 64 * b = 64 * (a + b) by omega]
    rfl
theorem padOf_length (n : Nat) : (padOf n).length = 9 + (119 - n % 64) % 64 := by simp [padOf, be_length]; omega
theorem padOf_mod (n m : Nat) (h : n % 64 = m % 64) : padOf n = 0x80 :: (List.replicate ((119 - m % 64) % 64) 0 ++ be 8 (8 * n)) := by unfold padOf; rw [h]
theorem padded_mod (l : List UInt8) : (padded l).length % 64 = 0 := by
  unfold padded; rw [List.length_append, padOf_length]; omega
theorem shaOut_length (v : S8) : (shaOut v).length = 32 := by simp [shaOut, S8.list, be_length]
theorem sha256_length (l : List UInt8) : (sha256 l).length = 32 := shaOut_length _

/-- what a Hash has taken in, when l was written: the state and the bytes that wait -/
def stOf (l : List UInt8) : S8 := shaN sha0 l (l.length / 64)
def restOf (l : List UInt8) : List UInt8 := l.drop (64 * (l.length / 64))
theorem restOf_length (l : List UInt8) : (restOf l).length = l.length % 64 := by unfold restOf; rw [List.length_drop]; omega
theorem restOf_lt (l : List UInt8) : (restOf l).length < 64 := by rw [restOf_length]; omega
theorem stOf_nil : stOf [] = sha0 := rfl
theorem restOf_nil : restOf [] = [] := rfl
/-- some bytes more that do not fill the block -/
theorem more_less (l x : List UInt8) (h : (restOf l).length + x.length < 64) : stOf (l ++ x) = stOf l ∧ restOf (l ++ x) = restOf l ++ x := by
  rw [restOf_length] at h
  have e : (l ++ x).length / 64 = l.length / 64 := by rw [List.length_append]; omega
  have e2 : 64 * (l.length / 64) ≤ l.length := by omega
  constructor
  · unfold stOf; rw [e, shaN_append _ _ _ _ e2]
  · unfold restOf; rw [e, List.drop_append_of_le_length e2]
/-- some bytes more that fill it -/
theorem more_full (l x : List UInt8) (h : (restOf l).length + x.length = 64) : stOf (l ++ x) = shaBlock (stOf l) (restOf l ++ x) ∧ restOf (l ++ x) = [] := by
  rw [restOf_length] at h
  have e : (l ++ x).length / 64 = l.length / 64 + 1 := by rw [List.length_append]; omega
  have e2 : 64 * (l.length / 64) ≤ l.length := by omega
  constructor
  · unfold stOf restOf
    rw [e]
    show shaBlock _ _ = _
    rw [shaN_append _ _ _ _ e2, List.drop_append_of_le_length e2, List.take_of_length_le (by rw [List.length_append, List.length_drop]; omega)]
  · unfold restOf
    rw [e, List.drop_of_length_le (by rw [List.length_append]; omega)]
/-- the end: the bytes that wait and what is laid behind them -/
theorem sha256_eq (l : List UInt8) : sha256 l = shaOut (shaN (stOf l) (restOf l ++ padOf l.length) ((restOf l ++ padOf l.length).length / 64)) := by
  have e2 : 64 * (l.length / 64) ≤ l.length := by omega
  have hd : (padded l).drop (64 * (l.length / 64)) = restOf l ++ padOf l.length := by
    unfold padded restOf; rw [List.drop_append_of_le_length e2]
  have e : (padded l).length / 64 = l.length / 64 + (restOf l ++ padOf l.length).length / 64 := by
    have := padded_mod l
    rw [List.length_append, restOf_length]
    unfold padded at *; rw [List.length_append] at *
    omega
  unfold sha256
  rw [e, shaN_add, hd]
  unfold stOf padded
  rw [shaN_append _ _ _ _ e2]
end Hw
