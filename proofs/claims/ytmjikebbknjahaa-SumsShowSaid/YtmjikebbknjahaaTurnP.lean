/-
  Bytes turned by a mask: plain.
-/
import Derived.Test.YtmjikebbknjahaaBurst
import Derived.Test.YtmjikebbknjahaaBytes
import Derived.Laws.Bits64
namespace Go.Proofs.Ytmjikebbknjahaa
open Go Hw
set_option linter.unusedVariables false

def maskB (M q : Nat) : UInt8 := UInt8.ofNat (M / 256 ^ q % 256)
/-- the first q of the four bytes at i turned by the mask -/
def turnedL (M i : Nat) : Nat → List UInt8 → List UInt8
  | 0, l => l
  | q + 1, l => (turnedL M i q l).set (i + q) ((turnedL M i q l).getD (i + q) 0 ^^^ maskB M q)
theorem turnedL_length (M i q : Nat) (l : List UInt8) : (turnedL M i q l).length = l.length := by
  induction q with
  | zero => rfl
  | succ q ih => rw [turnedL, List.length_set, ih]
theorem turnedL_out (M i : Nat) (l : List UInt8) : ∀ (q j : Nat), (j < i ∨ i + q ≤ j) → (turnedL M i q l)[j]? = l[j]?
  | 0, j, _ => rfl
  | q + 1, j, h => by
    rw [turnedL, List.getElem?_set_ne (by omega)]
    exact turnedL_out M i l q j (by omega)
theorem turnedL_in (M i : Nat) (l : List UInt8) : ∀ (q j : Nat), j < q → i + j < l.length → (turnedL M i q l)[i + j]? = some (l.getD (i + j) 0 ^^^ maskB M j)
  | 0, j, h, _ => by omega
  | q + 1, j, h, hl => by
    rw [turnedL]
    by_cases hj : j = q
    · subst hj
      rw [List.getElem?_set_self (by rw [turnedL_length]; exact hl)]
      congr 2
      rw [List.getD_eq_getElem?_getD, List.getD_eq_getElem?_getD, turnedL_out M i l j (i + j) (by omega)]
    · rw [List.getElem?_set_ne (by omega)]
      exact turnedL_in M i l q j (by omega) hl
theorem xor_zero_of {x y : UInt8} (h : x ^^^ y = x) : y = 0 := by
  have h1 : x ^^^ (x ^^^ y) = x ^^^ x := by rw [h]
  rw [← UInt8.xor_assoc, UInt8.xor_self, UInt8.zero_xor] at h1
  exact h1
theorem turnedL_ne (M i : Nat) (l : List UInt8) (h4 : i + 3 < l.length) (hM : M < 4294967296) (h0 : M ≠ 0) : turnedL M i 4 l ≠ l := by
  intro h
  have key : ∀ j, j < 4 → M / 256 ^ j % 256 = 0 := by
    intro j hj
    have h1 := turnedL_in M i l 4 j hj (by omega)
    rw [h, List.getD_eq_getElem?_getD, List.getElem?_eq_getElem (by omega)] at h1
    have h2 : maskB M j = 0 := xor_zero_of (by simpa using h1.symm)
    have h3 := congrArg UInt8.toNat h2
    rw [maskB, UInt8.toNat_ofNat'] at h3
    simp at h3
    omega
  have k0 := key 0 (by omega)
  have k1 := key 1 (by omega)
  have k2 := key 2 (by omega)
  have k3 := key 3 (by omega)
  simp at k0 k1 k2 k3
  omega
theorem turned_crc (M i : Nat) (l : List UInt8) (h4 : i + 3 < l.length) (hM : M < 4294967296) (h0 : M ≠ 0) : crcOf (turnedL M i 4 l) ≠ crcOf l := by
  intro h
  refine turnedL_ne M i l h4 hM h0 (crc_near i (turnedL_length M i 4 l) (fun j hj => turnedL_out M i l 4 j hj) h)
theorem bits_xor_u8 (x y : UInt8) : bits .xor .u8 (x.toNat : Int) (y.toNat : Int) = ((x ^^^ y).toNat : Int) := by
  have hx := x.toNat_lt
  have hy := y.toNat_lt
  have hxy : x.toNat ^^^ y.toNat < 2 ^ 8 := Nat.xor_lt_two_pow hx hy
  have h1 : (BitVec.ofInt 8 (x.toNat : Int)).toNat = x.toNat := by
    rw [BitVec.ofInt_natCast, BitVec.toNat_ofNat]; exact Nat.mod_eq_of_lt (by omega)
  have h2 : (BitVec.ofInt 8 (y.toNat : Int)).toNat = y.toNat := by
    rw [BitVec.ofInt_natCast, BitVec.toNat_ofNat]; exact Nat.mod_eq_of_lt (by omega)
  show IntKind.u8.wrap ((BitVec.ofInt 8 (x.toNat : Int) ^^^ BitVec.ofInt 8 (y.toNat : Int)).toNat : Int) = _
  rw [BitVec.toNat_xor, h1, h2, IntKind.wrap_u8, UInt8.toNat_xor]
  omega
theorem mask_shift (M q : Nat) (hq : q < 4) : IntKind.u8.wrap ((M : Int) / 2 ^ min (IntKind.u64.wrap (8 * (q : Int))).toNat 32) = ((maskB M q).toNat : Int) := by
  unfold maskB
  rw [UInt8.toNat_ofNat', IntKind.wrap_u8, IntKind.wrap_u64]
  match q, hq with
  | 0, _ => simp
  | 1, _ =>
    have : min ((8 * ((1 : Nat) : Int)) % 18446744073709551616).toNat 32 = 8 := by decide
    rw [this]; simp
  | 2, _ =>
    have : min ((8 * ((2 : Nat) : Int)) % 18446744073709551616).toNat 32 = 16 := by decide
    rw [this]; simp
  | 3, _ =>
    have : min ((8 * ((3 : Nat) : Int)) % 18446744073709551616).toNat 32 = 24 := by decide
    rw [this]; simp
end Go.Proofs.Ytmjikebbknjahaa
