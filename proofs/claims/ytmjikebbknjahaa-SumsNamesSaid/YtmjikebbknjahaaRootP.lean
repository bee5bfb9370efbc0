/-
  The roots by definition: plain. No program in sight.
-/
import Derived.Test.YtmjikebbknjahaaShaP
namespace Hw

/-- one step of the inner loop of a product -/
def wideStep (ai i : Nat) (b : List Nat) (k : Nat) (s : List Nat × Nat) : List Nat × Nat :=
  let x := (s.1.getD (i + k) 0 + ai * b.getD k 0 + s.2) % 18446744073709551616
  (s.1.set (i + k) (x % 4294967296), x / 4294967296)
def wideIn (ai i : Nat) (b : List Nat) : Nat → List Nat × Nat → List Nat × Nat
  | 0, s => s
  | k + 1, s => wideStep ai i b k (wideIn ai i b k s)
/-- the first n rounds of a product -/
def wideN (a b : List Nat) : Nat → List Nat
  | 0 => List.replicate (a.length + b.length) 0
  | i + 1 =>
    let s := wideIn (a.getD i 0) i b b.length (wideN a b i, 0)
    s.1.set (i + b.length) s.2
def wideL (a b : List Nat) : List Nat := wideN a b a.length
def partsL (x : Nat) : List Nat := [x % 4294967296, x / 4294967296]
def aboveL (l : List Nat) (p n : Nat) : Bool :=
  (l.drop (n + 1)).any (fun x => decide (0 < x)) || (decide (p < l.getD n 0) || (l.getD n 0 == p && (l.take n).any (fun x => decide (0 < x))))
def powL (t power : Nat) : List Nat := bif power == 3 then wideL (wideL (partsL t) (partsL t)) (partsL t) else wideL (partsL t) (partsL t)
def rootN (p power : Nat) : Nat → Nat
  | 0 => 0
  | j + 1 =>
    let t := (rootN p power j + 2 ^ (36 - j)) % 18446744073709551616
    bif aboveL (powL t power) p power then rootN p power j else t
def rootL (p power : Nat) : Nat := rootN p power 37 % 4294967296
/-- the primes below p, found by trial -/
def sieve : Nat → List Nat
  | 0 => []
  | p + 1 => bif decide (2 ≤ p) && (sieve p).all (fun q => p % q != 0) then sieve p ++ [p] else sieve p
theorem sieve_len : (sieve 312).length = 64 := by decide +kernel
theorem roots_H : ((sieve 312).take 8).map (fun p => BitVec.ofNat 32 (rootL p 2)) = sha0.list := by decide +kernel
theorem roots_K : (sieve 312).map (fun p => BitVec.ofNat 32 (rootL p 3)) = shaKB := by decide +kernel
end Hw
