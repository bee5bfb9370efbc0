/-
  SHA-256's block, plain: no program in sight.
-/
import Derived.Test.YtmjikebbknjahaaShaW1
namespace Hw
open Go

def sg0 (x : BitVec 32) : BitVec 32 := Go.Proofs.Ytmjikebbknjahaa.rotr 7 x ^^^ Go.Proofs.Ytmjikebbknjahaa.rotr 18 x ^^^ (x >>> 3)
def sg1 (x : BitVec 32) : BitVec 32 := Go.Proofs.Ytmjikebbknjahaa.rotr 17 x ^^^ Go.Proofs.Ytmjikebbknjahaa.rotr 19 x ^^^ (x >>> 10)
def bigE (x : BitVec 32) : BitVec 32 := Go.Proofs.Ytmjikebbknjahaa.rotr 6 x ^^^ Go.Proofs.Ytmjikebbknjahaa.rotr 11 x ^^^ Go.Proofs.Ytmjikebbknjahaa.rotr 25 x
def bigA (x : BitVec 32) : BitVec 32 := Go.Proofs.Ytmjikebbknjahaa.rotr 2 x ^^^ Go.Proofs.Ytmjikebbknjahaa.rotr 13 x ^^^ Go.Proofs.Ytmjikebbknjahaa.rotr 22 x
def chF (e f g : BitVec 32) : BitVec 32 := (e &&& f) ^^^ (~~~ e &&& g)
def majF (a b c : BitVec 32) : BitVec 32 := ((a &&& b) ^^^ (a &&& c)) ^^^ (b &&& c)
/-- the word that four bytes are -/
def word4 (a b c d : UInt8) : BitVec 32 := (((ext8 a <<< 24) ||| (ext8 b <<< 16)) ||| (ext8 c <<< 8)) ||| ext8 d
/-- the first words of a block -/
def words : Nat → List UInt8 → List (BitVec 32)
  | 0, _ => []
  | n + 1, l => words n l ++ [word4 (l.getD (4 * n) 0) (l.getD (4 * n + 1) 0) (l.getD (4 * n + 2) 0) (l.getD (4 * n + 3) 0)]
/-- one word more -/
def schedW (m : List (BitVec 32)) : BitVec 32 := m.getD (m.length - 16) 0 + m.getD (m.length - 7) 0 + sg0 (m.getD (m.length - 15) 0) + sg1 (m.getD (m.length - 2) 0)
def schedN : Nat → List (BitVec 32) → List (BitVec 32)
  | 0, m => m
  | n + 1, m => schedN n m ++ [schedW (schedN n m)]
theorem words_length (n : Nat) (l : List UInt8) : (words n l).length = n := by
  induction n with
  | zero => rfl
  | succ n ih => simp [words, ih]
theorem schedN_length (n : Nat) (m : List (BitVec 32)) : (schedN n m).length = m.length + n := by
  induction n with
  | zero => rfl
  | succ n ih => simp [schedN, ih]; omega
/-- the eight words -/
structure S8 where
  a : BitVec 32
  b : BitVec 32
  c : BitVec 32
  d : BitVec 32
  e : BitVec 32
  f : BitVec 32
  g : BitVec 32
  h : BitVec 32
def S8.list (v : S8) : List (BitVec 32) := [v.a, v.b, v.c, v.d, v.e, v.f, v.g, v.h]
def roundS (k w : BitVec 32) (v : S8) : S8 :=
  let one := v.h + k + w + bigE v.e + chF v.e v.f v.g
  let two := bigA v.a + majF v.a v.b v.c
  ⟨one + two, v.a, v.b, v.c, v.d + one, v.e, v.f, v.g⟩
def roundsN (k w : List (BitVec 32)) : Nat → S8 → S8
  | 0, v => v
  | n + 1, v => roundS (k.getD n 0) (w.getD n 0) (roundsN k w n v)
def addS (x y : S8) : S8 := ⟨x.a + y.a, x.b + y.b, x.c + y.c, x.d + y.d, x.e + y.e, x.f + y.f, x.g + y.g, x.h + y.h⟩
def shaKB : List (BitVec 32) := Go.Proofs.Ytmjikebbknjahaa.shaK.map (BitVec.ofInt 32 ·)
def shaBlock (v : S8) (l : List UInt8) : S8 := addS v (roundsN shaKB (schedN 48 (words 16 l)) 64 v)
end Hw
