/-
  Plain facts about the CRC's register: no program in sight.
-/
import Derived.Laws.BitsLemmas
namespace Hw
open Go

def crcPoly : BitVec 32 := 0xEDB88320#32
/-- one step of the register, its lowest bit held against nothing -/
def crcF (r : BitVec 32) : BitVec 32 := if r.getLsbD 0 then (r >>> 1) ^^^ crcPoly else r >>> 1
def crcN : Nat → BitVec 32 → BitVec 32
  | 0, r => r
  | n + 1, r => crcF (crcN n r)
def ext8 (b : UInt8) : BitVec 32 := BitVec.ofNat 32 b.toNat
def crcByte (r : BitVec 32) (b : UInt8) : BitVec 32 := crcN 8 (r ^^^ ext8 b)
def crcFeed (r : BitVec 32) (l : List UInt8) : BitVec 32 := l.foldl crcByte r
def crcMore (r : BitVec 32) (l : List UInt8) : BitVec 32 := ~~~ crcFeed (~~~ r) l
def crcOf (l : List UInt8) : BitVec 32 := crcMore 0 l

theorem crcFeed_append (r : BitVec 32) (a b : List UInt8) : crcFeed r (a ++ b) = crcFeed (crcFeed r a) b := List.foldl_append ..

theorem crcF_eq (r : BitVec 32) : crcF r = (r >>> 1) ^^^ (if r.getLsbD 0 then crcPoly else 0#32) := by
  unfold crcF; split <;> simp

theorem xor_swap (a b c d : BitVec 32) : (a ^^^ b) ^^^ (c ^^^ d) = (a ^^^ c) ^^^ (b ^^^ d) := by
  rw [BitVec.xor_assoc, BitVec.xor_assoc, ← BitVec.xor_assoc b, BitVec.xor_comm b c, BitVec.xor_assoc c]

/-- the step is linear -/
theorem crcF_xor (a b : BitVec 32) : crcF (a ^^^ b) = crcF a ^^^ crcF b := by
  rw [crcF_eq, crcF_eq, crcF_eq]
  have h : (a ^^^ b) >>> 1 = (a >>> 1) ^^^ (b >>> 1) := BitVec.ushiftRight_xor_distrib ..
  rw [h, BitVec.getLsbD_xor, xor_swap]
  congr 1
  cases a.getLsbD 0 <;> cases b.getLsbD 0 <;> simp

theorem crcN_xor (n : Nat) (a b : BitVec 32) : crcN n (a ^^^ b) = crcN n a ^^^ crcN n b := by
  induction n with
  | zero => rfl
  | succ n ih => simp only [crcN, ih, crcF_xor]

/-- a bit that is held against the register's lowest -/
def crcBit (r b : BitVec 32) : BitVec 32 := if (r &&& 1#32) ≠ b then (r >>> 1) ^^^ crcPoly else r >>> 1

theorem lsb_and (r : BitVec 32) : r &&& 1#32 = if r.getLsbD 0 then 1#32 else 0#32 := by
  apply BitVec.eq_of_getLsbD_eq
  intro i hi
  simp only [BitVec.getLsbD_and, BitVec.getLsbD_one]
  by_cases h0 : i = 0
  · subst h0; cases h : r.getLsbD 0 <;> simp
  · cases h : r.getLsbD 0 <;> simp [h0]

theorem crcBit_eq (r c : BitVec 32) (hc : c = 0#32 ∨ c = 1#32) : crcBit r c = crcF (r ^^^ c) := by
  unfold crcBit crcF
  rw [lsb_and]
  rcases hc with rfl | rfl
  · simp only [BitVec.xor_zero]
    cases h : r.getLsbD 0 <;> simp
  · have h1 : (r ^^^ 1#32) >>> 1 = r >>> 1 := by
      rw [BitVec.ushiftRight_xor_distrib]; simp
    rw [h1, BitVec.getLsbD_xor]
    cases h : r.getLsbD 0 <;> simp

theorem shift_bit (y : BitVec 32) : y = (y &&& 1#32) ^^^ ((y >>> 1) <<< 1) := by
  apply BitVec.eq_of_getLsbD_eq
  intro i hi
  simp only [BitVec.getLsbD_xor, BitVec.getLsbD_and, BitVec.getLsbD_one, BitVec.getLsbD_shiftLeft, BitVec.getLsbD_ushiftRight]
  by_cases h0 : i = 0
  · subst h0; simp
  · have : 1 + (i - 1) = i := by omega
    simp [h0, this, hi]

theorem crcF_double (y : BitVec 32) (hy : y.getLsbD 31 = false) : crcF (y <<< 1) = y := by
  unfold crcF
  have h : (y <<< 1).getLsbD 0 = false := by simp
  rw [h]
  apply BitVec.eq_of_getLsbD_eq
  intro i hi
  simp only [Bool.false_eq_true, if_false, BitVec.getLsbD_ushiftRight, BitVec.getLsbD_shiftLeft]
  by_cases h31 : i = 31
  · subst h31; have h2 : y[31] = false := hy
    simp [h2]
  · have : 1 + i < 32 := by omega
    simp [this]

/-- the reference's step against the program's: bit by bit against the byte at once -/
theorem crcBit_step (x y : BitVec 32) : crcBit (x ^^^ y) (y &&& 1#32) = crcF x ^^^ (y >>> 1) := by
  have hc : (y &&& 1#32) = 0#32 ∨ (y &&& 1#32) = 1#32 := by rw [lsb_and]; cases y.getLsbD 0 <;> simp
  rw [crcBit_eq _ _ hc]
  have e : x ^^^ y ^^^ (y &&& 1#32) = x ^^^ ((y >>> 1) <<< 1) := by
    have h := shift_bit y
    have h2 : y ^^^ (y &&& 1#32) = ((y >>> 1) <<< 1) := by
      calc y ^^^ (y &&& 1#32) = ((y &&& 1#32) ^^^ ((y >>> 1) <<< 1)) ^^^ (y &&& 1#32) := by rw [← h]
        _ = ((y >>> 1) <<< 1) := by rw [BitVec.xor_comm, ← BitVec.xor_assoc]; simp
    rw [BitVec.xor_assoc, h2]
  rw [e, crcF_xor, crcF_double _ (by simp)]

/-- after j bits of a byte the reference's register is the program's, what is left of the byte laid over it -/
def crcMid (x : BitVec 32) (b : BitVec 32) (j : Nat) : BitVec 32 := crcN j (x ^^^ b) ^^^ (b >>> j)

theorem crcMid_zero (x b : BitVec 32) : crcMid x b 0 = x := by
  simp [crcMid, crcN, BitVec.xor_assoc]

theorem crcMid_succ (x b : BitVec 32) (j : Nat) : crcBit (crcMid x b j) ((b >>> j) &&& 1#32) = crcMid x b (j + 1) := by
  unfold crcMid
  rw [crcBit_step, ← BitVec.shiftRight_add]; rfl

theorem ext8_shift (b : UInt8) : ext8 b >>> 8 = 0#32 := by
  apply BitVec.eq_of_toNat_eq
  have := b.toNat_lt
  simp [ext8, BitVec.toNat_ushiftRight, Nat.shiftRight_eq_div_pow]
  omega

theorem crcMid_eight (x : BitVec 32) (b : UInt8) : crcMid x (ext8 b) 8 = crcByte x b := by
  unfold crcMid crcByte
  rw [ext8_shift]; simp

/-! ### the model's spelling -/
def toU (x : BitVec 32) : Int := (x.toNat : Int)
theorem toU_nonneg (x : BitVec 32) : 0 ≤ toU x := by unfold toU; omega
theorem toU_lt (x : BitVec 32) : toU x < 4294967296 := by unfold toU; have := x.isLt; omega
theorem toU_bd (x : BitVec 32) : 0 ≤ toU x ∧ toU x < 4294967296 := ⟨toU_nonneg x, toU_lt x⟩
theorem ofInt_toU (x : BitVec 32) : BitVec.ofInt 32 (toU x) = x := by unfold toU; simp
theorem toU_ofInt {n : Int} (h0 : 0 ≤ n) (h1 : n < 4294967296) : toU (BitVec.ofInt 32 n) = n := by
  unfold toU; rw [BitVec.toNat_ofInt]; omega

theorem bits_xor32 (x y : BitVec 32) : bits .xor .u32 (toU x) (toU y) = toU (x ^^^ y) := by
  simp only [bits, IntKind.bits]
  rw [ofInt_toU, ofInt_toU, IntKind.wrap_u32]
  show ((x ^^^ y).toNat : Int) % 4294967296 = _
  have := (x ^^^ y).isLt
  unfold toU; omega
theorem bits_and32 (x y : BitVec 32) : bits .and .u32 (toU x) (toU y) = toU (x &&& y) := by
  simp only [bits, IntKind.bits]
  rw [ofInt_toU, ofInt_toU, IntKind.wrap_u32]
  show ((x &&& y).toNat : Int) % 4294967296 = _
  have := (x &&& y).isLt
  unfold toU; omega
theorem toU_shift (x : BitVec 32) (j : Nat) : toU (x >>> j) = toU x / 2 ^ j := by
  unfold toU; rw [BitVec.toNat_ushiftRight, Nat.shiftRight_eq_div_pow]; simp
theorem toU_half (x : BitVec 32) : toU x / (2 : Int) = toU (x >>> 1) := by rw [toU_shift]; rfl
theorem toU_one : (1 : Int) = toU 1#32 := rfl
theorem toU_poly : (3988292384 : Int) = toU crcPoly := rfl
theorem toU_max : IntKind.u32.max = toU (BitVec.allOnes 32) := by decide
theorem toU_ext8 (b : UInt8) : ((b.toNat : Nat) : Int) = toU (ext8 b) := by
  unfold toU ext8; have := b.toNat_lt; rw [BitVec.toNat_ofNat]; omega
theorem toU_inj {x y : BitVec 32} (h : toU x = toU y) : x = y := by
  unfold toU at h; exact BitVec.eq_of_toNat_eq (by omega)
theorem allOnes_xor (x : BitVec 32) : BitVec.allOnes 32 ^^^ x = ~~~ x := by
  rw [BitVec.xor_comm]; exact BitVec.xor_allOnes

theorem and_one_eq (x : BitVec 32) : (toU (x &&& 1#32) == 1) = x.getLsbD 0 := by
  rw [lsb_and]; cases x.getLsbD 0 <;> rfl
theorem take_snoc (s : ByteArray) (k : Nat) (h : k < s.size) : s.data.toList.take (k + 1) = s.data.toList.take k ++ [s[k]] := by
  rw [List.take_succ_eq_append_getElem (by simpa using h)]; rfl
def byteAt (s : ByteArray) (k : Nat) : UInt8 := s.data.toList.getD k 0
theorem byteAt_eq (s : ByteArray) (k : Nat) (h : k < s.size) : s[k] = byteAt s k := by
  have h' : k < s.data.toList.length := by simpa using h
  unfold byteAt
  rw [List.getD_eq_getElem?_getD, List.getElem?_eq_getElem h']; rfl
theorem feed_snoc (r : BitVec 32) (s : ByteArray) (k : Nat) (h : k < s.size) : crcFeed r (s.data.toList.take (k + 1)) = crcByte (crcFeed r (s.data.toList.take k)) (byteAt s k) := by
  rw [take_snoc s k h, crcFeed_append, byteAt_eq s k h]; rfl
end Hw
