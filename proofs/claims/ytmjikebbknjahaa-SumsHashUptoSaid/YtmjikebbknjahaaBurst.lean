/-
  Plain facts about the CRC: bytes that were turned within four next to one another have another sum. No program in sight.
-/
import Derived.Test.YtmjikebbknjahaaCrc
namespace Hw
open Go

theorem crcF_zero (z : BitVec 32) (h : crcF z = 0#32) : z = 0#32 := by
  cases hb : z.getLsbD 0
  · have h1 : z >>> 1 = 0#32 := by unfold crcF at h; rw [hb] at h; simpa using h
    apply BitVec.eq_of_getLsbD_eq
    intro i hi
    by_cases h0 : i = 0
    · subst h0; rw [hb]; simp
    · have h2 := congrArg (fun x => BitVec.getLsbD x (i - 1)) h1
      simp only [BitVec.getLsbD_ushiftRight] at h2
      have : 1 + (i - 1) = i := by omega
      rw [this] at h2
      rw [h2]; simp
  · have h1 : (z >>> 1) ^^^ crcPoly = 0#32 := by unfold crcF at h; rw [hb] at h; simpa using h
    have h2 := congrArg (fun x => BitVec.getLsbD x 31) h1
    simp only [BitVec.getLsbD_xor, BitVec.getLsbD_ushiftRight] at h2
    have h3 : crcPoly.getLsbD 31 = true := by decide
    rw [h3] at h2
    simp at h2
theorem crcF_inj {x y : BitVec 32} (h : crcF x = crcF y) : x = y := by
  have h1 : crcF (x ^^^ y) = 0#32 := by rw [crcF_xor, h]; simp
  have h2 := crcF_zero _ h1
  have h3 : x = (x ^^^ y) ^^^ y := by rw [BitVec.xor_assoc]; simp
  rw [h3, h2]; simp
theorem crcN_inj (n : Nat) {x y : BitVec 32} (h : crcN n x = crcN n y) : x = y := by
  induction n with
  | zero => exact h
  | succ n ih => exact ih (crcF_inj h)
theorem crcN_add (m n : Nat) (x : BitVec 32) : crcN (m + n) x = crcN m (crcN n x) := by
  induction m with
  | zero => simp [crcN]
  | succ m ih => rw [Nat.succ_add]; simp only [crcN, ih]
theorem xor_right_inj {x y z : BitVec 32} (h : x ^^^ z = y ^^^ z) : x = y := by
  have : x = (x ^^^ z) ^^^ z := by rw [BitVec.xor_assoc]; simp
  rw [this, h, BitVec.xor_assoc]; simp
theorem crcByte_inj {x y : BitVec 32} (b : UInt8) (h : crcByte x b = crcByte y b) : x = y := xor_right_inj (crcN_inj 8 h)
theorem crcFeed_inj (l : List UInt8) {x y : BitVec 32} (h : crcFeed x l = crcFeed y l) : x = y := by
  induction l generalizing x y with
  | nil => exact h
  | cons b l ih => exact crcByte_inj b (ih h)

theorem crcN_shift (j : Nat) (z : BitVec 32) (hz : ∀ i, 32 - j ≤ i → z.getLsbD i = false) (hj : j ≤ 32) : crcN j (z <<< j) = z := by
  induction j generalizing z with
  | zero => simp [crcN]
  | succ j ih =>
    have e : z <<< (j + 1) = (z <<< 1) <<< j := by rw [← BitVec.shiftLeft_add]; congr 1; omega
    simp only [crcN]
    rw [e, ih (z <<< 1) _ (by omega)]
    · exact crcF_double z (hz 31 (by omega))
    · intro i hi
      rw [BitVec.getLsbD_shiftLeft]
      by_cases h0 : i = 0
      · subst h0; simp
      · rw [hz (i - 1) (by omega)]; simp

/-- some bytes as one number, the lowest first -/
def packB : List UInt8 → BitVec 32
  | [] => 0#32
  | b :: l => ext8 b ^^^ (packB l <<< 8)
theorem ext8_high (b : UInt8) (i : Nat) (hi : 8 ≤ i) : (ext8 b).getLsbD i = false := by
  unfold ext8
  rw [BitVec.getLsbD_ofNat]
  have h1 := b.toNat_lt
  have : b.toNat.testBit i = false := Nat.testBit_lt_two_pow (Nat.lt_of_lt_of_le h1 (Nat.pow_le_pow_right (by decide) hi : 2 ^ 8 ≤ 2 ^ i))
  rw [this]; simp
theorem packB_high (l : List UInt8) (i : Nat) (hi : 8 * l.length ≤ i) : (packB l).getLsbD i = false := by
  induction l generalizing i with
  | nil => simp [packB]
  | cons b l ih =>
    rw [List.length_cons] at hi
    simp only [packB]
    rw [BitVec.getLsbD_xor, ext8_high b i (by omega), BitVec.getLsbD_shiftLeft, ih (i - 8) (by omega)]
    simp
theorem ext8_inj {b c : UInt8} (h : ext8 b = ext8 c) : b = c := by
  have := congrArg BitVec.toNat h
  have h1 := b.toNat_lt
  have h2 := c.toNat_lt
  simp only [ext8, BitVec.toNat_ofNat] at this
  exact UInt8.toNat_inj.1 (by omega)
theorem packB_inj {x y : List UInt8} (hl : x.length = y.length) (h4 : x.length ≤ 4) (h : packB x = packB y) : x = y := by
  induction x generalizing y with
  | nil => cases y with
    | nil => rfl
    | cons c y => simp at hl
  | cons b x ih =>
    cases y with
    | nil => simp at hl
    | cons c y =>
      simp only [List.length_cons] at hl h4
      simp only [packB] at h
      have hb : ext8 b = ext8 c := by
        apply BitVec.eq_of_getLsbD_eq
        intro i hi
        by_cases h8 : i < 8
        · have := congrArg (fun v => BitVec.getLsbD v i) h
          simpa [BitVec.getLsbD_xor, BitVec.getLsbD_shiftLeft, h8] using this
        · rw [ext8_high b i (by omega), ext8_high c i (by omega)]
      have hp : packB x = packB y := by
        apply BitVec.eq_of_getLsbD_eq
        intro i hi
        by_cases h24 : i < 24
        · have := congrArg (fun v => BitVec.getLsbD v (i + 8)) h
          simp only [BitVec.getLsbD_xor, ext8_high b (i + 8) (by omega), ext8_high c (i + 8) (by omega), BitVec.getLsbD_shiftLeft] at this
          have e1 : i + 8 < 32 := by omega
          have e2 : ¬ (i + 8 < 8) := by omega
          have e3 : i + 8 - 8 = i := by omega
          simpa [e1, e2, e3] using this
        · rw [packB_high x i (by omega), packB_high y i (by omega)]
      rw [ext8_inj hb, ih (by omega) (by omega) hp]
theorem crcFeed_pack (l : List UInt8) (h4 : l.length ≤ 4) (r : BitVec 32) : crcFeed r l = crcN (8 * l.length) (r ^^^ packB l) := by
  induction l generalizing r with
  | nil => simp [crcFeed, packB, crcN]
  | cons b l ih =>
    rw [List.length_cons] at h4
    show crcFeed (crcByte r b) l = _
    rw [ih (by omega), List.length_cons, Nat.mul_add, crcN_add]
    congr 1
    show crcN 8 (r ^^^ ext8 b) ^^^ packB l = crcN (8 * 1) (r ^^^ (ext8 b ^^^ (packB l <<< 8)))
    rw [Nat.mul_one, ← BitVec.xor_assoc, crcN_xor 8 (r ^^^ ext8 b), crcN_shift 8 (packB l) (fun i hi => packB_high l i (by omega)) (by decide)]

/-- THE BURST: bytes between the same bytes, up to four of them: one sum, one text -/
theorem crc_burst (r : BitVec 32) (x y z p : List UInt8) (hl : x.length = y.length) (h4 : x.length ≤ 4) (h : crcFeed r (p ++ x ++ z) = crcFeed r (p ++ y ++ z)) : x = y := by
  rw [crcFeed_append, crcFeed_append, crcFeed_append, crcFeed_append] at h
  have h1 := crcFeed_inj z h
  rw [crcFeed_pack x h4, crcFeed_pack y (by omega), hl] at h1
  have h2 := crcN_inj _ h1
  rw [BitVec.xor_comm, BitVec.xor_comm _ (packB y)] at h2
  exact packB_inj hl h4 (xor_right_inj h2)

theorem crcOf_feed {x y : List UInt8} (h : crcOf x = crcOf y) : crcFeed (BitVec.allOnes 32) x = crcFeed (BitVec.allOnes 32) y := by
  unfold crcOf crcMore at h
  have e : (~~~ (0 : BitVec 32)) = BitVec.allOnes 32 := by decide
  rw [e] at h
  have := congrArg (fun v => ~~~ v) h
  simpa using this

/-- two lists alike but for four places next to one another -/
theorem crc_near {x y : List UInt8} (i : Nat) (hl : x.length = y.length) (hn : ∀ j, j < i ∨ i + 4 ≤ j → x[j]? = y[j]?) (h : crcOf x = crcOf y) : x = y := by
  have hx : x = x.take i ++ (x.drop i).take 4 ++ x.drop (i + 4) := by
    rw [List.append_assoc, ← List.drop_drop, List.take_append_drop, List.take_append_drop]
  have hy : y = y.take i ++ (y.drop i).take 4 ++ y.drop (i + 4) := by
    rw [List.append_assoc, ← List.drop_drop, List.take_append_drop, List.take_append_drop]
  have e1 : x.take i = y.take i := by
    apply List.ext_getElem?
    intro j
    rw [List.getElem?_take, List.getElem?_take]
    split
    · exact hn j (Or.inl (by assumption))
    · rfl
  have e3 : x.drop (i + 4) = y.drop (i + 4) := by
    apply List.ext_getElem?
    intro j
    rw [List.getElem?_drop, List.getElem?_drop]
    exact hn _ (Or.inr (by omega))
  have h2 := crcOf_feed h
  rw [hx, hy, e1, e3] at h2
  have h3 := crc_burst _ _ _ _ _ (by rw [List.length_take, List.length_take, List.length_drop, List.length_drop, hl]) (by rw [List.length_take]; omega) h2
  rw [hx, hy, e1, e3, h3]
end Hw
