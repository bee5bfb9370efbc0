/-
  Plain: what Read answers of what Write wrote; and back.
-/
import Derived.Test.YtfhfeaipdmcekaaPageW5
namespace Go.Proofs.Ytfhfeaipdmcekaa
open Go.RowKit Hw
set_option linter.unusedVariables false

theorem told_be (k n : Nat) : told (be k n) = n % 256 ^ k := by
  induction k generalizing n with
  | zero => simp [be, told, Nat.mod_one]
  | succ k ih =>
    rw [be, told_snoc, ih]
    have h : (UInt8.ofNat (n % 256)).toNat = n % 256 := by simp
    rw [h, Nat.pow_succ, Nat.mul_comm (256 ^ k) 256, Nat.mod_mul]
    omega
theorem told_be' (k n : Nat) (h : n < 256 ^ k) : told (be k n) = n := by rw [told_be, Nat.mod_eq_of_lt h]
theorem be_told (l : List UInt8) : be l.length (told l) = l := by
  have key : ∀ (k : Nat) (l : List UInt8), l.length = k → be k (told l) = l := by
    intro k
    induction k with
    | zero => intro l h; rw [List.eq_nil_of_length_eq_zero h]; rfl
    | succ k ih =>
      intro l h
      have hne : l ≠ [] := by intro e; rw [e] at h; simp at h
      have hl := List.dropLast_concat_getLast hne
      generalize l.getLast hne = b at hl
      have hd : l.dropLast.length = k := by rw [List.length_dropLast, h]; rfl
      generalize l.dropLast = d at hl hd
      rw [← hl, told_snoc, be]
      have hb := b.toNat_lt
      have h1 : (told d * 256 + b.toNat) / 256 = told d := by omega
      have h2 : (told d * 256 + b.toNat) % 256 = b.toNat := by omega
      rw [h1, h2, ih d hd]
      simp
  exact key _ l rfl

theorem bstr_inj {x y : List UInt8} (h : bstr x = bstr y) : x = y := by
  have := congrArg (fun s => s.data.toList) h
  simpa [bstr] using this

theorem extract_bstr (x y z : List UInt8) (i j : Nat) (hi : x.length = i) (hj : i + y.length = j) : (bstr (x ++ (y ++ z))).extract i j = bstr y := by
  apply ByteArray.ext
  rw [ByteArray.data_extract]
  unfold bstr
  simp only [List.extract_toArray]
  congr 1
  rw [List.extract_eq_take_drop, List.drop_left' hi, List.take_left' (by omega)]
theorem piece_bstr (x y z : List UInt8) (i n : Nat) (hi : x.length = i) (hn : y.length = n) : piece (bstr (x ++ (y ++ z))) i n = y := by
  unfold piece
  rw [bstr_list, List.drop_left' hi, List.take_left' hn]

section
variable {a k n r : Int} {l : List UInt8}
theorem head_length (k n r : Int) (len : Nat) : (headOf k n r len).length = 28 := by simp [headOf, be_length]
theorem body_length (h : (l.length : Int) ≤ a - 32) : (bodyOf a l).length = (a - 32).toNat := by simp [bodyOf]; omega
theorem form_length (h : (l.length : Int) ≤ a - 32) : (formOf a k n r l).length = a.toNat := by
  simp only [formOf, List.length_append, head_length, be_length, body_length h]; omega
theorem form_split (a k n r : Int) (l : List UInt8) : formOf a k n r l = headOf k n r l.length ++ (be 4 (crcOf (headOf k n r l.length ++ bodyOf a l)).toNat ++ bodyOf a l) := by
  unfold formOf; rw [List.append_assoc]

theorem form_K (hk : 0 ≤ k ∧ k < 256) : (rdK (bstr (formOf a k n r l)) : Int) = k := by
  have e : formOf a k n r l = (be 4 1213681735 ++ be 1 1) ++ (be 1 k.toNat ++ (be 2 l.length ++ (be 4 n.toNat ++ (be 4 0 ++ (be 8 r.toNat ++ be 4 0))) ++ (be 4 (crcOf (headOf k n r l.length ++ bodyOf a l)).toNat ++ bodyOf a l))) := by
    rw [form_split]; generalize be 4 (crcOf (headOf k n r l.length ++ bodyOf a l)).toNat ++ bodyOf a l = t; unfold headOf; simp only [List.append_assoc]
  unfold rdK
  rw [e, piece_bstr _ _ _ 5 1 (by simp [be_length]) (by simp [be_length]), told_be' _ _ (by omega)]
  omega
theorem form_L (hl : l.length < 65536) : rdL (bstr (formOf a k n r l)) = l.length := by
  have e : formOf a k n r l = (be 4 1213681735 ++ (be 1 1 ++ be 1 k.toNat)) ++ (be 2 l.length ++ ((be 4 n.toNat ++ (be 4 0 ++ (be 8 r.toNat ++ be 4 0))) ++ (be 4 (crcOf (headOf k n r l.length ++ bodyOf a l)).toNat ++ bodyOf a l))) := by
    rw [form_split]; generalize be 4 (crcOf (headOf k n r l.length ++ bodyOf a l)).toNat ++ bodyOf a l = t; unfold headOf; simp only [List.append_assoc]
  unfold rdL
  rw [e, piece_bstr _ _ _ 6 2 (by simp [be_length]) (by simp [be_length]), told_be' _ _ (by omega)]
theorem form_N (hn : 0 ≤ n ∧ n < 4294967296) : (rdN (bstr (formOf a k n r l)) : Int) = n := by
  have e : formOf a k n r l = (be 4 1213681735 ++ (be 1 1 ++ (be 1 k.toNat ++ be 2 l.length))) ++ (be 4 n.toNat ++ ((be 4 0 ++ (be 8 r.toNat ++ be 4 0)) ++ (be 4 (crcOf (headOf k n r l.length ++ bodyOf a l)).toNat ++ bodyOf a l))) := by
    rw [form_split]; generalize be 4 (crcOf (headOf k n r l.length ++ bodyOf a l)).toNat ++ bodyOf a l = t; unfold headOf; simp only [List.append_assoc]
  unfold rdN
  rw [e, piece_bstr _ _ _ 8 4 (by simp [be_length]) (by simp [be_length]), told_be' _ _ (by omega)]
  omega
theorem pow8 (r : Int) (hr : 0 ≤ r ∧ r < 18446744073709551616) : r.toNat < 256 ^ 8 := by
  have h8 : (256 : Nat) ^ 8 = 18446744073709551616 := by decide
  rw [h8]; omega
theorem form_R (hr : 0 ≤ r ∧ r < 18446744073709551616) : (rdR (bstr (formOf a k n r l)) : Int) = r := by
  have e : formOf a k n r l = (be 4 1213681735 ++ (be 1 1 ++ (be 1 k.toNat ++ (be 2 l.length ++ (be 4 n.toNat ++ be 4 0))))) ++ (be 8 r.toNat ++ (be 4 0 ++ (be 4 (crcOf (headOf k n r l.length ++ bodyOf a l)).toNat ++ bodyOf a l))) := by
    rw [form_split]; generalize be 4 (crcOf (headOf k n r l.length ++ bodyOf a l)).toNat ++ bodyOf a l = t; unfold headOf; simp only [List.append_assoc]
  unfold rdR
  rw [e, piece_bstr _ _ _ 16 8 (by simp [be_length]) (by simp [be_length]), told_be' _ _ (pow8 _ hr)]
  omega
theorem form_ext0 (a k n r : Int) (l : List UInt8) : (bstr (formOf a k n r l)).extract 0 28 = bstr (headOf k n r l.length) := by
  rw [form_split]
  have h := extract_bstr [] (headOf k n r l.length) (be 4 (crcOf (headOf k n r l.length ++ bodyOf a l)).toNat ++ bodyOf a l) 0 28 rfl (by rw [head_length])
  rw [List.nil_append] at h
  exact h
theorem form_ext28 (a k n r : Int) (l : List UInt8) : (bstr (formOf a k n r l)).extract 28 32 = bstr (be 4 (crcOf (headOf k n r l.length ++ bodyOf a l)).toNat) := by
  rw [form_split]
  exact extract_bstr _ _ _ 28 32 (head_length ..) (by rw [be_length])
theorem form_ext32 (h : (l.length : Int) ≤ a - 32) (ha : 32 ≤ a) : (bstr (formOf a k n r l)).extract 32 (bstr (formOf a k n r l)).size = bstr (bodyOf a l) := by
  rw [bstr_size, form_length h, form_split, ← List.append_assoc, ← List.append_nil (bodyOf a l)]
  conv => lhs; rw [List.append_nil]
  have := extract_bstr (headOf k n r l.length ++ be 4 (crcOf (headOf k n r l.length ++ bodyOf a l)).toNat) (bodyOf a l) [] 32 a.toNat (by rw [List.length_append, head_length, be_length]) (by rw [body_length h]; omega)
  rw [List.append_nil] at this
  rw [this, List.append_nil]
theorem form_body (a k n r : Int) (l : List UInt8) : (bstr (formOf a k n r l)).extract 32 (32 + l.length) = bstr l := by
  have e : formOf a k n r l = (headOf k n r l.length ++ be 4 (crcOf (headOf k n r l.length ++ bodyOf a l)).toNat) ++ (l ++ List.replicate (a - 32 - l.length).toNat 0) := by
    rw [form_split]
    generalize be 4 (crcOf (headOf k n r l.length ++ bodyOf a l)).toNat = t
    unfold bodyOf
    simp only [List.append_assoc]
  rw [e]
  exact extract_bstr _ _ _ 32 _ (by rw [List.length_append, head_length, be_length]) rfl
end

/-- there and back -/
theorem read_write {a b k n r : Int} {s : ByteArray} (hk : 0 ≤ k ∧ k < 256) (hn : 0 ≤ n ∧ n < 4294967296) (hr : 0 ≤ r ∧ r < 18446744073709551616) (hc : checkI a b k n r s.size = 0) :
    readC a b (writeS a b k n r s) = 0 ∧ (rdK (writeS a b k n r s) : Int) = k ∧ (rdN (writeS a b k n r s) : Int) = n ∧ (rdR (writeS a b k n r s) : Int) = r ∧ rdB (writeS a b k n r s) = s := by
  have hz := checkI_zero hc
  have hp := mayB_page hz.1
  have hW : writeS a b k n r s = bstr (formOf a k n r s.data.toList) := by rw [writeS, if_pos hc]
  have hl : s.data.toList.length = s.size := by rw [Array.length_toList]; rfl
  have hle : (s.data.toList.length : Int) ≤ a - 32 := by rw [hl]; omega
  have hK : (rdK (writeS a b k n r s) : Int) = k := by rw [hW]; exact form_K hk
  have hL : rdL (writeS a b k n r s) = s.size := by rw [hW, form_L (by rw [hl]; omega), hl]
  have hN : (rdN (writeS a b k n r s) : Int) = n := by rw [hW]; exact form_N hn
  have hR : (rdR (writeS a b k n r s) : Int) = r := by rw [hW]; exact form_R hr
  have hB : rdB (writeS a b k n r s) = s := by
    unfold rdB
    rw [hL, ← hl, hW, form_body, bstr_self]
  have hsz : ((writeS a b k n r s).size : Int) = a := by rw [hW, bstr_size, form_length hle]; omega
  have hsum : bstr (sumOf (writeS a b k n r s)) = (writeS a b k n r s).extract 28 32 := by
    unfold sumOf
    rw [hW, form_ext0, form_ext28, form_ext32 hle (by omega)]
    rfl
  refine ⟨?_, hK, hN, hR, hB⟩
  rw [readC, if_neg (by rw [hz.1]; simp), if_neg (by simpa using hsz), if_neg (by simpa using hsum), if_neg (by rw [hL]; omega), if_neg (by rw [hK, hN, hR, hB]; simp)]
end Go.Proofs.Ytfhfeaipdmcekaa
