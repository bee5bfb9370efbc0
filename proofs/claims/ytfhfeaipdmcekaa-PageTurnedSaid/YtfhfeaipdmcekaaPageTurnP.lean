/-
  The plain law of PageTurned: what was turned within four bytes of one part is refused for its sum.
-/
import Derived.Test.YtfhfeaipdmcekaaPageL4
import Derived.Test.YtfhfeaipdmcekaaBurst
namespace Go.Proofs.Ytfhfeaipdmcekaa
open Go.RowKit Hw

def partN (j : Nat) : Nat := if j < 28 then 0 else if j < 32 then 1 else 2
/-- alike but for what may be turned from the place i on -/
def Near (i : Nat) (x y : List UInt8) : Prop := x.length = y.length ∧ ∀ j, ¬ (i ≤ j ∧ j < i + 4 ∧ partN j = partN i) → x[j]? = y[j]?

theorem bstr_ext (l : List UInt8) (i j : Nat) : ((bstr l).extract i j).data.toList = (l.drop i).take (j - i) := by
  unfold bstr
  rw [ByteArray.data_extract, Array.toList_extract, List.extract_eq_take_drop]
theorem sumOf_bstr (l : List UInt8) : sumOf (bstr l) = be 4 (crcOf (l.take 28 ++ l.drop 32)).toNat := by
  unfold sumOf
  rw [bstr_ext, bstr_ext, bstr_size, List.drop_zero, List.take_of_length_le (i := l.length - 32) (by rw [List.length_drop]; exact Nat.le_refl _)]
theorem cut_parts (l : List UInt8) : l = l.take 28 ++ ((l.drop 28).take 4 ++ l.drop 32) := by
  have : l.drop 32 = (l.drop 28).drop 4 := by rw [List.drop_drop]
  rw [this, List.take_append_drop, List.take_append_drop]
theorem near_take {i : Nat} {x y : List UInt8} (h : Near i x y) (hp : partN i ≠ 0) : x.take 28 = y.take 28 := by
  apply List.ext_getElem?
  intro j
  rw [List.getElem?_take, List.getElem?_take]
  split
  · exact h.2 j (fun hh => hp (by rw [← hh.2.2]; simp [partN]; omega))
  · rfl
theorem near_mid {i : Nat} {x y : List UInt8} (h : Near i x y) (hp : partN i ≠ 1) : (x.drop 28).take 4 = (y.drop 28).take 4 := by
  apply List.ext_getElem?
  intro j
  rw [List.getElem?_take, List.getElem?_take]
  split
  · rw [List.getElem?_drop, List.getElem?_drop]
    exact h.2 _ (fun hh => hp (by rw [← hh.2.2]; unfold partN; rw [if_neg (by omega), if_pos (by omega)]))
  · rfl
theorem near_drop {i : Nat} {x y : List UInt8} (h : Near i x y) (hp : partN i ≠ 2) : x.drop 32 = y.drop 32 := by
  apply List.ext_getElem?
  intro j
  rw [List.getElem?_drop, List.getElem?_drop]
  exact h.2 _ (fun hh => hp (by rw [← hh.2.2]; unfold partN; rw [if_neg (by omega), if_neg (by omega)]))

theorem near_crc {i : Nat} {x y : List UInt8} (h : Near i x y) (h32 : 32 ≤ x.length) (hp : partN i ≠ 1) (hc : crcOf (x.take 28 ++ x.drop 32) = crcOf (y.take 28 ++ y.drop 32)) :
    x.take 28 ++ x.drop 32 = y.take 28 ++ y.drop 32 := by
  have hl := h.1
  have lx : (x.take 28).length = 28 := by rw [List.length_take]; omega
  have ly : (y.take 28).length = 28 := by rw [List.length_take]; omega
  by_cases h0 : i < 28
  · have hp0 : partN i = 0 := by unfold partN; rw [if_pos h0]
    refine crc_near i (by simp only [List.length_append, List.length_take, List.length_drop, hl]) ?_ hc
    intro j hj
    by_cases hj2 : j < 28
    · rw [List.getElem?_append_left (by omega), List.getElem?_append_left (by omega), List.getElem?_take, List.getElem?_take, if_pos hj2, if_pos hj2]
      exact h.2 j (fun hh => by omega)
    · rw [near_drop h (by rw [hp0]; decide), List.getElem?_append_right (by omega), List.getElem?_append_right (by omega), lx, ly]
  · have h1 : ¬ i < 32 := fun hh => hp (by unfold partN; rw [if_neg h0, if_pos hh])
    have hp2 : partN i = 2 := by unfold partN; rw [if_neg h0, if_neg h1]
    refine crc_near (i - 4) (by simp only [List.length_append, List.length_take, List.length_drop, hl]) ?_ hc
    intro j hj
    by_cases hj2 : j < 28
    · rw [near_take h (by rw [hp2]; decide), List.getElem?_append_left (by omega), List.getElem?_append_left (by omega)]
    · rw [List.getElem?_append_right (by omega), List.getElem?_append_right (by omega), lx, ly, List.getElem?_drop, List.getElem?_drop]
      exact h.2 _ (fun hh => by omega)

theorem be4_inj {x y : BitVec 32} (h : be 4 x.toNat = be 4 y.toNat) : x = y := by
  have h1 := congrArg told h
  have hx := x.isLt
  have hy := y.isLt
  rw [told_be' 4 x.toNat (by omega), told_be' 4 y.toNat (by omega)] at h1
  exact BitVec.eq_of_toNat_eq h1

theorem turned_refused {a b : Int} {i : Nat} {x y : List UInt8} (hr : readC a b (bstr x) = 0) (h : Near i y x) (hne : y ≠ x) : readC a b (bstr y) = 52 := by
  obtain ⟨hm, hs, hsum, _⟩ := readC_zero hr
  have hp := mayB_page hm
  rw [bstr_size] at hs
  have hy : y.length = x.length := h.1
  have key : bstr (sumOf (bstr y)) ≠ (bstr y).extract 28 32 := by
    intro e
    have e1 := congrArg (fun s : ByteArray => s.data.toList) e
    have e2 := congrArg (fun s : ByteArray => s.data.toList) hsum
    simp only [bstr_ext, sumOf_bstr, bstr_list] at e1 e2
    have e3 : (32 : Nat) - 28 = 4 := rfl
    rw [e3] at e1 e2
    apply hne
    rw [cut_parts y, cut_parts x]
    by_cases hp1 : partN i = 1
    · have t1 := near_take h (by rw [hp1]; decide)
      have t2 := near_drop h (by rw [hp1]; decide)
      rw [← e1, ← e2, t1, t2]
    · have t1 := near_mid h hp1
      have t2 : crcOf (y.take 28 ++ y.drop 32) = crcOf (x.take 28 ++ x.drop 32) := be4_inj (by rw [e1, e2, t1])
      have t3 := near_crc h (by omega) hp1 t2
      have l1 : (y.take 28).length = (x.take 28).length := by rw [List.length_take, List.length_take, hy]
      have t4 := List.append_inj t3 l1
      rw [t1, t4.1, t4.2]
  unfold readC
  rw [if_neg (by rw [hm]; decide), if_neg (by rw [bstr_size, hy]; simpa using hs), if_pos key]
end Go.Proofs.Ytfhfeaipdmcekaa
