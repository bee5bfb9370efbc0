/-
  Reading hexadecimal digits: plain.
-/
import Derived.Test.YtmjikebbknjahaaShowW
import Derived.Test.YtmjikebbknjahaaNum4
import Derived.Lib.Bytealg
import Derived.Lib.IndexLaws
namespace Go.Proofs.Ytmjikebbknjahaa
open Go.RowKit Go.Lib Hw
set_option linter.unusedVariables false

def un (a : UInt8) : Int := indexByte hexits.data.toList a
theorem un_some {a : UInt8} {p : Nat} (h : un a = (p : Int)) : p < 16 ∧ hexd p = a := by
  have h1 := (indexByte_some h).1
  have hl : p < hexits.data.toList.length := by
    rcases Nat.lt_or_ge p hexits.data.toList.length with h2 | h2
    · exact h2
    · rw [List.getElem?_eq_none h2] at h1; cases h1
  have h16 : p < 16 := hl
  refine ⟨h16, ?_⟩
  rw [← hexits_get p h16]
  rw [List.getElem?_eq_getElem hl, Option.some.injEq] at h1
  exact h1
theorem un_hexd : ∀ p : Fin 16, un (hexd p.val) = (p.val : Int) := by decide +kernel
theorem un_ge (a : UInt8) : -1 ≤ un a := indexByte_ge _ _
/-- the byte of two digits -/
def pairB (a b : UInt8) : Option UInt8 := bif decide (un a < 0) || decide (un b < 0) then none else some (UInt8.ofNat (16 * (un a).toNat + (un b).toNat))
theorem pairB_some {a b x : UInt8} (h : pairB a b = some x) : hex2 x = [a, b] := by
  unfold pairB at h
  by_cases h1 : un a < 0
  · rw [decide_eq_true h1] at h; cases h
  · by_cases h2 : un b < 0
    · rw [decide_eq_true h2, Bool.or_true] at h; cases h
    · rw [decide_eq_false h1, decide_eq_false h2] at h
      have h3 : UInt8.ofNat (16 * (un a).toNat + (un b).toNat) = x := by simpa using h
      obtain ⟨p, hp⟩ : ∃ p : Nat, un a = p := ⟨(un a).toNat, by omega⟩
      obtain ⟨q, hq⟩ : ∃ q : Nat, un b = q := ⟨(un b).toNat, by omega⟩
      obtain ⟨p1, p2⟩ := un_some hp
      obtain ⟨q1, q2⟩ := un_some hq
      rw [hp, hq, Int.toNat_natCast, Int.toNat_natCast] at h3
      have h4 : x.toNat = 16 * p + q := by rw [← h3, UInt8.toNat_ofNat']; omega
      unfold hex2
      rw [h4, show (16 * p + q) / 16 = p by omega, show (16 * p + q) % 16 = q by omega, p2, q2]
theorem pairB_hex2 (c : UInt8) : pairB (hexd (c.toNat / 16)) (hexd (c.toNat % 16)) = some c := by
  have hc := c.toNat_lt
  have e1 := un_hexd ⟨c.toNat / 16, by omega⟩
  have e2 := un_hexd ⟨c.toNat % 16, by omega⟩
  simp only at e1 e2
  unfold pairB
  rw [e1, e2, decide_eq_false (by omega), decide_eq_false (by omega), Int.toNat_natCast, Int.toNat_natCast]
  have : 16 * (c.toNat / 16) + c.toNat % 16 = c.toNat := by omega
  rw [this]
  simp
/-- the bytes of pairs of digits -/
def decL : List UInt8 → Option (List UInt8)
  | [] => some []
  | [_] => none
  | a :: b :: r => match pairB a b, decL r with
    | some x, some l => some (x :: l)
    | _, _ => none
theorem decL_hexL : ∀ l : List UInt8, decL (hexL l) = some l
  | [] => rfl
  | c :: l => by
    have h : hexL (c :: l) = hexd (c.toNat / 16) :: hexd (c.toNat % 16) :: hexL l := rfl
    rw [h, decL, pairB_hex2, decL_hexL l]
theorem decL_some : ∀ {L l : List UInt8}, decL L = some l → L = hexL l
  | [], l, h => by
    rw [decL, Option.some.injEq] at h
    subst h; rfl
  | [a], l, h => by cases h
  | a :: b :: r, l, h => by
    rw [decL] at h
    cases h1 : pairB a b with
    | none => rw [h1] at h; cases h
    | some x =>
      cases h2 : decL r with
      | none => rw [h1, h2] at h; cases h
      | some l2 =>
        rw [h1, h2] at h
        simp only [Option.some.injEq] at h
        subst h
        have h3 := pairB_some h1
        have h4 : hexL (x :: l2) = hex2 x ++ hexL l2 := rfl
        rw [h4, h3, ← decL_some h2]
        rfl
/-- what Read gives: the digest, or none -/
def readV (m : Nat) (L : List UInt8) : Option (List UInt8) := match decL L with
  | some l => bif l.length == m then some l else none
  | none => none
theorem readV_some {m : Nat} {L l : List UInt8} (h : readV m L = some l) : L = hexL l ∧ l.length = m := by
  unfold readV at h
  cases h1 : decL L with
  | none => rw [h1] at h; cases h
  | some l2 =>
    rw [h1] at h
    change (bif l2.length == m then some l2 else none) = some l at h
    by_cases h2 : l2.length = m
    · rw [h2] at h
      simp only [beq_self_eq_true, cond_true, Option.some.injEq] at h
      subst h
      exact ⟨decL_some h1, h2⟩
    · have : (l2.length == m) = false := beq_eq_false_iff_ne.2 h2
      simp only [this, cond_false] at h
      cases h
theorem readV_hexL (l : List UInt8) : readV l.length (hexL l) = some l := by
  unfold readV
  rw [decL_hexL]
  simp
theorem readV_short {m : Nat} {L : List UInt8} (h : L.length ≠ 2 * m) : readV m L = none := by
  cases hr : readV m L with
  | none => rfl
  | some l =>
    obtain ⟨h1, h2⟩ := readV_some hr
    rw [h1, hexL_length] at h
    omega
/-- with the right length the digits decide alone -/
theorem readV_long {m : Nat} {L : List UInt8} (h : L.length = 2 * m) : readV m L = decL L := by
  unfold readV
  cases h1 : decL L with
  | none => rfl
  | some l =>
    have h2 := decL_some h1
    rw [h2, hexL_length] at h
    have : l.length = m := by omega
    simp [this]
def padL (l : List UInt8) : List UInt8 := l ++ List.replicate (32 - l.length) 0
def readD (m : Nat) (L : List UInt8) : List UInt8 := (readV m L).elim zeros32 padL
def readE (m : Nat) (L : List UInt8) : Int := (readV m L).elim 21 (fun _ => 0)
theorem padL_length (l : List UInt8) (h : l.length ≤ 32) : (padL l).length = 32 := by
  unfold padL
  rw [List.length_append, List.length_replicate]
  omega
theorem padL_set (l : List UInt8) (x : UInt8) (h : l.length < 32) : (padL l).set l.length x = padL (l ++ [x]) := by
  unfold padL
  obtain ⟨m, hm⟩ : ∃ m, 32 - l.length = m + 1 := ⟨31 - l.length, by omega⟩
  have e2 : 32 - (l ++ [x]).length = m := by rw [List.length_append, List.length_singleton]; omega
  rw [List.set_append_right _ _ (Nat.le_refl _), Nat.sub_self, hm, e2, List.replicate_succ, List.set_cons_zero, List.append_assoc]
  rfl
theorem readD_length (m : Nat) (L : List UInt8) (hm : m ≤ 32) : (readD m L).length = 32 := by
  unfold readD
  cases h : readV m L with
  | none => rfl
  | some l => exact padL_length l (by have := (readV_some h).2; omega)
theorem pair_bits {p q : Nat} (hp : p < 16) (hq : q < 16) : bits .or .i64 ((p : Int) * 16) (q : Int) = ((16 * p + q : Nat) : Int) := by
  have e : (p : Int) * 16 = ((2 ^ 4 * p : Nat) : Int) := by omega
  rw [e, or_i64 _ _ (by omega) (by omega), or_sum 4 _ _ (by omega)]
end Go.Proofs.Ytmjikebbknjahaa
