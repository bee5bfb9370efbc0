/-
  What Parts reads, in plain Lean.
-/
import Derived.Test.YtmjikebbknjahaaTextW
namespace Go.Proofs.Ytmjikebbknjahaa
open Go.RowKit Go.Lib Hw
set_option linter.unusedVariables false

def num4 (a b c d : UInt8) : Nat := a.toNat * 16777216 + b.toNat * 65536 + c.toNat * 256 + d.toNat
theorem num4_be (n : Nat) (h : n < 4294967296) (b0 b1 b2 b3 : UInt8) (hb : be 4 n = [b0, b1, b2, b3]) : num4 b0 b1 b2 b3 = n := by
  obtain ⟨c0, c1, c2, c3, hc, e0, e1, e2, e3⟩ := four_bytes n
  rw [hc] at hb
  simp only [List.cons.injEq, and_true] at hb
  obtain ⟨rfl, rfl, rfl, rfl⟩ := hb
  unfold num4
  omega

/-- the parts behind the tag: `fuel` is at least the bytes' number -/
def parse : Nat → List ByteArray → List UInt8 → Option (List ByteArray)
  | _, acc, [] => some acc
  | f + 1, acc, b0 :: b1 :: b2 :: b3 :: r => bif decide (r.length < num4 b0 b1 b2 b3) then none else parse f (acc ++ [⟨(r.take (num4 b0 b1 b2 b3)).toArray⟩]) (r.drop (num4 b0 b1 b2 b3))
  | _, _, _ => none
theorem parse_nil (f : Nat) (acc : List ByteArray) : parse f acc [] = some acc := by cases f <;> rfl
theorem parse_short (f : Nat) (acc : List ByteArray) (r : List UInt8) (h0 : 0 < r.length) (h : r.length < 4) : parse f acc r = none := by
  match r, h0, h with
  | [a], _, _ => cases f <;> rfl
  | [a, b], _, _ => cases f <;> rfl
  | [a, b, c], _, _ => cases f <;> rfl
theorem parse_more (f : Nat) (acc : List ByteArray) (b0 b1 b2 b3 : UInt8) (r : List UInt8) (h : r.length < num4 b0 b1 b2 b3) : parse (f + 1) acc (b0 :: b1 :: b2 :: b3 :: r) = none := by
  rw [parse, decide_eq_true h]; rfl
theorem parse_go (f : Nat) (acc : List ByteArray) (b0 b1 b2 b3 : UInt8) (r : List UInt8) (h : ¬ r.length < num4 b0 b1 b2 b3) :
    parse (f + 1) acc (b0 :: b1 :: b2 :: b3 :: r) = parse f (acc ++ [⟨(r.take (num4 b0 b1 b2 b3)).toArray⟩]) (r.drop (num4 b0 b1 b2 b3)) := by
  rw [parse, decide_eq_false h]; rfl
theorem parse_parts : ∀ (ss : List ByteArray) (f : Nat) (acc : List ByteArray), (ss.flatMap partL).length ≤ f → (∀ s ∈ ss, s.size < 4294967296) → parse f acc (ss.flatMap partL) = some (acc ++ ss)
  | [], f, acc, _, _ => by rw [List.flatMap_nil, parse_nil, List.append_nil]
  | s :: ss, f, acc, hf, hs => by
    obtain ⟨b0, b1, b2, b3, hb, _⟩ := four_bytes s.size
    have hn := num4_be s.size (hs s (by simp)) _ _ _ _ hb
    have hl := partL_length s
    rw [List.flatMap_cons, List.length_append] at hf
    obtain ⟨g, rfl⟩ : ∃ g, f = g + 1 := ⟨f - 1, by omega⟩
    have e : (s :: ss).flatMap partL = b0 :: b1 :: b2 :: b3 :: (s.data.toList ++ ss.flatMap partL) := by rw [List.flatMap_cons, partL, hb]; rfl
    have hd : s.data.toList.length = num4 b0 b1 b2 b3 := by rw [hn, data_len]
    rw [e, parse_go _ _ _ _ _ _ _ (by rw [List.length_append, hd]; omega), List.take_append_of_le_length (by omega), List.drop_append_of_le_length (by omega), List.take_of_length_le (by omega), List.drop_of_length_le (by omega)]
    have := parse_parts ss g (acc ++ [s]) (by omega) (fun x hx => hs x (by simp [hx]))
    rw [List.append_assoc] at this
    exact this
/-- Parts of a text -/
def partsR (s : ByteArray) : Option (ByteArray × List ByteArray) :=
  match s.data.toList with
  | [] => none
  | n :: r => bif n.toNat == 0 || decide (64 < n.toNat) || decide (r.length < n.toNat) then none else (parse s.size [] (r.drop n.toNat)).map (fun l => (⟨(r.take n.toNat).toArray⟩, l))
theorem partsR_text (tag : ByteArray) (ss : List ByteArray) (ht : badTag tag = false) (hs : ∀ s ∈ ss, s.size < 4294967296) : partsR ⟨(textL tag ss).toArray⟩ = some (tag, ss) := by
  have h0 : ¬ tag.size = 0 := by intro h; simp [badTag, h] at ht
  have h1 : ¬ 64 < tag.size := by intro h; simp [badTag, h] at ht
  have hn : (UInt8.ofNat tag.size).toNat = tag.size := by simp only [UInt8.toNat_ofNat']; omega
  have hz : (ByteArray.mk (textL tag ss).toArray).size = (textL tag ss).length := by simp [ByteArray.size]
  unfold partsR
  show (match textL tag ss with | [] => none | n :: r => _) = _
  rw [hz]
  have e : textL tag ss = UInt8.ofNat tag.size :: (tag.data.toList ++ ss.flatMap partL) := rfl
  rw [e]
  simp only [hn]
  have hl : (tag.data.toList ++ ss.flatMap partL).length = tag.size + (ss.flatMap partL).length := by rw [List.length_append, data_len]
  have hb : (tag.size == 0 || decide (64 < tag.size) || decide ((tag.data.toList ++ ss.flatMap partL).length < tag.size)) = false := by
    rw [hl, decide_eq_false h1, decide_eq_false (by omega)]
    simp [h0]
  have hd := data_len tag
  rw [hb, cond_false, List.take_append_of_le_length (by omega), List.drop_append_of_le_length (by omega), List.take_of_length_le (by omega), List.drop_of_length_le (by omega), List.nil_append]
  rw [parse_parts ss _ [] (by rw [List.length_cons, hl]; omega) hs]
  rfl
end Go.Proofs.Ytmjikebbknjahaa
