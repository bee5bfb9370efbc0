/-
  What the law PageAlike rests on, in plain words.
-/
import Derived.Test.YtfhfeaipdmcekaaMapP
namespace Go.Proofs.Ytfhfeaipdmcekaa
open Go.RowKit Hw
set_option linter.unusedVariables false

def wrP (a b : Int) (p : Pg) : ByteArray := writeS a b p.k p.n p.r p.s
def blkP (a b : Int) (p : Pg) : Blk := ⟨p.n, wrP a b p, 0⟩
theorem blkFind_in (a b : Int) : ∀ (l : List Pg) (p : Pg), (l.map Pg.n).Nodup → p ∈ l → blkFind p.n (l.map (blkP a b)) = (wrP a b p, 0)
  | [], p, _, h => by simp at h
  | q :: l, p, hn, h => by
    rw [List.map_cons, List.nodup_cons] at hn
    rw [List.map_cons, blkFind]
    by_cases hq : (blkP a b q).no = p.n
    · rw [if_pos hq]
      rcases List.mem_cons.1 h with rfl | h
      · rfl
      · exact absurd (List.mem_map.2 ⟨p, h, hq.symm⟩) hn.1
    · rw [if_neg hq]
      rcases List.mem_cons.1 h with rfl | h
      · exact absurd rfl hq
      · exact blkFind_in a b l p hn.2 h
theorem wr_size {a b : Int} {p : Pg} (hc : ckP a b p = 0) : (wrP a b p).size ≤ 9223372036854775807 := by
  have hz := checkI_zero hc
  have hp := mayB_page hz.1
  have hl : p.s.data.toList.length = p.s.size := by rw [Array.length_toList]; rfl
  have hle : (p.s.data.toList.length : Int) ≤ a - 32 := by rw [hl]; omega
  have hc' : checkI a b p.k p.n p.r p.s.size = 0 := hc
  rw [wrP, writeS, if_pos hc', bstr_size, form_length hle]
  omega
theorem sheet_in {a b : Int} {l : List Pg} {p : Pg} (hn : (l.map Pg.n).Nodup) (hp : p ∈ l) (hok : PgOk p) (hc : ckP a b p = 0) : sheetV a b p.n (l.map (blkP a b)) = .tuple #[.agg #[.int .u8 p.k, .int .u32 p.n, .int .u64 p.r, .string p.s], .int .i64 0] := by
  obtain ⟨h1, h2, h3, h4, h5⟩ := read_write hok.1 hok.2.1 hok.2.2.1 hc
  have hz := checkI_zero hc
  have hnm : namedB p.n = true := by simp [namedB]; omega
  have hO : openC a b p.n (wrP a b p) = 0 := by
    unfold openC wrP
    rw [if_neg (by rw [h3]; simp), h1]
  rw [sheetV, if_neg (by rw [hnm]; decide), blkFind_in a b l p hn hp, if_neg (by simp), openV, hO, if_pos rfl]
  unfold wrP
  rw [h2, h3, h4, h5]
theorem nodup_le : ∀ (N : Nat) (l : List Int), l.Nodup → (∀ x ∈ l, 0 ≤ x ∧ x < (N : Int)) → l.length ≤ N
  | 0, [], _, _ => Nat.le_refl _
  | 0, x :: l, _, h => by have := h x (by simp); omega
  | N + 1, l, hn, h => by
    by_cases hm : (N : Int) ∈ l
    · have h1 := nodup_le N (l.erase (N : Int)) (hn.erase _) (fun x hx => by
        obtain ⟨h2, h3⟩ := (List.Nodup.mem_erase_iff hn).1 hx
        have := h x h3
        omega)
      rw [List.length_erase_of_mem hm] at h1
      omega
    · have h1 := nodup_le N l hn (fun x hx => by
        have h2 := h x hx
        have h3 : x ≠ (N : Int) := fun e => hm (e ▸ hx)
        omega)
      omega
end Go.Proofs.Ytfhfeaipdmcekaa
