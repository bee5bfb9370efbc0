/-
  Byte slices of the call's own; blocks that are known whole.
-/
import Derived.Test.YtkngmnfgdlnddaaProg
import Derived.WalkKit
import Derived.WalkSpells
import Derived.WalkLawsBesides
import Derived.Lib.Hide
import Derived.Deep.AppendLies
import Derived.Deep.RegionHeld3
import Derived.Deep.QuietTactic
import Derived.BigQuiet
import Derived.Deep.DeepFit
import Derived.KernelRfl
namespace Go.Proofs.Ytkngmnfgdlnddaa
open Go.RowKit
set_option linter.unusedVariables false

/-- a byte as a value -/
def bv (b : UInt8) : Value := .int .u8 (b.toNat : Int)
/-- what the call owns: a slice of these bytes -/
def OwnB (w : World) (B : Nat) (v : Value) (bs : List UInt8) : Prop := w.ownsRow B 5 1 v bs.length (bs.map bv)

theorem info_u8 : (Try.prog.info? 5).map (fun i => (i.zero, i.size, i.bytes)) = some (some (.int .u8 0), 1, 1) := by kernel_rfl
theorem maxLen_eq : maxLen = 9223372036854775807 := rfl
theorem bv_one (bs : List UInt8) : ∀ u ∈ bs.map bv, u.oneCell' = true := by
  intro u hu
  obtain ⟨_, _, rfl⟩ := List.mem_map.1 hu
  rfl

theorem OwnB.nil (w : World) (B : Nat) : OwnB w B (.slice none 0 0) [] := World.ownsRow_nil w B _ 1

/-- append(xs, ..) of some bytes that lie at an address -/
theorem wpList_appB {ops : Array Oper} {rest : List Oper} {o : Oper} {a : Act} {Q : Exit → Act → World → Prop} (w : World) (hgd : o.guard = none) (s x : Operand)
    (ho : o.op = .call { callee := .builtin .append, args := #[s, x], argTypes := #[101, 101] })
    (B : Nat) (v : Value) (bs : List UInt8) (hs : a.eval s = v) (hown : OwnB w B v bs) (ad : Addr) (c : Nat) (new : List UInt8) (hx : a.eval x = .slice (some ad) new.length c)
    (hcell : ∀ j (h : j < new.length), w.cell? (ad.add j) = some (bv new[j])) (hm : 0 < new.length) (hlen : bs.length + new.length ≤ 140737488355328) (hB : B ≤ w.heap.size) (H : Nat) (hH : w.heap.size = H)
    (h : ∀ g cap w', OwnB w' B (.slice (some ⟨g, 0, none⟩) (bs.length + new.length) cap) (bs ++ new) → w.grownBy w' v.ownBlock → (v.ownBlock = some g ∨ g = H) → g < w'.heap.size →
      wpList Try.prog ops Q rest (a.put o.dst (.slice (some ⟨g, 0, none⟩) (bs.length + new.length) cap)) w') : wpList Try.prog ops Q (o :: rest) a w := by
  obtain ⟨i, hi, hz0, hz1, hz2⟩ := info_parts info_u8
  refine wpList_append_lies w hgd s x 101 ho B 5 i (.int .u8 0) 1 1 Try.underlying101 hi hz0 hz1 hz2 rfl (by decide) v bs.length (bs.map bv) hs hown ad new.length c (new.map bv) hx (by simp) ?_ (bv_one new) hm (by rw [maxLen_eq]; omega) (by omega) hB H hH ?_
  · intro j u hu
    rw [List.getElem?_map] at hu
    obtain ⟨b, hb, rfl⟩ := Option.map_eq_some_iff.1 hu
    obtain ⟨hj, rfl⟩ := List.getElem?_eq_some_iff.1 hb
    exact hcell j hj
  · intro g cap w' h2 h3 h4 h5
    refine h g cap w' ?_ h3 h4 h5
    unfold OwnB
    rw [List.length_append, List.map_append]
    exact h2

theorem strOf_bytes (bs : List UInt8) : strOfNums (bs.map fun b => (b.toNat : Int)) = ⟨bs.toArray⟩ := by
  unfold strOfNums
  rw [List.map_map]
  have : ((fun n : Int => UInt8.ofNat n.toNat) ∘ fun b : UInt8 => (b.toNat : Int)) = id := by
    funext b; simp
  rw [this, List.map_id]

theorem app_cell1 (w : World) (b : UInt8) (t : TypeId) : ∀ j (h : j < [b].length), (w.alloc (.cells #[.int .u8 (b.toNat : Int)] t)).cell? ((⟨w.heap.size, 0, none⟩ : Addr).add j) = some (bv [b][j]) := by
  intro j h
  have hj : j = 0 := by simpa using h
  subst hj
  exact World.news_of_block (heap_alloc_new w _) 0 _ rfl

/-- a row of bytes read as a string -/
theorem conv_own {w : World} {B : Nat} {v : Value} {bs : List UInt8} (hown : OwnB w B v bs) :
    (convert 101 9 v).run Try.prog w = .ok (.string ⟨bs.toArray⟩) w := by
  have hs := Try.underlying101
  have he := Try.underlying5
  have hd := Try.underlying9
  rcases hown.2 with ⟨rfl, h0⟩ | ⟨g, cap, cur, rfl, _, hg, hn, hc, hsz, ht⟩
  · have : bs = [] := List.eq_nil_of_length_eq_zero h0
    subst this
    have h2 := run_convert_bytes_nil (P := Try.prog) w 101 5 hs he 0 0 9 hd
    rw [h2]
    rfl
  · have hcell : ∀ i, i < bs.length → w.cell? ⟨g, 0 + i, none⟩ = some (.int .u8 ((bs.map fun b => (b.toNat : Int)).getD i 0)) := by
      intro i hi
      have hcells := World.ownsRow.cells (w := w) hown (g := g) rfl i (bv bs[i]) (by simp [hi])
      have hadd : (⟨g, 0, none⟩ : Addr).add i = ⟨g, i, none⟩ := by unfold Addr.add; split <;> simp_all
      rw [hadd] at hcells
      rw [Nat.zero_add, hcells]
      simp [bv, List.getD, hi]
    have h2 := run_convert_bytes_arg (P := Try.prog) w 101 5 hs he g 0 bs.length cap (bs.map fun b => (b.toNat : Int)) (by simp) hcell 9 hd
    rw [h2, strOf_bytes]

/-- make([]byte, n) -/
def zeroRow (n : Nat) : Array Value := madeCells #[.int .u8 0] n
theorem zeroRow_list (n : Nat) : (zeroRow n).toList = (List.replicate n (0 : UInt8)).map bv := by
  unfold zeroRow madeCells
  apply List.ext_getElem
  · simp
  · intro i h1 h2
    simp [Nat.mod_one, bv]
theorem run_makeB (m : Nat) (hm : m ≤ 140737488355328) (w : World) :
    (Instr.makeSlice 101 (.int .i64 (m : Int)) (.int .i64 (m : Int))).run Try.prog w = .ok (.slice (some ⟨w.heap.size, 0, none⟩) m m) (w.alloc (.cells (zeroRow m) 5)) := by
  obtain ⟨i, hi, hz0, hz1, hz2⟩ := info_parts info_u8
  have h := run_make (P := Try.prog) w 101 5 i (.int .u8 0) Try.underlying101 hi hz0 .i64 .i64 (m : Int) (m : Int) (by omega) (by omega) (by rw [hz2]; omega) (by omega)
  rw [h, hz1]
  simp [zeroRow, Value.cells]
theorem OwnB.made (w : World) (B m : Nat) (hB : B ≤ w.heap.size) (hm : m ≤ 140737488355328) : OwnB (w.alloc (.cells (zeroRow m) 5)) B (.slice (some ⟨w.heap.size, 0, none⟩) m m) (List.replicate m 0) := by
  refine ⟨by simp, .inr ⟨w.heap.size, m, zeroRow m, ?_, hB, heap_alloc_new w _, ?_, by rw [maxLen_eq]; omega, ?_, ?_⟩⟩
  · simp
  · simp
  · simp [zeroRow, size_madeCells]
  · rw [zeroRow_list]
    apply List.take_of_length_le
    simp
theorem conv_made (m : Nat) (hm : m ≤ 140737488355328) (w : World) :
    (convert 101 9 (.slice (some ⟨w.heap.size, 0, none⟩) m m)).run Try.prog (w.alloc (.cells (zeroRow m) 5)) = .ok (.string ⟨(List.replicate m (0 : UInt8)).toArray⟩) (w.alloc (.cells (zeroRow m) 5)) :=
  conv_own (OwnB.made w w.heap.size m (Nat.le_refl _) hm)

theorem OwnB.kept {w w' : World} {B : Nat} {v : Value} {bs : List UInt8} {row : Option Nat} (h : OwnB w B v bs) (hg : w.grownBy w' row) (hne : v.ownBlock = none ∨ v.ownBlock ≠ row) : OwnB w' B v bs := World.ownsRow.kept h hg hne
theorem OwnB.alloc {w : World} {B : Nat} {v : Value} {bs : List UInt8} (h : OwnB w B v bs) (o : Obj) : OwnB (w.alloc o) B v bs := World.ownsRow.alloc h o
theorem OwnB.drew {w : World} {B : Nat} {v : Value} {bs : List UInt8} (h : OwnB w B v bs) : OwnB w.drew B v bs := h
theorem OwnB.below {w w' : World} {B C : Nat} {v : Value} {bs : List UInt8} (h : OwnB w B v bs) (hb : Below C w w') (hC : ∀ g, v.ownBlock = some g → g < C) : OwnB w' B v bs := by
  refine ⟨h.1, ?_⟩
  rcases h.2 with h2 | ⟨g, cap, cur, hv, hg, hh, r⟩
  · exact .inl h2
  · refine .inr ⟨g, cap, cur, hv, hg, ?_, r⟩
    rw [hb.block g (hC g (by rw [hv]; rfl))]; exact hh
/-- a store into a block of another type does not touch the row -/
theorem OwnB.setOther {w : World} {B p : Nat} {v : Value} {bs : List UInt8} (h : OwnB w B v bs) {a : Addr} (hne : v.ownBlock ≠ some a.block) (u : Value) : OwnB (w.setCell a u) B v bs := by
  refine ⟨h.1, ?_⟩
  rcases h.2 with h2 | ⟨g, cap, cur, hv, hg, hh, r⟩
  · exact .inl h2
  · refine .inr ⟨g, cap, cur, hv, hg, ?_, r⟩
    have : g ≠ a.block := fun e => hne (by rw [hv]; exact congrArg some e)
    rw [Below.heap_setCell _ _ _ _ this]; exact hh

theorem heap_set {w : World} {b o : Nat} {cs : Array Value} {t : TypeId} {fz : Nat × Nat} (h : w.heap[b]? = some (.cells cs t fz)) (v : Value) :
    (w.setCell ⟨b, o, none⟩ v).heap[b]? = some (.cells (cs.setIfInBounds o v) t fz) := by
  simp only [World.setCell, Array.getElem?_modify, if_true, h, Option.map_some]
  rfl
theorem heap_cell {w : World} {b : Nat} {cs : Array Value} {t : TypeId} {fz : Nat × Nat} (h : w.heap[b]? = some (.cells cs t fz)) (o : Nat) : w.cell? ⟨b, o, none⟩ = cs[o]? := by
  simp [World.cell?, h]
theorem heap_free {w : World} {b : Nat} {cs : Array Value} {t : TypeId} (h : w.heap[b]? = some (.cells cs t (0, 0))) (o : Nat) : w.frozen? ⟨b, o, none⟩ = false := by
  simp [World.frozen?, h]
theorem heap_lt {w : World} {b : Nat} {o : Obj} (h : w.heap[b]? = some o) : b < w.heap.size := by
  rcases Nat.lt_or_ge b w.heap.size with hl | hl
  · exact hl
  · simp [Array.getElem?_eq_none hl] at h
theorem heap_alloc {w : World} {b : Nat} {o o' : Obj} (h : w.heap[b]? = some o) : (w.alloc o').heap[b]? = some o := (Below.heap_alloc w o' b (heap_lt h)).trans h
theorem heap_below {w w' : World} {b B : Nat} {o : Obj} (h : w.heap[b]? = some o) (hb : Below B w w') (hB : b < B) : w'.heap[b]? = some o := (hb.block b hB).trans h
theorem heap_setOther {w : World} {b : Nat} {o : Obj} (h : w.heap[b]? = some o) {a : Addr} (hne : b ≠ a.block) (v : Value) : (w.setCell a v).heap[b]? = some o := by
  rw [Below.heap_setCell _ _ _ _ hne]; exact h
theorem heap_grown {w w' : World} {b : Nat} {o : Obj} {row : Option Nat} (h : w.heap[b]? = some o) (hg : w.grownBy w' row) (hne : some b ≠ row) : w'.heap[b]? = some o := (hg.block b (heap_lt h) hne).trans h
theorem heap_new (w : World) (o : Obj) : (w.alloc o).heap[w.heap.size]? = some o := heap_alloc_new w o

theorem wp_name {P : Program} {c : Code} {Q : Exit → Act → World → Prop} {a : Act} {w : World} (F : World → Prop) (h0 : F w) (h : ∀ W, F W → c.wp P Q a W) : c.wp P Q a w := h w h0
theorem cellB {w1 w2 : World} {B b o : Nat} {v : Value} (hb : Below B w1 w2) (hB : b < B) (h : w1.cell? ⟨b, o, none⟩ = some v) : w2.cell? ⟨b, o, none⟩ = some v := (hb.cell (p := ⟨b, o, none⟩) hB).trans h
theorem cellA {w : World} {a : Addr} {v : Value} {o : Obj} (h : w.cell? a = some v) : (w.alloc o).cell? a = some v :=
  (World.cell?_of_block (w := w) (Below.heap_alloc w o a.block (World.block_lt_of_cell? w a h))).trans h
end Go.Proofs.Ytkngmnfgdlnddaa
