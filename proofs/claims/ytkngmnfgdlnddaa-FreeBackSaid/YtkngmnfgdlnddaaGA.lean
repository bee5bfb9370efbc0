/-
  What every law's frame asks of this seat's program; views of plain parameters. Views that take the arguments' weights, or the bulk, into account. Byte slices of the call's own; blocks that are known whole. Numbers as bytes, the highest first: plain. The walks of package pack: width, New, Put, String; page.four. Printed by wip/mk_pack.py. Plain facts about the CRC's register: no program in sight. The walks of package pack's Reader: Open, dead, Left, Raw, Take (where enough bytes are left). Printed by wip/mk_read.py. The walks of page.May, the reference's May, the laws' plain; the law PageMay. Worlds that differ in one block at most. Worlds that differ in some blocks. Rows of numbers (uint32): such as are read, and such as are the call's own.
-/
import Derived.Test.YtkngmnfgdlnddaaRows
import Derived.WalkKit
import Derived.ProofKit
import Derived.OpenShut
import Derived.ShutString
import Derived.ChangeOld
import Derived.Below
import Derived.SizedLaws
import Derived.Lib.SmallJoins
import Derived.Deep.Slices
import Derived.Deep.Strs
import Derived.Test.YtkngmnfgdlnddaaProg
import Derived.WalkSpells
import Derived.WalkLawsBesides
import Derived.Lib.Hide
import Derived.Deep.AppendLies
import Derived.Deep.RegionHeld3
import Derived.Deep.QuietTactic
import Derived.BigQuiet
import Derived.Deep.DeepFit
import Derived.KernelRfl
import Derived.Laws.BitsLemmas
import Derived.StillTailTactics
import Derived.Deep.CutRange
import Derived.Deep.DeepCutAuto
import Derived.Deep.RegionWith
import Derived.Deep.MidRow
import Derived.Maps.AppendAt
set_option linter.unusedSimpArgs false
set_option linter.unusedVariables false
namespace Go.Proofs.Ytkngmnfgdlnddaa
theorem nA {α : Type _} (l : List α) (i : Nat) (a : α) : l.toArray.setIfInBounds i a = (l.set i a).toArray := List.setIfInBounds_toArray ..
theorem nB {α : Type _} (x : α) (l : List α) (a : α) : (x :: l).set 0 a = a :: l := rfl
theorem nC {α : Type _} (x : α) (l : List α) (n : Nat) (a : α) : (x :: l).set (n + 1) a = x :: l.set n a := rfl
open Go.ChangeShapes Go.WideShapes Go.ChangeAt Go.RowKit Go.Joins
open Go.ChangeMaps (open_string shut_string)

theorem own : ownKnob Try.prog.godebug = none := by kernel_rfl
theorem laidOut : laidOutB Try.prog = true := by kernel_rfl

section
variable {H : Type} {enc : TypeId × Value → H} {W : World} {base : Nat} {sp : Nat → Bool} {b1 : Nat} {held : Bool}

theorem wf_i64_bd {n : Int} (h : (Lit.int .i64 n).wf = true) : -9223372036854775808 ≤ n ∧ n ≤ 9223372036854775807 := by
  simpa [Lit.wf, IntKind.min, IntKind.max, IntKind.signed, IntKind.bits] using h
theorem wf_u32_bd {n : Int} (h : (Lit.int .u32 n).wf = true) : 0 ≤ n ∧ n < 4294967296 := by
  have h' : 0 ≤ n ∧ n ≤ 4294967295 := by simpa [Lit.wf, IntKind.min, IntKind.max, IntKind.signed, IntKind.bits] using h
  omega
theorem wf_u8_bd {n : Int} (h : (Lit.int .u8 n).wf = true) : 0 ≤ n ∧ n < 256 := by
  have h' : 0 ≤ n ∧ n ≤ 255 := by simpa [Lit.wf, IntKind.min, IntKind.max, IntKind.signed, IntKind.bits] using h
  omega
theorem wf_u64_bd {n : Int} (h : (Lit.int .u64 n).wf = true) : 0 ≤ n ∧ n < 18446744073709551616 := by
  have h' : 0 ≤ n ∧ n ≤ 18446744073709551615 := by simpa [Lit.wf, IntKind.min, IntKind.max, IntKind.signed, IntKind.bits] using h
  omega

def IsI64 (v : Value) : Prop := ∃ a, v = .int .i64 a ∧ -9223372036854775808 ≤ a ∧ a ≤ 9223372036854775807
def IsU32 (v : Value) : Prop := ∃ a, v = .int .u32 a ∧ 0 ≤ a ∧ a < 4294967296
def IsStr (v : Value) : Prop := ∃ s, v = .string s ∧ s.size ≤ 9223372036854775807

set_option maxRecDepth 100000 in
theorem view_i64 {v : Value} {d : DataW H} {p : List MemPlace} (hv : Value.okWide Try.prog W .any b1 3 v) (h : DataW.Trod enc Try.prog W base sp held 3 v d p) : IsI64 v := by
  obtain ⟨a, rfl, rfl, rfl, wa⟩ := open_int Try.underlying3 hv h
  exact ⟨a, rfl, wf_i64_bd wa⟩
set_option maxRecDepth 100000 in
theorem view_u32 {v : Value} {d : DataW H} {p : List MemPlace} (hv : Value.okWide Try.prog W .any b1 27 v) (h : DataW.Trod enc Try.prog W base sp held 27 v d p) : IsU32 v := by
  obtain ⟨a, rfl, rfl, rfl, wa⟩ := open_int Try.underlying27 hv h
  exact ⟨a, rfl, wf_u32_bd wa⟩
set_option maxRecDepth 100000 in
theorem view_str {v : Value} {d : DataW H} {p : List MemPlace} (hv : Value.okWide Try.prog W .any b1 9 v) (h : DataW.Trod enc Try.prog W base sp held 9 v d p) : IsStr v := by
  obtain ⟨s, rfl, rfl, rfl, hs⟩ := open_string Try.underlying9 hv h
  exact ⟨s, rfl, hs⟩

def IsFrame (v : Value) : Prop := ∃ a b, v = .agg #[.int .i64 a, .int .i64 b] ∧ (-9223372036854775808 ≤ a ∧ a ≤ 9223372036854775807) ∧ (-9223372036854775808 ≤ b ∧ b ≤ 9223372036854775807)
theorem cells_Frame : Try.prog.cellsOf 23 = 2 := by kernel_rfl
set_option maxRecDepth 100000 in
theorem view_Frame {v : Value} {d : DataW H} {p : List MemPlace} (hv : Value.okWide Try.prog W .any b1 23 v) (h : DataW.Trod enc Try.prog W base sp held 23 v d p) : IsFrame v := by
  obtain ⟨c0, c1, y0, y1, m, rfl, rfl, rfl, hy0, hy1⟩ := open_agg2 Try.underlying23 (by kernel_rfl) cells_Frame hv h
  obtain ⟨a, e0, _, wa⟩ := DataW.trod_int Try.underlying3 hy0
  obtain ⟨b, e1, _, wb⟩ := DataW.trod_int Try.underlying3 hy1
  simp at e0 e1
  subst e0 e1
  exact ⟨a, b, rfl, wf_i64_bd wa, wf_i64_bd wb⟩
def IsPage (v : Value) : Prop := ∃ k n r s, v = .agg #[.int .u8 k, .int .u32 n, .int .u64 r, .string s] ∧ (0 ≤ k ∧ k < 256) ∧ (0 ≤ n ∧ n < 4294967296) ∧ (0 ≤ r ∧ r < 18446744073709551616) ∧ s.size ≤ 9223372036854775807
theorem cells_Page : Try.prog.cellsOf 97 = 4 := by kernel_rfl
set_option maxRecDepth 100000 in
theorem view_Page {v : Value} {d : DataW H} {p : List MemPlace} (hv : Value.okWide Try.prog W .any b1 97 v) (h : DataW.Trod enc Try.prog W base sp held 97 v d p) : IsPage v := by
  obtain ⟨c0, c1, c2, c3, y0, y1, y2, y3, m, rfl, rfl, rfl, hy0, hy1, hy2, hy3⟩ := open_agg4 Try.underlying97 (by kernel_rfl) cells_Page hv h
  obtain ⟨a, e0, _, wa⟩ := DataW.trod_int Try.underlying95 hy0
  obtain ⟨b, e1, _, wb⟩ := DataW.trod_int Try.underlying27 hy1
  obtain ⟨c, e2, _, wc⟩ := DataW.trod_int Try.underlying92 hy2
  obtain ⟨s, e3, _, ws⟩ := DataW.trod_string Try.underlying9 hy3
  simp at e0 e1 e2 e3
  subst e0 e1 e2 e3
  exact ⟨a, b, c, s, rfl, wf_u8_bd wa, wf_u32_bd wb, wf_u64_bd wc, by simpa [Lit.wf, maxLen] using ws⟩
end
end Go.Proofs.Ytkngmnfgdlnddaa

namespace Go.Proofs.Ytkngmnfgdlnddaa
open Go.ChangeShapes Go.WideShapes Go.ChangeAt Go.RowKit Go.Joins Go.Deep
open Go.ChangeMaps (open_string shut_string)

theorem weights_get {H : Type} {n : Nat} : ∀ (i : Nat) (ts : List TypeId) (ds : List (DataW H)) (t : TypeId) (d : DataW H), (DataW.weightsEach Try.prog ts ds).all (· ≤ n) = true → ts[i]? = some t → ds[i]? = some d → (d.weights Try.prog t).all (· ≤ n) = true
  | 0, t' :: ts, d' :: ds, t, d, h, ht, hd => by
    simp only [List.getElem?_cons_zero, Option.some.injEq] at ht hd
    subst ht hd
    rw [DataW.weightsEach, List.all_append] at h
    exact (Bool.and_eq_true _ _ ▸ h).1
  | i + 1, t' :: ts, d' :: ds, t, d, h, ht, hd => by
    rw [DataW.weightsEach, List.all_append] at h
    exact weights_get i ts ds t d (Bool.and_eq_true _ _ ▸ h).2 (by simpa using ht) (by simpa using hd)
  | _, [], _, _, _, _, ht, _ => by simp at ht
  | _, _ :: _, [], _, _, _, _, hd => by simp at hd

section
variable {H : Type} {enc : TypeId × Value → H} {W : World} {base : Nat} {sp : Nat → Bool} {b1 : Nat} {held : Bool}
def IsStrZ (v : Value) : Prop := ∃ s, v = .string s ∧ s.size ≤ 140737488355328
def IsStrR (v : Value) : Prop := ∃ s, v = .string s ∧ s.size ≤ 140737488351232
set_option maxRecDepth 100000 in
theorem view_strR_sz {v : Value} {d : DataW H} {p : List MemPlace} (hz : (d.weights Try.prog 9).all (· ≤ reachBytes) = true) (hv : Value.okWide Try.prog W .any b1 9 v) (h : DataW.Trod enc Try.prog W base sp held 9 v d p) : IsStrR v := by
  obtain ⟨s, rfl, rfl, rfl, hs⟩ := open_string Try.underlying9 hv h
  refine ⟨s, rfl, ?_⟩
  have hz' : s.data.toList.length ≤ reachBytes := by
    rw [DataW.weights] at hz
    simpa only [List.all_cons, List.all_nil, Bool.and_true, decide_eq_true_eq] using hz
  rw [Array.length_toList] at hz'
  have h1 : s.data.size = s.size := rfl
  have h2 : reachBytes = 140737488351232 := rfl
  omega
set_option maxRecDepth 100000 in
theorem view_str_sz {v : Value} {d : DataW H} {p : List MemPlace} (hz : (d.weights Try.prog 9).all (· ≤ reachBytes) = true) (hv : Value.okWide Try.prog W .any b1 9 v) (h : DataW.Trod enc Try.prog W base sp held 9 v d p) : IsStrZ v := by
  obtain ⟨s, rfl, rfl, rfl, hs⟩ := open_string Try.underlying9 hv h
  refine ⟨s, rfl, ?_⟩
  have hz' : s.data.toList.length ≤ reachBytes := by
    rw [DataW.weights] at hz
    simpa only [List.all_cons, List.all_nil, Bool.and_true, decide_eq_true_eq] using hz
  rw [Array.length_toList] at hz'
  have h1 : s.data.size = s.size := rfl
  have h2 : reachBytes = 140737488351232 := rfl
  omega
end
end Go.Proofs.Ytkngmnfgdlnddaa

namespace Go.Proofs.Ytkngmnfgdlnddaa
open Go.RowKit
set_option linter.unusedVariables false

/-- a byte as a value -/
def bv (b : UInt8) : Value := .int .u8 (b.toNat : Int)
/-- what the call owns: a slice of these bytes -/
def OwnB (w : World) (B : Nat) (v : Value) (bs : List UInt8) : Prop := w.ownsRow B 5 1 v bs.length (bs.map bv)

theorem info_u8 : (Try.prog.info? 5).map (fun i => (i.zero, i.size, i.bytes)) = some (some (.int .u8 0), 1, 1) := by kernel_rfl
theorem maxLen_eq : maxLen = 9223372036854775807 := rfl
theorem bv_one (bs : List UInt8) : ∀ u ∈ bs.map bv, u.oneCell' = true := by
  intro u hu
  obtain ⟨_, _, rfl⟩ := List.mem_map.1 hu
  rfl

theorem OwnB.nil (w : World) (B : Nat) : OwnB w B (.slice none 0 0) [] := World.ownsRow_nil w B _ 1

/-- append(xs, ..) of some bytes that lie at an address -/
theorem wpList_appB {ops : Array Oper} {rest : List Oper} {o : Oper} {a : Act} {Q : Exit → Act → World → Prop} (w : World) (hgd : o.guard = none) (s x : Operand)
    (ho : o.op = .call { callee := .builtin .append, args := #[s, x], argTypes := #[101, 101] })
    (B : Nat) (v : Value) (bs : List UInt8) (hs : a.eval s = v) (hown : OwnB w B v bs) (ad : Addr) (c : Nat) (new : List UInt8) (hx : a.eval x = .slice (some ad) new.length c)
    (hcell : ∀ j (h : j < new.length), w.cell? (ad.add j) = some (bv new[j])) (hm : 0 < new.length) (hlen : bs.length + new.length ≤ 140737488355328) (hB : B ≤ w.heap.size) (H : Nat) (hH : w.heap.size = H)
    (h : ∀ g cap w', OwnB w' B (.slice (some ⟨g, 0, none⟩) (bs.length + new.length) cap) (bs ++ new) → w.grownBy w' v.ownBlock → (v.ownBlock = some g ∨ g = H) → g < w'.heap.size →
      wpList Try.prog ops Q rest (a.put o.dst (.slice (some ⟨g, 0, none⟩) (bs.length + new.length) cap)) w') : wpList Try.prog ops Q (o :: rest) a w := by
  obtain ⟨i, hi, hz0, hz1, hz2⟩ := info_parts info_u8
  refine wpList_append_lies w hgd s x 101 ho B 5 i (.int .u8 0) 1 1 Try.underlying101 hi hz0 hz1 hz2 rfl (by decide) v bs.length (bs.map bv) hs hown ad new.length c (new.map bv) hx (by simp) ?_ (bv_one new) hm (by rw [maxLen_eq]; omega) (by omega) hB H hH ?_
  · intro j u hu
    rw [List.getElem?_map] at hu
    obtain ⟨b, hb, rfl⟩ := Option.map_eq_some_iff.1 hu
    obtain ⟨hj, rfl⟩ := List.getElem?_eq_some_iff.1 hb
    exact hcell j hj
  · intro g cap w' h2 h3 h4 h5
    refine h g cap w' ?_ h3 h4 h5
    unfold OwnB
    rw [List.length_append, List.map_append]
    exact h2

theorem strOf_bytes (bs : List UInt8) : strOfNums (bs.map fun b => (b.toNat : Int)) = ⟨bs.toArray⟩ := by
  unfold strOfNums
  rw [List.map_map]
  have : ((fun n : Int => UInt8.ofNat n.toNat) ∘ fun b : UInt8 => (b.toNat : Int)) = id := by
    funext b; simp
  rw [this, List.map_id]

theorem app_cell1 (w : World) (b : UInt8) (t : TypeId) : ∀ j (h : j < [b].length), (w.alloc (.cells #[.int .u8 (b.toNat : Int)] t)).cell? ((⟨w.heap.size, 0, none⟩ : Addr).add j) = some (bv [b][j]) := by
  intro j h
  have hj : j = 0 := by simpa using h
  subst hj
  exact World.news_of_block (heap_alloc_new w _) 0 _ rfl

/-- a row of bytes read as a string -/
theorem conv_own {w : World} {B : Nat} {v : Value} {bs : List UInt8} (hown : OwnB w B v bs) :
    (convert 101 9 v).run Try.prog w = .ok (.string ⟨bs.toArray⟩) w := by
  have hs := Try.underlying101
  have he := Try.underlying5
  have hd := Try.underlying9
  rcases hown.2 with ⟨rfl, h0⟩ | ⟨g, cap, cur, rfl, _, hg, hn, hc, hsz, ht⟩
  · have : bs = [] := List.eq_nil_of_length_eq_zero h0
    subst this
    have h2 := run_convert_bytes_nil (P := Try.prog) w 101 5 hs he 0 0 9 hd
    rw [h2]
    rfl
  · have hcell : ∀ i, i < bs.length → w.cell? ⟨g, 0 + i, none⟩ = some (.int .u8 ((bs.map fun b => (b.toNat : Int)).getD i 0)) := by
      intro i hi
      have hcells := World.ownsRow.cells (w := w) hown (g := g) rfl i (bv bs[i]) (by simp [hi])
      have hadd : (⟨g, 0, none⟩ : Addr).add i = ⟨g, i, none⟩ := by unfold Addr.add; split <;> simp_all
      rw [hadd] at hcells
      rw [Nat.zero_add, hcells]
      simp [bv, List.getD, hi]
    have h2 := run_convert_bytes_arg (P := Try.prog) w 101 5 hs he g 0 bs.length cap (bs.map fun b => (b.toNat : Int)) (by simp) hcell 9 hd
    rw [h2, strOf_bytes]

/-- make([]byte, n) -/
def zeroRow (n : Nat) : Array Value := madeCells #[.int .u8 0] n
theorem zeroRow_list (n : Nat) : (zeroRow n).toList = (List.replicate n (0 : UInt8)).map bv := by
  unfold zeroRow madeCells
  apply List.ext_getElem
  · simp
  · intro i h1 h2
    simp [Nat.mod_one, bv]
theorem run_makeB (m : Nat) (hm : m ≤ 140737488355328) (w : World) :
    (Instr.makeSlice 101 (.int .i64 (m : Int)) (.int .i64 (m : Int))).run Try.prog w = .ok (.slice (some ⟨w.heap.size, 0, none⟩) m m) (w.alloc (.cells (zeroRow m) 5)) := by
  obtain ⟨i, hi, hz0, hz1, hz2⟩ := info_parts info_u8
  have h := run_make (P := Try.prog) w 101 5 i (.int .u8 0) Try.underlying101 hi hz0 .i64 .i64 (m : Int) (m : Int) (by omega) (by omega) (by rw [hz2]; omega) (by omega)
  rw [h, hz1]
  simp [zeroRow, Value.cells]
theorem OwnB.made (w : World) (B m : Nat) (hB : B ≤ w.heap.size) (hm : m ≤ 140737488355328) : OwnB (w.alloc (.cells (zeroRow m) 5)) B (.slice (some ⟨w.heap.size, 0, none⟩) m m) (List.replicate m 0) := by
  refine ⟨by simp, .inr ⟨w.heap.size, m, zeroRow m, ?_, hB, heap_alloc_new w _, ?_, by rw [maxLen_eq]; omega, ?_, ?_⟩⟩
  · simp
  · simp
  · simp [zeroRow, size_madeCells]
  · rw [zeroRow_list]
    apply List.take_of_length_le
    simp
theorem conv_made (m : Nat) (hm : m ≤ 140737488355328) (w : World) :
    (convert 101 9 (.slice (some ⟨w.heap.size, 0, none⟩) m m)).run Try.prog (w.alloc (.cells (zeroRow m) 5)) = .ok (.string ⟨(List.replicate m (0 : UInt8)).toArray⟩) (w.alloc (.cells (zeroRow m) 5)) :=
  conv_own (OwnB.made w w.heap.size m (Nat.le_refl _) hm)

theorem OwnB.kept {w w' : World} {B : Nat} {v : Value} {bs : List UInt8} {row : Option Nat} (h : OwnB w B v bs) (hg : w.grownBy w' row) (hne : v.ownBlock = none ∨ v.ownBlock ≠ row) : OwnB w' B v bs := World.ownsRow.kept h hg hne
theorem OwnB.alloc {w : World} {B : Nat} {v : Value} {bs : List UInt8} (h : OwnB w B v bs) (o : Obj) : OwnB (w.alloc o) B v bs := World.ownsRow.alloc h o
theorem OwnB.drew {w : World} {B : Nat} {v : Value} {bs : List UInt8} (h : OwnB w B v bs) : OwnB w.drew B v bs := h
theorem OwnB.below {w w' : World} {B C : Nat} {v : Value} {bs : List UInt8} (h : OwnB w B v bs) (hb : Below C w w') (hC : ∀ g, v.ownBlock = some g → g < C) : OwnB w' B v bs := by
  refine ⟨h.1, ?_⟩
  rcases h.2 with h2 | ⟨g, cap, cur, hv, hg, hh, r⟩
  · exact .inl h2
  · refine .inr ⟨g, cap, cur, hv, hg, ?_, r⟩
    rw [hb.block g (hC g (by rw [hv]; rfl))]; exact hh
/-- a store into a block of another type does not touch the row -/
theorem OwnB.setOther {w : World} {B p : Nat} {v : Value} {bs : List UInt8} (h : OwnB w B v bs) {a : Addr} (hne : v.ownBlock ≠ some a.block) (u : Value) : OwnB (w.setCell a u) B v bs := by
  refine ⟨h.1, ?_⟩
  rcases h.2 with h2 | ⟨g, cap, cur, hv, hg, hh, r⟩
  · exact .inl h2
  · refine .inr ⟨g, cap, cur, hv, hg, ?_, r⟩
    have : g ≠ a.block := fun e => hne (by rw [hv]; exact congrArg some e)
    rw [Below.heap_setCell _ _ _ _ this]; exact hh

theorem heap_set {w : World} {b o : Nat} {cs : Array Value} {t : TypeId} {fz : Nat × Nat} (h : w.heap[b]? = some (.cells cs t fz)) (v : Value) :
    (w.setCell ⟨b, o, none⟩ v).heap[b]? = some (.cells (cs.setIfInBounds o v) t fz) := by
  simp only [World.setCell, Array.getElem?_modify, if_true, h, Option.map_some]
  rfl
theorem heap_cell {w : World} {b : Nat} {cs : Array Value} {t : TypeId} {fz : Nat × Nat} (h : w.heap[b]? = some (.cells cs t fz)) (o : Nat) : w.cell? ⟨b, o, none⟩ = cs[o]? := by
  simp [World.cell?, h]
theorem heap_free {w : World} {b : Nat} {cs : Array Value} {t : TypeId} (h : w.heap[b]? = some (.cells cs t (0, 0))) (o : Nat) : w.frozen? ⟨b, o, none⟩ = false := by
  simp [World.frozen?, h]
theorem heap_lt {w : World} {b : Nat} {o : Obj} (h : w.heap[b]? = some o) : b < w.heap.size := by
  rcases Nat.lt_or_ge b w.heap.size with hl | hl
  · exact hl
  · simp [Array.getElem?_eq_none hl] at h
theorem heap_alloc {w : World} {b : Nat} {o o' : Obj} (h : w.heap[b]? = some o) : (w.alloc o').heap[b]? = some o := (Below.heap_alloc w o' b (heap_lt h)).trans h
theorem heap_below {w w' : World} {b B : Nat} {o : Obj} (h : w.heap[b]? = some o) (hb : Below B w w') (hB : b < B) : w'.heap[b]? = some o := (hb.block b hB).trans h
theorem heap_setOther {w : World} {b : Nat} {o : Obj} (h : w.heap[b]? = some o) {a : Addr} (hne : b ≠ a.block) (v : Value) : (w.setCell a v).heap[b]? = some o := by
  rw [Below.heap_setCell _ _ _ _ hne]; exact h
theorem heap_grown {w w' : World} {b : Nat} {o : Obj} {row : Option Nat} (h : w.heap[b]? = some o) (hg : w.grownBy w' row) (hne : some b ≠ row) : w'.heap[b]? = some o := (hg.block b (heap_lt h) hne).trans h
theorem heap_new (w : World) (o : Obj) : (w.alloc o).heap[w.heap.size]? = some o := heap_alloc_new w o

theorem wp_name {P : Program} {c : Code} {Q : Exit → Act → World → Prop} {a : Act} {w : World} (F : World → Prop) (h0 : F w) (h : ∀ W, F W → c.wp P Q a W) : c.wp P Q a w := h w h0
theorem cellB {w1 w2 : World} {B b o : Nat} {v : Value} (hb : Below B w1 w2) (hB : b < B) (h : w1.cell? ⟨b, o, none⟩ = some v) : w2.cell? ⟨b, o, none⟩ = some v := (hb.cell (p := ⟨b, o, none⟩) hB).trans h
theorem cellA {w : World} {a : Addr} {v : Value} {o : Obj} (h : w.cell? a = some v) : (w.alloc o).cell? a = some v :=
  (World.cell?_of_block (w := w) (Below.heap_alloc w o a.block (World.block_lt_of_cell? w a h))).trans h
end Go.Proofs.Ytkngmnfgdlnddaa

namespace Hw
/-- the k bytes of a number, the highest first -/
def be : Nat → Nat → List UInt8
  | 0, _ => []
  | k + 1, n => be k (n / 256) ++ [UInt8.ofNat (n % 256)]
theorem be_length (k n : Nat) : (be k n).length = k := by
  induction k generalizing n with
  | zero => rfl
  | succ k ih => simp [be, ih]
/-- byte j of k, the highest first -/
theorem be_get (k n j : Nat) (h : j < k) : (be k n)[j]? = some (UInt8.ofNat (n / 256 ^ (k - 1 - j) % 256)) := by
  induction k generalizing n with
  | zero => omega
  | succ k ih =>
    simp only [be]
    by_cases hj : j < k
    · rw [List.getElem?_append_left (by rw [be_length]; exact hj), ih _ hj]
      have : k + 1 - 1 - j = (k - 1 - j) + 1 := by omega
      rw [this, Nat.pow_succ, Nat.mul_comm, Nat.div_div_eq_div_mul]
    · obtain rfl : j = k := by omega
      rw [List.getElem?_append_right (by rw [be_length]; exact Nat.le_refl _), be_length]
      simp
theorem be_take_succ (k n j : Nat) (h : j < k) : (be k n).take (j + 1) = (be k n).take j ++ [UInt8.ofNat (n / 256 ^ (k - 1 - j) % 256)] := by
  rw [List.take_add_one, be_get k n j h]; rfl
/-- the byte that a shift and a cut give -/
theorem byte_of (n : Int) (h0 : 0 ≤ n) (j : Nat) : n / 2 ^ (8 * j) % 256 = ((UInt8.ofNat (n.toNat / 256 ^ j % 256)).toNat : Int) := by
  obtain ⟨m, rfl⟩ := Int.eq_ofNat_of_zero_le h0
  have h1 : (2 : Nat) ^ (8 * j) = 256 ^ j := by rw [Nat.pow_mul]
  have h2 : ((2 : Int) ^ (8 * j)) = (((2 : Nat) ^ (8 * j) : Nat) : Int) := by simp
  rw [h2, h1]
  simp only [Int.toNat_natCast, UInt8.toNat_ofNat']
  have h3 : m / 256 ^ j % 256 % 2 ^ 8 = m / 256 ^ j % 256 := by omega
  rw [h3]
  simp
theorem byte_of1 (n : Int) (h0 : 0 ≤ n ∧ n < 256) (j : Nat) (hj : j = 0) : n / 2 ^ (8 * j) = ((UInt8.ofNat (n.toNat / 256 ^ j % 256)).toNat : Int) := by
  rw [← byte_of n h0.1, hj]
  simp
  omega
end Hw

namespace Go.Proofs.Ytkngmnfgdlnddaa
open Go.RowKit Hw
set_option linter.unusedVariables false

theorem width_step_u32 (k : Nat) (h : k < 32) : ((2 : Int) ^ k % 4294967296 != 0) = true ∧ ((2 : Int) ^ k % 4294967296) * 2 % 4294967296 = 2 ^ (k + 1) % 4294967296 := by
  have h2 : (2 : Int) ^ (k + 1) = 2 ^ k * 2 := by rw [Int.pow_succ]
  have h3 : (2 : Int) ^ k ≤ 2 ^ 31 := by exact_mod_cast Nat.pow_le_pow_right (by decide) (by omega)
  have h4 : (0 : Int) < 2 ^ k := by exact_mod_cast Nat.two_pow_pos k
  have h5 : (2 : Int) ^ 31 = 2147483648 := by decide
  rw [h5] at h3
  rw [h2]
  generalize (2 : Int) ^ k = x at *
  constructor
  · rw [bne_iff_ne]; omega
  · omega
set_option maxHeartbeats 1000000 in
theorem width_uint32 (w : World) : Calls Try.prog 80 #[] w fun e w' => e = .returned (.int .i64 4) ∧ w = w' := by
  go_enter Try.func80, Try.ntmps80
  go_wp2
  go_loop [1, 2] (fun n x => ∃ (k : Nat) (X : Int), k ≤ 32 ∧ Hid (X = (2 : Int) ^ k % 4294967296) ∧ n = .int .i64 k ∧ x = .int .u32 X) (fun n _ => 32 - (intOf n).toNat)
  case atStart => exact ⟨0, 1, by omega, by show _ = _; decide, rfl, rfl⟩
  case round =>
    obtain ⟨k, X, hk, HX, rfl, rfl⟩ := hrel
    by_cases hlt : k < 32
    · have hs := width_step_u32 k hlt
      rw [← HX.out] at hs
      have h1 := hs.1
      have H2 := Lib.hid hs.2
      clear hs
      go_wp2
      go_round
      case rel => exact ⟨k + 1, _, by omega, H2.out, by go_num, by first | rfl | (simp [IntKind.wrap, IntKind.bits, IntKind.signed])⟩
      case measure => simp [intOf]; omega
    · obtain rfl : k = 32 := by omega
      obtain rfl : X = 0 := by rw [HX.out]; decide
      go_wp2
      go_ret
      exact ⟨rfl, rfl⟩

set_option maxHeartbeats 1000000 in
theorem New_any (w : World) : Calls Try.prog 60 #[] w fun e w' => e = .returned (.pointer (some ⟨w.heap.size, 0, none⟩)) ∧ w.alloc (.cells #[.bool true, .slice none 0 0] 142) = w' := by
  go_enter Try.func60, Try.ntmps60
  go_wp2
  go_ret
  exact ⟨rfl, rfl⟩

/-- a writer that New made: its block, what was laid into it -/
def Wr (w : World) (B p : Nat) (bs : List UInt8) : Prop :=
  B ≤ p ∧ ∃ sl, w.heap[p]? = some (.cells #[.bool true, sl] 142 (0, 0)) ∧ OwnB w B sl bs

theorem Wr.new (w : World) : Wr (w.alloc (.cells #[.bool true, .slice none 0 0] 142)) w.heap.size w.heap.size [] :=
  ⟨Nat.le_refl _, _, heap_new _ _, OwnB.nil _ _⟩

/-- a row's block is not the writer's own -/
theorem OwnB.ne {w : World} {B p : Nat} {sl : Value} {bs : List UInt8} {cs : Array Value} (h : OwnB w B sl bs) (hp : w.heap[p]? = some (.cells cs 142 (0, 0))) : sl.ownBlock ≠ some p := by
  intro e
  rcases h.2 with ⟨rfl, _⟩ | ⟨g, cap, cur, rfl, _, hg, _⟩
  · simp [Value.ownBlock] at e
  · simp [Value.ownBlock] at e
    subst e
    rw [hp] at hg
    simp at hg

theorem Wr.put {w w' : World} {B p g cap L : Nat} {sl : Value} {bs new : List UInt8} (hB : B ≤ p) (hp : w.heap[p]? = some (.cells #[.bool true, sl] 142 (0, 0))) (hown : OwnB w B sl bs)
    (hown' : OwnB w' B (.slice (some ⟨g, 0, none⟩) L cap) (bs ++ new)) (hg : w.grownBy w' sl.ownBlock) (hgp : g ≠ p) (hBw : B ≤ w.heap.size) :
    Wr (w'.setCell ⟨p, 1, none⟩ (.slice (some ⟨g, 0, none⟩) L cap)) B p (bs ++ new) ∧ Below B w (w'.setCell ⟨p, 1, none⟩ (.slice (some ⟨g, 0, none⟩) L cap)) := by
  have hp' := heap_grown hp hg (Ne.symm (hown.ne hp))
  refine ⟨⟨hB, _, heap_set hp' _, ?_⟩, ?_⟩
  · refine OwnB.setOther (p := p) hown' ?_ _
    simpa [Value.ownBlock] using hgp
  · refine Below.setCell ((Below.refl B w).grown hg hBw (fun k hk => (hown.lt k hk).1)) ?_ _
    exact hB

set_option maxHeartbeats 1000000 in
theorem Put_uint32 (n : Int) (B p : Nat) (bs : List UInt8) (w : World) (hn : 0 ≤ n ∧ n < 4294967296) (hw : Wr w B p bs) (hl : bs.length ≤ 1000000) :
    Calls Try.prog 61 #[.pointer (some ⟨p, 0, none⟩), .int .u32 n] w fun e w' => e = .returned (.tuple #[]) ∧ Wr w' B p (bs ++ be 4 n.toNat) ∧ Below B w w' := by
  have hm : w.cell? ⟨p, 0, none⟩ = some (.bool true) := by obtain ⟨_, sl, h, _⟩ := hw; rw [heap_cell h]; rfl
  go_enter Try.func61, Try.ntmps61
  go_wp2_with (go_at_call 80; refine (width_uint32 _).mono ?_; rintro e w' ⟨rfl, rfl⟩)
  go_loopw [4] (fun i wr => ∃ (k : Nat) (I : Int), k ≤ 4 ∧ Hid (Wr wr B p (bs ++ (be 4 n.toNat).take k)) ∧ Hid (Below B w wr) ∧ Hid (I = 3 - (k : Int)) ∧ i = .int .i64 I) (fun i _ => (intOf i + 1).toNat)
  case atStart => exact ⟨0, _, by omega, by simpa [Hid] using hw, Below.refl _ _, rfl, rfl⟩
  case round =>
    obtain ⟨k, I, hk, HW, HB, HI, rfl⟩ := hrel
    by_cases hlt : k < 4
    · obtain ⟨hBp, sl, hp, hown⟩ := HW.out
      have hplt := heap_lt hp
      have c1 : wr.cell? ⟨p, 1, none⟩ = some sl := by rw [heap_cell hp]; rfl
      have hI : 0 ≤ I ∧ I < 4 := by have := HI.out; omega
      have d0 : decide ((0 : Int) ≤ I) = true := by simp; omega
      have HP := Lib.hid hp
      have HO := Lib.hid hown
      clear hp hown hplt
      obtain ⟨b, hb⟩ : ∃ b : UInt8, n / 2 ^ (8 * I).toNat % 256 = (b.toNat : Int) := ⟨UInt8.ofNat (n.toNat / 256 ^ (3 - k) % 256), by
        have e1 : (8 * I).toNat = 8 * (3 - k) := by have := HI.out; omega
        rw [e1]; exact byte_of n hn.1 _⟩
      have Hb : Hid ((be 4 n.toNat).take (k + 1) = (be 4 n.toNat).take k ++ [b]) := by
        show _ = _
        rw [be_take_succ _ _ _ hlt]
        have e1 : (8 * I).toNat = 8 * (3 - k) := by have := HI.out; omega
        rw [e1, byte_of n hn.1 _] at hb
        have h9 : (UInt8.ofNat (n.toNat / 256 ^ (3 - k) % 256)).toNat = b.toNat := by omega
        have h10 : UInt8.ofNat (n.toNat / 256 ^ (4 - 1 - k) % 256) = b := UInt8.toNat_inj.1 h9
        rw [h10]
      obtain ⟨bs', hbs⟩ : ∃ bs', bs' = bs ++ (be 4 n.toNat).take k := ⟨_, rfl⟩
      rw [← hbs] at HO
      have hl' : bs'.length ≤ 2000000 := by rw [hbs]; simp [be_length]; omega
      have HS := Lib.hid hbs
      have HBw := HB.out.size
      have f1 : wr.frozen? ⟨p, 1, none⟩ = false := heap_free HP.out 1
      have hplt := heap_lt HP.out
      clear hbs
      have Hne := Lib.hid (HO.out.ne HP.out)
      go_wp2_with (at_builtin; refine wpList_appB _ rfl _ _ rfl B sl bs' rfl (HO.out.alloc _) ⟨wr.heap.size, 0, none⟩ 1 [b] rfl (app_cell1 _ _ _) (by simp) (by simp only [List.length_singleton]; omega) (by simp only [World.size_alloc]; omega) (wr.heap.size + 1) (by simp) ?_; intro g cap w2 hown2 hg2 hat hlt2; have c2 : w2.cell? ⟨p, 1, none⟩ = some sl := (hg2.cell_far ⟨p, 1, none⟩ (by simp only [World.size_alloc]; omega) (Ne.symm Hne.out)).trans (cellA c1); have f2 : w2.frozen? ⟨p, 1, none⟩ = false := by rw [hg2.frozen_far ⟨p, 1, none⟩ (by simp only [World.size_alloc]; omega) (Ne.symm Hne.out)]; exact heap_free (heap_alloc HP.out) 1)
      have hgp : g ≠ p := by
        rcases hat with h | h
        · intro e; subst e; exact Hne.out h
        · omega
      have hfin := Wr.put (new := [b]) hBp (heap_alloc HP.out) (HO.out.alloc _) hown2 hg2 hgp (by simp only [World.size_alloc]; omega)
      rw [HS.out, List.append_assoc, ← Hb.out] at hfin
      go_roundw
      case rel => exact ⟨k + 1, _, by omega, by rw [← HS.out] at hfin; rw [HS.out] at hfin ⊢; exact hfin.1, (HB.out.trans ((Below.refl _ _).alloc (by omega) _)).trans (by rw [HS.out]; exact hfin.2), by show _ = _; have := HI.out; omega, rfl⟩
      case measure => simp [intOf]; omega
    · have d0 : decide ((0 : Int) ≤ I) = false := by have := HI.out; simp; omega
      go_wp2
      go_end0
      have : k = 4 := by omega
      subst this
      exact ⟨rfl, by rw [List.take_of_length_le (by rw [be_length]; exact Nat.le_refl _)] at HW; exact HW.out, HB.out⟩

end Go.Proofs.Ytkngmnfgdlnddaa

namespace Hw
open Go

def crcPoly : BitVec 32 := 0xEDB88320#32
/-- one step of the register, its lowest bit held against nothing -/
def crcF (r : BitVec 32) : BitVec 32 := if r.getLsbD 0 then (r >>> 1) ^^^ crcPoly else r >>> 1
def crcN : Nat → BitVec 32 → BitVec 32
  | 0, r => r
  | n + 1, r => crcF (crcN n r)
def ext8 (b : UInt8) : BitVec 32 := BitVec.ofNat 32 b.toNat
def crcByte (r : BitVec 32) (b : UInt8) : BitVec 32 := crcN 8 (r ^^^ ext8 b)
def crcFeed (r : BitVec 32) (l : List UInt8) : BitVec 32 := l.foldl crcByte r
def crcMore (r : BitVec 32) (l : List UInt8) : BitVec 32 := ~~~ crcFeed (~~~ r) l
def crcOf (l : List UInt8) : BitVec 32 := crcMore 0 l

theorem crcFeed_append (r : BitVec 32) (a b : List UInt8) : crcFeed r (a ++ b) = crcFeed (crcFeed r a) b := List.foldl_append ..

theorem crcF_eq (r : BitVec 32) : crcF r = (r >>> 1) ^^^ (if r.getLsbD 0 then crcPoly else 0#32) := by
  unfold crcF; split <;> simp

theorem xor_swap (a b c d : BitVec 32) : (a ^^^ b) ^^^ (c ^^^ d) = (a ^^^ c) ^^^ (b ^^^ d) := by
  rw [BitVec.xor_assoc, BitVec.xor_assoc, ← BitVec.xor_assoc b, BitVec.xor_comm b c, BitVec.xor_assoc c]

/-- the step is linear -/
theorem crcF_xor (a b : BitVec 32) : crcF (a ^^^ b) = crcF a ^^^ crcF b := by
  rw [crcF_eq, crcF_eq, crcF_eq]
  have h : (a ^^^ b) >>> 1 = (a >>> 1) ^^^ (b >>> 1) := BitVec.ushiftRight_xor_distrib ..
  rw [h, BitVec.getLsbD_xor, xor_swap]
  congr 1
  cases a.getLsbD 0 <;> cases b.getLsbD 0 <;> simp

theorem crcN_xor (n : Nat) (a b : BitVec 32) : crcN n (a ^^^ b) = crcN n a ^^^ crcN n b := by
  induction n with
  | zero => rfl
  | succ n ih => simp only [crcN, ih, crcF_xor]

/-- a bit that is held against the register's lowest -/
def crcBit (r b : BitVec 32) : BitVec 32 := if (r &&& 1#32) ≠ b then (r >>> 1) ^^^ crcPoly else r >>> 1

theorem lsb_and (r : BitVec 32) : r &&& 1#32 = if r.getLsbD 0 then 1#32 else 0#32 := by
  apply BitVec.eq_of_getLsbD_eq
  intro i hi
  simp only [BitVec.getLsbD_and, BitVec.getLsbD_one]
  by_cases h0 : i = 0
  · subst h0; cases h : r.getLsbD 0 <;> simp
  · cases h : r.getLsbD 0 <;> simp [h0]

theorem crcBit_eq (r c : BitVec 32) (hc : c = 0#32 ∨ c = 1#32) : crcBit r c = crcF (r ^^^ c) := by
  unfold crcBit crcF
  rw [lsb_and]
  rcases hc with rfl | rfl
  · simp only [BitVec.xor_zero]
    cases h : r.getLsbD 0 <;> simp
  · have h1 : (r ^^^ 1#32) >>> 1 = r >>> 1 := by
      rw [BitVec.ushiftRight_xor_distrib]; simp
    rw [h1, BitVec.getLsbD_xor]
    cases h : r.getLsbD 0 <;> simp

theorem shift_bit (y : BitVec 32) : y = (y &&& 1#32) ^^^ ((y >>> 1) <<< 1) := by
  apply BitVec.eq_of_getLsbD_eq
  intro i hi
  simp only [BitVec.getLsbD_xor, BitVec.getLsbD_and, BitVec.getLsbD_one, BitVec.getLsbD_shiftLeft, BitVec.getLsbD_ushiftRight]
  by_cases h0 : i = 0
  · subst h0; simp
  · have : 1 + (i - 1) = i := by omega
    simp [h0, this, hi]

theorem crcF_double (y : BitVec 32) (hy : y.getLsbD 31 = false) : crcF (y <<< 1) = y := by
  unfold crcF
  have h : (y <<< 1).getLsbD 0 = false := by simp
  rw [h]
  apply BitVec.eq_of_getLsbD_eq
  intro i hi
  simp only [Bool.false_eq_true, if_false, BitVec.getLsbD_ushiftRight, BitVec.getLsbD_shiftLeft]
  by_cases h31 : i = 31
  · subst h31; have h2 : y[31] = false := hy
    simp [h2]
  · have : 1 + i < 32 := by omega
    simp [this]

/-- the reference's step against the program's: bit by bit against the byte at once -/
theorem crcBit_step (x y : BitVec 32) : crcBit (x ^^^ y) (y &&& 1#32) = crcF x ^^^ (y >>> 1) := by
  have hc : (y &&& 1#32) = 0#32 ∨ (y &&& 1#32) = 1#32 := by rw [lsb_and]; cases y.getLsbD 0 <;> simp
  rw [crcBit_eq _ _ hc]
  have e : x ^^^ y ^^^ (y &&& 1#32) = x ^^^ ((y >>> 1) <<< 1) := by
    have h := shift_bit y
    have h2 : y ^^^ (y &&& 1#32) = ((y >>> 1) <<< 1) := by
      calc y ^^^ (y &&& 1#32) = ((y &&& 1#32) ^^^ ((y >>> 1) <<< 1)) ^^^ (y &&& 1#32) := by rw [← h]
        _ = ((y >>> 1) <<< 1) := by rw [BitVec.xor_comm, ← BitVec.xor_assoc]; simp
    rw [BitVec.xor_assoc, h2]
  rw [e, crcF_xor, crcF_double _ (by simp)]

/-- after j bits of a byte the reference's register is the program's, what is left of the byte laid over it -/
def crcMid (x : BitVec 32) (b : BitVec 32) (j : Nat) : BitVec 32 := crcN j (x ^^^ b) ^^^ (b >>> j)

theorem crcMid_zero (x b : BitVec 32) : crcMid x b 0 = x := by
  simp [crcMid, crcN, BitVec.xor_assoc]

theorem crcMid_succ (x b : BitVec 32) (j : Nat) : crcBit (crcMid x b j) ((b >>> j) &&& 1#32) = crcMid x b (j + 1) := by
  unfold crcMid
  rw [crcBit_step, ← BitVec.shiftRight_add]; rfl

theorem ext8_shift (b : UInt8) : ext8 b >>> 8 = 0#32 := by
  apply BitVec.eq_of_toNat_eq
  have := b.toNat_lt
  simp [ext8, BitVec.toNat_ushiftRight, Nat.shiftRight_eq_div_pow]
  omega

theorem crcMid_eight (x : BitVec 32) (b : UInt8) : crcMid x (ext8 b) 8 = crcByte x b := by
  unfold crcMid crcByte
  rw [ext8_shift]; simp

/-! ### the model's spelling -/
def toU (x : BitVec 32) : Int := (x.toNat : Int)
theorem toU_nonneg (x : BitVec 32) : 0 ≤ toU x := by unfold toU; omega
theorem toU_lt (x : BitVec 32) : toU x < 4294967296 := by unfold toU; have := x.isLt; omega
theorem toU_bd (x : BitVec 32) : 0 ≤ toU x ∧ toU x < 4294967296 := ⟨toU_nonneg x, toU_lt x⟩
theorem ofInt_toU (x : BitVec 32) : BitVec.ofInt 32 (toU x) = x := by unfold toU; simp
theorem toU_ofInt {n : Int} (h0 : 0 ≤ n) (h1 : n < 4294967296) : toU (BitVec.ofInt 32 n) = n := by
  unfold toU; rw [BitVec.toNat_ofInt]; omega

theorem bits_xor32 (x y : BitVec 32) : bits .xor .u32 (toU x) (toU y) = toU (x ^^^ y) := by
  simp only [bits, IntKind.bits]
  rw [ofInt_toU, ofInt_toU, IntKind.wrap_u32]
  show ((x ^^^ y).toNat : Int) % 4294967296 = _
  have := (x ^^^ y).isLt
  unfold toU; omega
theorem bits_and32 (x y : BitVec 32) : bits .and .u32 (toU x) (toU y) = toU (x &&& y) := by
  simp only [bits, IntKind.bits]
  rw [ofInt_toU, ofInt_toU, IntKind.wrap_u32]
  show ((x &&& y).toNat : Int) % 4294967296 = _
  have := (x &&& y).isLt
  unfold toU; omega
theorem toU_shift (x : BitVec 32) (j : Nat) : toU (x >>> j) = toU x / 2 ^ j := by
  unfold toU; rw [BitVec.toNat_ushiftRight, Nat.shiftRight_eq_div_pow]; simp
theorem toU_half (x : BitVec 32) : toU x / (2 : Int) = toU (x >>> 1) := by rw [toU_shift]; rfl
theorem toU_one : (1 : Int) = toU 1#32 := rfl
theorem toU_poly : (3988292384 : Int) = toU crcPoly := rfl
theorem toU_max : IntKind.u32.max = toU (BitVec.allOnes 32) := by decide
theorem toU_ext8 (b : UInt8) : ((b.toNat : Nat) : Int) = toU (ext8 b) := by
  unfold toU ext8; have := b.toNat_lt; rw [BitVec.toNat_ofNat]; omega
theorem toU_inj {x y : BitVec 32} (h : toU x = toU y) : x = y := by
  unfold toU at h; exact BitVec.eq_of_toNat_eq (by omega)
theorem allOnes_xor (x : BitVec 32) : BitVec.allOnes 32 ^^^ x = ~~~ x := by
  rw [BitVec.xor_comm]; exact BitVec.xor_allOnes

theorem and_one_eq (x : BitVec 32) : (toU (x &&& 1#32) == 1) = x.getLsbD 0 := by
  rw [lsb_and]; cases x.getLsbD 0 <;> rfl
theorem take_snoc (s : ByteArray) (k : Nat) (h : k < s.size) : s.data.toList.take (k + 1) = s.data.toList.take k ++ [s[k]] := by
  rw [List.take_succ_eq_append_getElem (by simpa using h)]; rfl
def byteAt (s : ByteArray) (k : Nat) : UInt8 := s.data.toList.getD k 0
theorem byteAt_eq (s : ByteArray) (k : Nat) (h : k < s.size) : s[k] = byteAt s k := by
  have h' : k < s.data.toList.length := by simpa using h
  unfold byteAt
  rw [List.getD_eq_getElem?_getD, List.getElem?_eq_getElem h']; rfl
theorem feed_snoc (r : BitVec 32) (s : ByteArray) (k : Nat) (h : k < s.size) : crcFeed r (s.data.toList.take (k + 1)) = crcByte (crcFeed r (s.data.toList.take k)) (byteAt s k) := by
  rw [take_snoc s k h, crcFeed_append, byteAt_eq s k h]; rfl
end Hw

namespace Go.Proofs.Ytkngmnfgdlnddaa
open Go.RowKit Hw
set_option linter.unusedVariables false

/-- a reader that Open made, without fault: its block; where it stands -/
def Rd (w : World) (B p : Nat) (s : ByteArray) (at_ : Nat) : Prop :=
  B ≤ p ∧ w.heap[p]? = some (.cells #[.bool true, .string s, .int .i64 (at_ : Int), .int .i64 0] 145 (0, 0))

set_option maxHeartbeats 1000000 in
theorem Open_any (s : ByteArray) (w : World) : Calls Try.prog 64 #[.string s] w fun e w' => e = .returned (.pointer (some ⟨w.heap.size, 0, none⟩)) ∧ w.alloc (.cells #[.bool true, .string s, .int .i64 0, .int .i64 0] 145) = w' := by
  go_enter Try.func64, Try.ntmps64
  go_wp2
  go_ret
  exact ⟨rfl, rfl⟩

theorem Rd.new (w : World) (s : ByteArray) : Rd (w.alloc (.cells #[.bool true, .string s, .int .i64 0, .int .i64 0] 145)) w.heap.size w.heap.size s 0 :=
  ⟨Nat.le_refl _, heap_new _ _⟩

theorem Rd.cells {w : World} {B p : Nat} {s : ByteArray} {at_ : Nat} (h : Rd w B p s at_) :
    w.cell? ⟨p, 0, none⟩ = some (.bool true) ∧ w.cell? ⟨p, 1, none⟩ = some (.string s) ∧ w.cell? ⟨p, 2, none⟩ = some (.int .i64 (at_ : Int)) ∧ w.cell? ⟨p, 3, none⟩ = some (.int .i64 0) ∧ w.frozen? ⟨p, 2, none⟩ = false := by
  obtain ⟨_, hp⟩ := h
  exact ⟨by rw [heap_cell hp]; rfl, by rw [heap_cell hp]; rfl, by rw [heap_cell hp]; rfl, by rw [heap_cell hp]; rfl, heap_free hp 2⟩

theorem Rd.move {w : World} {B p : Nat} {s : ByteArray} {at_ : Nat} (h : Rd w B p s at_) (n : Nat) : Rd (w.setCell ⟨p, 2, none⟩ (.int .i64 (n : Int))) B p s n := ⟨h.1, heap_set h.2 _⟩

theorem Rd.setOther {w : World} {B p : Nat} {s : ByteArray} {at_ : Nat} (h : Rd w B p s at_) {a : Addr} (ha : a.block < B) (v : Value) : Rd (w.setCell a v) B p s at_ :=
  ⟨h.1, heap_setOther h.2 (by have := h.1; omega) v⟩
theorem Rd.below {w w' : World} {B C p : Nat} {s : ByteArray} {at_ : Nat} (h : Rd w B p s at_) (hb : Below C w w') (hC : p < C) : Rd w' B p s at_ := ⟨h.1, heap_below h.2 hb hC⟩

set_option maxHeartbeats 1000000 in
theorem Rdead_any (B p : Nat) (s : ByteArray) (at_ : Nat) (w : World) (h : Rd w B p s at_) :
    Calls Try.prog 81 #[.pointer (some ⟨p, 0, none⟩)] w fun e w' => e = .returned (.bool false) ∧ w = w' := by
  obtain ⟨h0, h1, h2, h3, h4⟩ := h.cells
  go_enter Try.func81, Try.ntmps81
  go_wp2
  go_ret
  exact ⟨rfl, rfl⟩

set_option maxHeartbeats 1000000 in
theorem Left_any (B p : Nat) (s : ByteArray) (at_ : Nat) (w : World) (h : Rd w B p s at_) (hs : at_ ≤ s.size) (hz : s.size ≤ 9223372036854775807) :
    Calls Try.prog 67 #[.pointer (some ⟨p, 0, none⟩)] w fun e w' => e = .returned (.int .i64 ((s.size - at_ : Nat) : Int)) ∧ w.drew = w' := by
  obtain ⟨h0, h1, h2, h3, h4⟩ := h.cells
  have hw : IntKind.i64.wrap ((s.size : Int) - (at_ : Int)) = ((s.size - at_ : Nat) : Int) := by rw [IntWalk.i64_in _ (by omega)]; omega
  go_enter Try.func67, Try.ntmps67
  go_wp2_with fail
  refine wp_region_held_drew (S := fun W => W.cell? ⟨p, 1, none⟩ = some (.string s) ∧ W.cell? ⟨p, 2, none⟩ = some (.int .i64 (at_ : Int))) (by kernel_rfl) ⟨h1, h2⟩ (fun hHeld => ?_)
  refine' wpAnyH_take (i := 0) (oi := ⟨some 5, .move (.tmp 0), 111, "pack.go:276", #[], none⟩) rfl (by kernel_rfl) (by kernel_rfl) (by kernel_rfl) (fun _ _ _ h => h) (Or.inl ⟨by rfl, _⟩) (by assumption) _
  rotate_left
  · (intro wS hSw; (try dsimp only at hSw); go_simp; try with_reducible rfl)
  try simp only [Act.put, nA, nB, nC]
  refine' wpAnyH_take (i := 1) (oi := ⟨some 6, .nilCheck (.tmp 5), 0, "pack.go:276", #[⟨0, .data⟩], none⟩) rfl (by kernel_rfl) (by kernel_rfl) (by kernel_rfl) (fun _ _ _ h => h) (Or.inl ⟨by rfl, _⟩) (by assumption) _
  rotate_left
  · (intro wS hSw; (try dsimp only at hSw); go_simp; try with_reducible rfl)
  try simp only [Act.put, nA, nB, nC]
  refine' wpAnyH_take (i := 2) (oi := ⟨some 7, .fieldAddr 145 (.tmp 6) 1, 0, "pack.go:276", #[⟨1, .data⟩], none⟩) rfl (by kernel_rfl) (by kernel_rfl) (by kernel_rfl) (fun _ _ _ h => h) (Or.inl ⟨by rfl, _⟩) (by assumption) _
  rotate_left
  · (intro wS hSw; (try dsimp only at hSw); go_simp; try with_reducible rfl)
  try simp only [Act.put, nA, nB, nC]
  refine' wpAnyH_take (i := 3) (oi := ⟨some 8, .load 9 (.tmp 7), 9, "pack.go:276", #[⟨2, .data⟩], none⟩) rfl (by kernel_rfl) (by kernel_rfl) (by kernel_rfl) (fun _ _ _ h => h) (Or.inl ⟨by rfl, _⟩) (by assumption) _
  rotate_left
  · (intro wS hSw; (try dsimp only at hSw); go_simp; try with_reducible rfl)
  try simp only [Act.put, nA, nB, nC]
  refine' wpAnyH_take (i := 4) (oi := ⟨some 9, .call ⟨.builtin .len, #[.tmp 8], #[9]⟩, 3, "pack.go:276", #[⟨3, .data⟩], none⟩) rfl (by kernel_rfl) (by kernel_rfl) (by kernel_rfl) (fun _ _ _ h => h) (Or.inl ⟨by rfl, _⟩) (by assumption) _
  rotate_left
  · (intro wS hSw; (try dsimp only at hSw); go_simp; try with_reducible rfl)
  try simp only [Act.put, nA, nB, nC]
  refine' wpAnyH_take (i := 5) (oi := ⟨some 10, .move (.tmp 0), 111, "pack.go:276", #[], none⟩) rfl (by kernel_rfl) (by kernel_rfl) (by kernel_rfl) (fun _ _ _ h => h) (Or.inl ⟨by rfl, _⟩) (by assumption) _
  rotate_left
  · (intro wS hSw; (try dsimp only at hSw); go_simp; try with_reducible rfl)
  try simp only [Act.put, nA, nB, nC]
  refine' wpAnyH_take (i := 6) (oi := ⟨some 11, .nilCheck (.tmp 10), 0, "pack.go:276", #[⟨5, .data⟩], none⟩) rfl (by kernel_rfl) (by kernel_rfl) (by kernel_rfl) (fun _ _ _ h => h) (Or.inl ⟨by rfl, _⟩) (by assumption) _
  rotate_left
  · (intro wS hSw; (try dsimp only at hSw); go_simp; try with_reducible rfl)
  try simp only [Act.put, nA, nB, nC]
  refine' wpAnyH_take (i := 7) (oi := ⟨some 12, .fieldAddr 145 (.tmp 11) 2, 0, "pack.go:276", #[⟨6, .data⟩], none⟩) rfl (by kernel_rfl) (by kernel_rfl) (by kernel_rfl) (fun _ _ _ h => h) (Or.inl ⟨by rfl, _⟩) (by assumption) _
  rotate_left
  · (intro wS hSw; (try dsimp only at hSw); go_simp; try with_reducible rfl)
  try simp only [Act.put, nA, nB, nC]
  refine' wpAnyH_take (i := 8) (oi := ⟨some 13, .load 3 (.tmp 12), 3, "pack.go:276", #[⟨7, .data⟩], none⟩) rfl (by kernel_rfl) (by kernel_rfl) (by kernel_rfl) (fun _ _ _ h => h) (Or.inl ⟨by rfl, _⟩) (by assumption) _
  rotate_left
  · (intro wS hSw; (try dsimp only at hSw); go_simp; try with_reducible rfl)
  try simp only [Act.put, nA, nB, nC]
  refine' wpAnyH_take (i := 9) (oi := ⟨some 14, .binOp .sub 3 (.tmp 9) (.tmp 13) 3, 3, "pack.go:276", #[⟨4, .data⟩, ⟨8, .data⟩], none⟩) rfl (by kernel_rfl) (by kernel_rfl) (by kernel_rfl) (fun _ _ _ h => h) (Or.inl ⟨by rfl, _⟩) (by assumption) _
  rotate_left
  · (intro wS hSw; (try dsimp only at hSw); go_simp; try with_reducible rfl)
  try simp only [Act.put, nA, nB, nC]
  refine' wpAnyH_take (i := 10) (oi := ⟨some 2, .assign (.tmp 14), 3, "pack.go:276", #[⟨9, .data⟩, ⟨0, .phase⟩, ⟨1, .phase⟩, ⟨2, .phase⟩, ⟨3, .phase⟩, ⟨4, .phase⟩, ⟨5, .phase⟩, ⟨6, .phase⟩, ⟨7, .phase⟩, ⟨8, .phase⟩, ⟨9, .phase⟩], none⟩) rfl (by kernel_rfl) (by kernel_rfl) (by kernel_rfl) (fun _ _ _ h => h) (Or.inl ⟨by rfl, _⟩) (by assumption) _
  rotate_left
  · (intro wS hSw; (try dsimp only at hSw); go_simp; try with_reducible rfl)
  try simp only [Act.put, nA, nB, nC]
  refine wpAnyH_done (by kernel_rfl) ?_ _
  go_wp2
  go_ret
  exact ⟨rfl, rfl⟩

theorem or_byte (x : Int) (b : UInt8) (hx : 0 ≤ x ∧ x < 72057594037927936) : bits .or .u64 (x * 256) (b.toNat : Int) = x * 256 + (b.toNat : Int) := by
  have hb := b.toNat_lt
  refine bits_join .u64 64 (by decide) ?_ 8 (x * 256) (b.toNat : Int) (by omega) (by omega) (by omega) (by omega) (by omega) (by omega)
  intro n h0 h1
  exact IntWalk.u64_in n (by omega)

/-- the number that some bytes are -/
def told (l : List UInt8) : Nat := l.foldl (fun n b => n * 256 + b.toNat) 0
theorem told_snoc (l : List UInt8) (b : UInt8) : told (l ++ [b]) = told l * 256 + b.toNat := by simp [told, List.foldl_append]
theorem told_lt (l : List UInt8) : told l < 256 ^ l.length := by
  have key : ∀ (r : List UInt8) (n : Nat), r.foldl (fun n b => n * 256 + b.toNat) n < (n + 1) * 256 ^ r.length := by
    intro r
    induction r with
    | nil => intro n; simp
    | cons b r ih =>
      intro n
      rw [List.foldl_cons, List.length_cons, Nat.pow_succ]
      refine Nat.lt_of_lt_of_le (ih _) ?_
      have := b.toNat_lt
      have h1 : n * 256 + b.toNat + 1 ≤ (n + 1) * 256 := by omega
      calc (n * 256 + b.toNat + 1) * 256 ^ r.length ≤ ((n + 1) * 256) * 256 ^ r.length := Nat.mul_le_mul_right _ h1
        _ = (n + 1) * (256 ^ r.length * 256) := by rw [Nat.mul_assoc, Nat.mul_comm 256]
  have := key l 0
  simpa [told] using this
/-- the bytes from a place on -/
def piece (s : ByteArray) (at_ n : Nat) : List UInt8 := (s.data.toList.drop at_).take n
theorem piece_length (s : ByteArray) (at_ n : Nat) (h : at_ + n ≤ s.size) : (piece s at_ n).length = n := by
  have hl : s.data.toList.length = s.size := by rw [Array.length_toList]; rfl
  unfold piece; rw [List.length_take, List.length_drop, hl]; omega
theorem piece_snoc (s : ByteArray) (at_ k : Nat) (h : at_ + k < s.size) : piece s at_ (k + 1) = piece s at_ k ++ [byteAt s (at_ + k)] := by
  have hl : s.data.toList.length = s.size := by rw [Array.length_toList]; rfl
  unfold piece
  rw [List.take_succ_eq_append_getElem (by rw [List.length_drop, hl]; omega), List.getElem_drop]
  congr 2
  unfold byteAt
  rw [List.getD_eq_getElem?_getD, List.getElem?_eq_getElem (by rw [hl]; omega)]
  rfl

set_option maxHeartbeats 2000000 in
theorem Take_uint32 (B p : Nat) (s : ByteArray) (at_ : Nat) (w : World) (h : Rd w B p s at_) (hs : at_ + 4 ≤ s.size) (hz : s.size ≤ 9223372036854775000) :
    Calls Try.prog 65 #[.pointer (some ⟨p, 0, none⟩)] w fun e w' => e = .returned (.int .u32 (told (piece s at_ 4) : Int)) ∧ Rd w' B p s (at_ + 4) ∧ Below B w w' := by
  go_enter Try.func65, Try.ntmps65
  go_wp2_with fail
  refine (Rdead_any B p s at_ _ h).mono ?_
  rintro e w1 ⟨rfl, rfl⟩
  go_wp2_with fail
  refine (width_uint32 _).mono ?_
  rintro e w1 ⟨rfl, rfl⟩
  go_wp2_with fail
  refine (Left_any B p s at_ _ h (by omega) (by omega)).mono ?_
  rintro e w1 ⟨rfl, rfl⟩
  have d1 : decide (((s.size - at_ : Nat) : Int) < 4) = false := by simp; omega
  go_wp2_with fail
  go_loopw [4, 20] (fun x i wr => ∃ (k : Nat) (X : Int), k ≤ 4 ∧ Hid (X = (told (piece s at_ k) : Int)) ∧ Hid (Rd wr B p s at_) ∧ Hid (Below B w wr) ∧ x = .int .u64 X ∧ i = .int .i64 k) (fun _ i _ => 4 - (intOf i).toNat)
  case atStart => exact ⟨0, 0, by omega, by simp [Hid, told, piece], h, (Below.refl _ _).drew, rfl, rfl⟩
  case round =>
    obtain ⟨k, X, hk, HX, HR, HB, rfl, rfl⟩ := hrel
    by_cases hlt : k < 4
    · have hX : 0 ≤ X ∧ X < 72057594037927936 := by
        have h1 := told_lt (piece s at_ k)
        rw [piece_length s at_ k (by omega)] at h1
        have h2 : 256 ^ k ≤ 256 ^ 7 := Nat.pow_le_pow_right (by decide) (by omega)
        have h3 : (256 : Nat) ^ 7 = 72057594037927936 := by decide
        have := HX.out
        omega
      have hik : at_ + k < s.size := by omega
      obtain ⟨b, hb⟩ : ∃ b : UInt8, s[at_ + k] = b := ⟨_, rfl⟩
      have hb2 : b.toNat < 256 := b.toNat_lt
      have HY : Hid (X * 256 + (b.toNat : Int) = (told (piece s at_ (k + 1)) : Int)) := by
        show _ = _
        rw [piece_snoc s at_ k hik, told_snoc, HX.out, ← byteAt_eq s _ hik, hb]; omega
      obtain ⟨c0, c1, c2, c3, c4⟩ := HR.out.cells
      clear c0 c3 c4
      go_wp2_with fail
      have i1 : IntKind.u64.wrap (X * 256) = X * 256 := IntWalk.u64_in _ (by omega)
      have i2 : IntKind.i64.wrap ((at_ : Int) + (k : Int)) = (at_ : Int) + (k : Int) := IntWalk.i64_in _ (by omega)
      have i3 : ((at_ : Int) + (k : Int)).toNat = at_ + k := by omega
      have i4 : 0 ≤ (at_ : Int) + (k : Int) := by omega
      have i5 : (at_ : Int) + (k : Int) < (s.size : Int) := by omega
      have i6 : IntKind.u64.wrap (b.toNat : Int) = (b.toNat : Int) := IntWalk.u64_in _ (by omega)
      have i7 := or_byte X b hX
      refine wp_region_held_drew (S := fun W => W.cell? ⟨p, 1, none⟩ = some (.string s) ∧ W.cell? ⟨p, 2, none⟩ = some (.int .i64 (at_ : Int))) (by kernel_rfl) ⟨c1, c2⟩ (fun hHeld => ?_)
      refine' wpAnyH_take (i := 0) (oi := ⟨some 23, .move (.tmp 4), 92, "pack.go:162", #[], none⟩) rfl (by kernel_rfl) (by kernel_rfl) (by kernel_rfl) (fun _ _ _ h => h) (Or.inl ⟨by rfl, _⟩) (by assumption) _
      rotate_left
      · (intro wS hSw; (try dsimp only at hSw); go_simp; try with_reducible rfl)
      try simp only [Act.put, nA, nB, nC]
      refine' wpAnyH_take (i := 1) (oi := ⟨some 24, .binOp .shl 92 (.tmp 23) (.const (.int .u64 8)) 143, 92, "pack.go:162", #[⟨0, .data⟩], none⟩) rfl (by kernel_rfl) (by kernel_rfl) (by kernel_rfl) (fun _ _ _ h => h) (Or.inl ⟨by rfl, _⟩) (by assumption) _
      rotate_left
      · (intro wS hSw; (try dsimp only at hSw); go_simp; try with_reducible rfl)
      try simp only [Act.put, nA, nB, nC]
      refine' wpAnyH_take (i := 2) (oi := ⟨some 25, .move (.tmp 0), 111, "pack.go:162", #[], none⟩) rfl (by kernel_rfl) (by kernel_rfl) (by kernel_rfl) (fun _ _ _ h => h) (Or.inl ⟨by rfl, _⟩) (by assumption) _
      rotate_left
      · (intro wS hSw; (try dsimp only at hSw); go_simp; try with_reducible rfl)
      try simp only [Act.put, nA, nB, nC]
      refine' wpAnyH_take (i := 3) (oi := ⟨some 26, .nilCheck (.tmp 25), 0, "pack.go:162", #[⟨2, .data⟩], none⟩) rfl (by kernel_rfl) (by kernel_rfl) (by kernel_rfl) (fun _ _ _ h => h) (Or.inl ⟨by rfl, _⟩) (by assumption) _
      rotate_left
      · (intro wS hSw; (try dsimp only at hSw); go_simp; try with_reducible rfl)
      try simp only [Act.put, nA, nB, nC]
      refine' wpAnyH_take (i := 4) (oi := ⟨some 27, .fieldAddr 145 (.tmp 26) 1, 0, "pack.go:162", #[⟨3, .data⟩], none⟩) rfl (by kernel_rfl) (by kernel_rfl) (by kernel_rfl) (fun _ _ _ h => h) (Or.inl ⟨by rfl, _⟩) (by assumption) _
      rotate_left
      · (intro wS hSw; (try dsimp only at hSw); go_simp; try with_reducible rfl)
      try simp only [Act.put, nA, nB, nC]
      refine' wpAnyH_take (i := 5) (oi := ⟨some 28, .load 9 (.tmp 27), 9, "pack.go:162", #[⟨4, .data⟩], none⟩) rfl (by kernel_rfl) (by kernel_rfl) (by kernel_rfl) (fun _ _ _ h => h) (Or.inl ⟨by rfl, _⟩) (by assumption) _
      rotate_left
      · (intro wS hSw; (try dsimp only at hSw); go_simp; try with_reducible rfl)
      try simp only [Act.put, nA, nB, nC]
      refine' wpAnyH_take (i := 6) (oi := ⟨some 29, .move (.tmp 0), 111, "pack.go:162", #[], none⟩) rfl (by kernel_rfl) (by kernel_rfl) (by kernel_rfl) (fun _ _ _ h => h) (Or.inl ⟨by rfl, _⟩) (by assumption) _
      rotate_left
      · (intro wS hSw; (try dsimp only at hSw); go_simp; try with_reducible rfl)
      try simp only [Act.put, nA, nB, nC]
      refine' wpAnyH_take (i := 7) (oi := ⟨some 30, .nilCheck (.tmp 29), 0, "pack.go:162", #[⟨6, .data⟩], none⟩) rfl (by kernel_rfl) (by kernel_rfl) (by kernel_rfl) (fun _ _ _ h => h) (Or.inl ⟨by rfl, _⟩) (by assumption) _
      rotate_left
      · (intro wS hSw; (try dsimp only at hSw); go_simp; try with_reducible rfl)
      try simp only [Act.put, nA, nB, nC]
      refine' wpAnyH_take (i := 8) (oi := ⟨some 31, .fieldAddr 145 (.tmp 30) 2, 0, "pack.go:162", #[⟨7, .data⟩], none⟩) rfl (by kernel_rfl) (by kernel_rfl) (by kernel_rfl) (fun _ _ _ h => h) (Or.inl ⟨by rfl, _⟩) (by assumption) _
      rotate_left
      · (intro wS hSw; (try dsimp only at hSw); go_simp; try with_reducible rfl)
      try simp only [Act.put, nA, nB, nC]
      refine' wpAnyH_take (i := 9) (oi := ⟨some 32, .load 3 (.tmp 31), 3, "pack.go:162", #[⟨8, .data⟩], none⟩) rfl (by kernel_rfl) (by kernel_rfl) (by kernel_rfl) (fun _ _ _ h => h) (Or.inl ⟨by rfl, _⟩) (by assumption) _
      rotate_left
      · (intro wS hSw; (try dsimp only at hSw); go_simp; try with_reducible rfl)
      try simp only [Act.put, nA, nB, nC]
      refine' wpAnyH_take (i := 10) (oi := ⟨some 33, .move (.tmp 5), 3, "pack.go:162", #[], none⟩) rfl (by kernel_rfl) (by kernel_rfl) (by kernel_rfl) (fun _ _ _ h => h) (Or.inl ⟨by rfl, _⟩) (by assumption) _
      rotate_left
      · (intro wS hSw; (try dsimp only at hSw); go_simp; try with_reducible rfl)
      try simp only [Act.put, nA, nB, nC]
      refine' wpAnyH_take (i := 11) (oi := ⟨some 34, .binOp .add 3 (.tmp 32) (.tmp 33) 3, 3, "pack.go:162", #[⟨9, .data⟩, ⟨10, .data⟩], none⟩) rfl (by kernel_rfl) (by kernel_rfl) (by kernel_rfl) (fun _ _ _ h => h) (Or.inl ⟨by rfl, _⟩) (by assumption) _
      rotate_left
      · (intro wS hSw; (try dsimp only at hSw); go_simp; try with_reducible rfl)
      try simp only [Act.put, nA, nB, nC]
      refine' wpAnyH_take (i := 12) (oi := ⟨some 35, .index 9 (.tmp 28) (.tmp 34), 5, "pack.go:162", #[⟨5, .data⟩, ⟨11, .data⟩], none⟩) rfl (by kernel_rfl) (by kernel_rfl) (by kernel_rfl) (fun _ _ _ h => h) (Or.inl ⟨by rfl, _⟩) (by assumption) _
      rotate_left
      · (intro wS hSw; (try dsimp only at hSw); go_simp; try with_reducible rfl)
      try simp only [Act.put, nA, nB, nC]
      refine' wpAnyH_take (i := 13) (oi := ⟨some 36, .convert 5 92 (.tmp 35), 92, "pack.go:162", #[⟨12, .data⟩], none⟩) rfl (by kernel_rfl) (by kernel_rfl) (by kernel_rfl) (fun _ _ _ h => h) (Or.inl ⟨by rfl, _⟩) (by assumption) _
      rotate_left
      · (intro wS hSw; (try dsimp only at hSw); go_simp; try with_reducible rfl)
      try simp only [Act.put, nA, nB, nC]
      refine' wpAnyH_take (i := 14) (oi := ⟨some 37, .binOp .or 92 (.tmp 24) (.tmp 36) 92, 92, "pack.go:162", #[⟨1, .data⟩, ⟨13, .data⟩], none⟩) rfl (by kernel_rfl) (by kernel_rfl) (by kernel_rfl) (fun _ _ _ h => h) (Or.inl ⟨by rfl, _⟩) (by assumption) _
      rotate_left
      · (intro wS hSw; (try dsimp only at hSw); go_simp; try with_reducible rfl)
      try simp only [Act.put, nA, nB, nC]
      refine' wpAnyH_take (i := 15) (oi := ⟨some 4, .assign (.tmp 37), 92, "pack.go:162", #[⟨14, .data⟩, ⟨0, .phase⟩, ⟨1, .phase⟩, ⟨2, .phase⟩, ⟨3, .phase⟩, ⟨4, .phase⟩, ⟨5, .phase⟩, ⟨6, .phase⟩, ⟨7, .phase⟩, ⟨8, .phase⟩, ⟨9, .phase⟩, ⟨10, .phase⟩, ⟨11, .phase⟩, ⟨12, .phase⟩, ⟨13, .phase⟩, ⟨14, .phase⟩], none⟩) rfl (by kernel_rfl) (by kernel_rfl) (by kernel_rfl) (fun _ _ _ h => h) (Or.inl ⟨by rfl, _⟩) (by assumption) _
      rotate_left
      · (intro wS hSw; (try dsimp only at hSw); go_simp; try with_reducible rfl)
      try simp only [Act.put, nA, nB, nC]
      refine wpAnyH_done (by kernel_rfl) ?_ _
      clear i1 i2 i3 i4 i5 i6 i7
      go_wp2
      go_roundw
      case rel => exact ⟨k + 1, _, by omega, HY.out, HR.out, HB.out.drew, rfl, by go_num⟩
      case measure => simp [intOf]; omega
    · have : k = 4 := by omega
      subst this
      have hXm : 0 ≤ X ∧ X < 4294967296 := by
        have h1 := told_lt (piece s at_ 4)
        rw [piece_length s at_ 4 (by omega)] at h1
        have h3 : (256 : Nat) ^ 4 = 4294967296 := by decide
        have := HX.out
        omega
      obtain ⟨c0, c1, c2, c3, c4⟩ := HR.out.cells
      clear c0 c1 c3
      go_wp2
      go_ret
      refine ⟨by rw [← HX.out]; rfl, ?_, HB.out.setCell h.1 _⟩
      have hm := HR.out.move (at_ + 4)
      have e1 : ((at_ + 4 : Nat) : Int) = (at_ : Int) + 4 := by omega
      rw [e1] at hm
      exact hm

end Go.Proofs.Ytkngmnfgdlnddaa

namespace Go.Proofs.Ytkngmnfgdlnddaa
open Go.RowKit

def mayB (a b : Int) : Bool := (a == 1024 || a == 2048 || a == 4096 || a == 8192) && (decide (1 ≤ b) && decide (b ≤ 32))

theorem bcell {W w1 : World} (hb : Below W.heap.size W w1) : (∀ b o, b < W.heap.size → w1.cell? ⟨b, o, none⟩ = W.cell? ⟨b, o, none⟩) ∧ (∀ b o, b < W.heap.size → w1.frozen? ⟨b, o, none⟩ = W.frozen? ⟨b, o, none⟩) :=
  ⟨fun b o h => hb.cell (p := ⟨b, o, none⟩) h, fun b o h => hb.frozen (p := ⟨b, o, none⟩) h⟩

def ab : ByteArray := ⟨#[97, 98]⟩
end Go.Proofs.Ytkngmnfgdlnddaa

namespace Go.Proofs.Ytkngmnfgdlnddaa
open Go.RowKit
set_option linter.unusedVariables false

/-- all is kept but the block B -/
structure Kept (B : Nat) (w w' : World) : Prop where
  os : w'.os = w.os
  tape : w'.tape = w.tape
  output : w'.output = w.output
  size : w.heap.size ≤ w'.heap.size
  block : ∀ k, k < w.heap.size → k ≠ B → w'.heap[k]? = w.heap[k]?
theorem Kept.refl (B : Nat) (w : World) : Kept B w w := ⟨rfl, rfl, rfl, Nat.le_refl _, fun _ _ _ => rfl⟩
theorem Kept.trans {B : Nat} {a b c : World} (h : Kept B a b) (k : Kept B b c) : Kept B a c :=
  ⟨k.os.trans h.os, k.tape.trans h.tape, k.output.trans h.output, Nat.le_trans h.size k.size, fun i hi hn => (k.block i (Nat.lt_of_lt_of_le hi h.size) hn).trans (h.block i hi hn)⟩
theorem Kept.of {B : Nat} {w w' : World} (h : Below w.heap.size w w') : Kept B w w' := ⟨h.os, h.tape, h.output, h.size, fun k hk _ => h.block k hk⟩
theorem Kept.below {B n : Nat} {w w' : World} (h : Kept B w w') (hn : n ≤ B) (hz : n ≤ w.heap.size) : Below n w w' :=
  ⟨h.os, h.tape, h.output, h.size, fun k hk => h.block k (by omega) (by omega)⟩
theorem Kept.low {B : Nat} {a b c : World} (h : Kept B a b) (k : Below a.heap.size b c) : Kept B a c :=
  ⟨k.os.trans h.os, k.tape.trans h.tape, k.output.trans h.output, Nat.le_trans h.size k.size, fun i hi hn => (k.block i hi).trans (h.block i hi hn)⟩
theorem Kept.set {B : Nat} (w : World) (o : Nat) (v : Value) : Kept B w (w.setCell ⟨B, o, none⟩ v) := by
  have h := (Below.refl B w).setCell (p := ⟨B, o, none⟩) (Nat.le_refl _) v
  refine ⟨h.os, h.tape, h.output, h.size, fun k hk hn => ?_⟩
  exact Below.heap_setCell _ _ _ _ hn
theorem Kept.heap {B : Nat} {w w' : World} {b : Nat} {o : Obj} (h : Kept B w w') (hb : w.heap[b]? = some o) (hn : b ≠ B) : w'.heap[b]? = some o := (h.block b (heap_lt hb) hn).trans hb

theorem Kept.drew {B : Nat} {a b : World} (h : Kept B a b) : Kept B a b.drew := ⟨h.os, h.tape, h.output, h.size, h.block⟩
end Go.Proofs.Ytkngmnfgdlnddaa

namespace Go.Proofs.Ytkngmnfgdlnddaa
open Go.RowKit Go.Lib Hw
set_option linter.unusedVariables false

/-- all blocks are kept but those of S -/
structure Mod (S : Nat → Prop) (w w' : World) : Prop where
  os : w'.os = w.os
  tape : w'.tape = w.tape
  output : w'.output = w.output
  size : w.heap.size ≤ w'.heap.size
  block : ∀ k, k < w.heap.size → ¬ S k → w'.heap[k]? = w.heap[k]?
theorem Mod.refl (S : Nat → Prop) (w : World) : Mod S w w := ⟨rfl, rfl, rfl, Nat.le_refl _, fun _ _ _ => rfl⟩
theorem Mod.trans {S T : Nat → Prop} {a b c : World} (h : Mod S a b) (k : Mod T b c) (hT : ∀ i, i < a.heap.size → T i → S i) : Mod S a c :=
  ⟨k.os.trans h.os, k.tape.trans h.tape, k.output.trans h.output, Nat.le_trans h.size k.size, fun i hi hn => (k.block i (Nat.lt_of_lt_of_le hi h.size) (fun ht => hn (hT i hi ht))).trans (h.block i hi hn)⟩
theorem Mod.then {S : Nat → Prop} {a b c : World} (h : Mod S a b) (k : Mod S b c) : Mod S a c := h.trans k (fun _ _ h => h)
theorem Mod.mono {S T : Nat → Prop} {a b : World} (h : Mod S a b) (hT : ∀ i, i < a.heap.size → S i → T i) : Mod T a b :=
  ⟨h.os, h.tape, h.output, h.size, fun i hi hn => h.block i hi (fun hs => hn (hT i hi hs))⟩
theorem Mod.of (S : Nat → Prop) {w w' : World} (h : Below w.heap.size w w') : Mod S w w' := ⟨h.os, h.tape, h.output, h.size, fun k hk _ => h.block k hk⟩
theorem Mod.below {S : Nat → Prop} {n : Nat} {w w' : World} (h : Mod S w w') (hn : ∀ k, k < n → ¬ S k) (hz : n ≤ w.heap.size) : Below n w w' :=
  ⟨h.os, h.tape, h.output, h.size, fun k hk => h.block k (by omega) (hn k hk)⟩
theorem Mod.grown {S : Nat → Prop} {w w' : World} {row : Option Nat} (h : w.grownBy w' row) (hS : ∀ k, row = some k → S k) : Mod S w w' :=
  ⟨h.os, h.tape, h.output, h.size, fun k hk hn => h.block k hk (fun e => hn (hS k e.symm))⟩
theorem Mod.kept {S : Nat → Prop} {B : Nat} {w w' : World} (h : Kept B w w') (hS : S B) : Mod S w w' :=
  ⟨h.os, h.tape, h.output, h.size, fun k hk hn => h.block k hk (fun e => hn (e ▸ hS))⟩
theorem Mod.set {S : Nat → Prop} {p o : Nat} (w : World) (hp : S p) (v : Value) : Mod S w (w.setCell ⟨p, o, none⟩ v) := Mod.kept (Kept.set w o v) hp
theorem Mod.drew {S : Nat → Prop} {a b : World} (h : Mod S a b) : Mod S a b.drew := ⟨h.os, h.tape, h.output, h.size, h.block⟩
theorem Mod.heap {S : Nat → Prop} {w w' : World} {b : Nat} {o : Obj} (h : Mod S w w') (hb : w.heap[b]? = some o) (hn : ¬ S b) : w'.heap[b]? = some o := (h.block b (heap_lt hb) hn).trans hb

theorem OwnB.mod {w w' : World} {S : Nat → Prop} {B : Nat} {v : Value} {bs : List UInt8} (h : OwnB w B v bs) (m : Mod S w w') (hd : ∀ k, v.ownBlock = some k → ¬ S k) : OwnB w' B v bs := by
  refine ⟨h.1, ?_⟩
  rcases h.2 with hn | ⟨g, cap, cur, rfl, hb, hg, r⟩
  · exact .inl hn
  · exact .inr ⟨g, cap, cur, rfl, hb, m.heap hg (hd g rfl), r⟩
section
variable {P : Program} {ops : Array Oper} {rest : List Oper} {op : Oper} {a : Act} {w : World} {Q : Exit → Act → World → Prop}
/-- a new variable of a value; what is known of its world is handed on -/
theorem wpList_boxB (hg : op.guard = none) (t : TypeId) (x : Operand) (ho : op.op = .box t x) (N : Nat) (hN : w.heap.size = N) (cells : Array Value) (hx : (a.eval x).cells = cells)
    (h : ∀ W, W.heap[N]? = some (.cells cells t (0, 0)) → Below N w W → W.heap.size = N + 1 → wpList P ops Q rest (a.put op.dst (.pointer (some ⟨N, 0, none⟩))) W) : wpList P ops Q (op :: rest) a w := by
  subst hN hx
  refine wpList_plain hg fun K hK => ?_
  unfold Oper.wp execOp
  simp only [ho, Sem.run_bind, Instr.box, newVar, newRow, run_newObj_alloc, Sem.run_pure, Result.andThen_ok]
  exact hK _ _ (h _ (heap_new w _) ((Below.refl _ _).alloc (Nat.le_refl _) _) (by simp))
/-- a new variable of zeros -/
theorem wpList_allocB (hg : op.guard = none) (t : TypeId) (ho : op.op = .alloc t) (N : Nat) (hN : w.heap.size = N) (z : Value) (hz : ∀ w, (zeroValue t).run P w = .ok z w)
    (h : ∀ W, W.heap[N]? = some (.cells z.cells t (0, 0)) → Below N w W → W.heap.size = N + 1 → wpList P ops Q rest (a.put op.dst (.pointer (some ⟨N, 0, none⟩))) W) : wpList P ops Q (op :: rest) a w := by
  subst hN
  refine wpList_plain hg fun K hK => ?_
  unfold Oper.wp execOp
  simp only [ho, Sem.run_bind, Instr.alloc, hz, newVar, newRow, run_newObj_alloc, Sem.run_pure, Result.andThen_ok]
  exact hK _ _ (h _ (heap_new w _) ((Below.refl _ _).alloc (Nat.le_refl _) _) (by simp))
end
end Go.Proofs.Ytkngmnfgdlnddaa

namespace Go.Proofs.Ytkngmnfgdlnddaa
open Go.RowKit Go.Lib Hw
set_option linter.unusedVariables false

def uN (n : Nat) : Value := .int .u32 (n : Int)
def All4 (xs : List Nat) : Prop := ∀ x ∈ xs, x < 4294967296
/-- a row that can be read -/
def URow (w : World) (v : Value) (xs : List Nat) : Prop :=
  All4 xs ∧ ∃ ad c, v = .slice ad xs.length c ∧ xs.length ≤ c ∧ c ≤ 9223372036854775807 ∧ (0 < xs.length → ∃ b o, ad = some ⟨b, o, none⟩ ∧ b < w.heap.size ∧ ∀ i (h : i < xs.length), w.cell? ⟨b, o + i, none⟩ = some (uN xs[i]))
theorem All4.nil : All4 [] := fun d h => by simp at h
theorem All4.app {xs ys : List Nat} (h : All4 xs) (g : All4 ys) : All4 (xs ++ ys) := fun x hx => (List.mem_append.1 hx).elim (h x) (g x)
theorem All4.take {xs : List Nat} (h : All4 xs) (i : Nat) : All4 (xs.take i) := fun d hd => h d (List.mem_of_mem_take hd)
theorem All4.drop {xs : List Nat} (h : All4 xs) (i : Nat) : All4 (xs.drop i) := fun d hd => h d (List.mem_of_mem_drop hd)
theorem URow.nil (w : World) : URow w (.slice none 0 0) [] := ⟨All4.nil, none, 0, rfl, Nat.le_refl _, by decide, fun h => by simp at h⟩
theorem URow.drew {w : World} {v : Value} {xs : List Nat} (h : URow w v xs) : URow w.drew v xs := h
theorem URow.mod {w w' : World} {S : Nat → Prop} {v : Value} {xs : List Nat} (h : URow w v xs) (m : Mod S w w') (hd : 0 < xs.length → ∀ k, v.ownBlock = some k → ¬ S k) : URow w' v xs := by
  obtain ⟨h0, ad, c, rfl, h1, h2, h3⟩ := h
  refine ⟨h0, ad, c, rfl, h1, h2, fun hp => ?_⟩
  obtain ⟨b, o, rfl, hb, hc⟩ := h3 hp
  refine ⟨b, o, rfl, Nat.lt_of_lt_of_le hb m.size, fun i hi => ?_⟩
  have hk := m.block b hb (hd hp b rfl)
  have h4 := hc i hi
  simp only [World.cell?] at h4 ⊢
  rw [hk]
  exact h4
theorem URow.below {w w' : World} {v : Value} {xs : List Nat} (h : URow w v xs) (hb : Below w.heap.size w w') : URow w' v xs := h.mod (Mod.of (fun _ => False) hb) (fun _ _ _ h => h)
theorem URow.form {w : World} {v : Value} {xs : List Nat} (h : URow w v xs) : ∃ ad c, v = .slice ad xs.length c ∧ xs.length ≤ 9223372036854775807 ∧ (0 < xs.length → ∃ b o, ad = some ⟨b, o, none⟩ ∧ ∀ i (h : i < xs.length), w.cell? ⟨b, o + i, none⟩ = some (uN xs[i])) := by
  obtain ⟨h0, ad, c, e, h1, h2, h3⟩ := h
  exact ⟨ad, c, e, by omega, fun hp => by obtain ⟨b, o, e2, _, hc⟩ := h3 hp; exact ⟨b, o, e2, hc⟩⟩
theorem URow.lt {w : World} {v : Value} {xs : List Nat} (h : URow w v xs) (hp : 0 < xs.length) : ∀ k, v.ownBlock = some k → k < w.heap.size := fun k hk => by
  obtain ⟨h0, ad, c, rfl, h1, h2, h3⟩ := h
  obtain ⟨b, o, rfl, hb, hc⟩ := h3 hp
  obtain rfl : b = k := Option.some.inj hk
  exact hb
/-- a row of the call's own -/
def OwnM (w : World) (B : Nat) (v : Value) (xs : List Nat) : Prop := w.ownsRow B 27 1 v xs.length (xs.map uN)
theorem info_M : (Try.prog.info? 27).map (fun i => (i.zero, i.size, i.bytes)) = some (some (.int .u32 0), 1, 4) := by kernel_rfl
theorem uN_one (xs : List Nat) : ∀ u ∈ xs.map uN, u.oneCell' = true := by
  intro u hu
  obtain ⟨_, _, rfl⟩ := List.mem_map.1 hu
  rfl
theorem OwnM.nil (w : World) (B : Nat) : OwnM w B (.slice none 0 0) [] := World.ownsRow_nil w B _ 1
theorem OwnM.lt {w : World} {B : Nat} {v : Value} {xs : List Nat} (h : OwnM w B v xs) : ∀ g, v.ownBlock = some g → B ≤ g ∧ g < w.heap.size := World.ownsRow.lt h
theorem OwnM.shape {w : World} {B : Nat} {v : Value} {xs : List Nat} (h : OwnM w B v xs) : ∃ ad cap, v = .slice ad xs.length cap ∧ xs.length ≤ cap ∧ cap ≤ maxLen ∧ (0 < xs.length → ∃ g, ad = some ⟨g, 0, none⟩) := by
  rcases h.2 with ⟨rfl, h0⟩ | ⟨g, cap, cur, rfl, _, _, hc, hm, _⟩
  · exact ⟨none, 0, by rw [h0], by omega, by decide, fun h => by omega⟩
  · exact ⟨_, cap, rfl, hc, hm, fun _ => ⟨g, rfl⟩⟩
theorem OwnM.cell {w : World} {B g n cap : Nat} {xs : List Nat} (h : OwnM w B (.slice (some ⟨g, 0, none⟩) n cap) xs) (j : Nat) (hj : j < xs.length) : w.cell? ⟨g, j, none⟩ = some (uN xs[j]) := by
  have h1 := World.ownsRow.cells (w := w) h (g := g) rfl j (uN xs[j]) (by simp [hj])
  have hadd : (⟨g, 0, none⟩ : Addr).add j = ⟨g, j, none⟩ := by unfold Addr.add; split <;> simp_all
  rw [hadd] at h1
  exact h1
theorem OwnM.heap {w w' : World} {B : Nat} {v : Value} {xs : List Nat} (h : OwnM w B v xs) (hk : ∀ g, v.ownBlock = some g → w'.heap[g]? = w.heap[g]?) : OwnM w' B v xs := by
  refine ⟨h.1, ?_⟩
  rcases h.2 with hn | ⟨g, cap, cur, rfl, hB, hg, r⟩
  · exact .inl hn
  · exact .inr ⟨g, cap, cur, rfl, hB, (hk g rfl).trans hg, r⟩
theorem OwnM.mod {w w' : World} {S : Nat → Prop} {B : Nat} {v : Value} {xs : List Nat} (h : OwnM w B v xs) (m : Mod S w w') (hd : ∀ k, v.ownBlock = some k → ¬ S k) : OwnM w' B v xs :=
  h.heap (fun g hg => m.block g (h.lt g hg).2 (hd g hg))
theorem OwnM.below {w w' : World} {B C : Nat} {v : Value} {xs : List Nat} (h : OwnM w B v xs) (hb : Below C w w') (hC : ∀ g, v.ownBlock = some g → g < C) : OwnM w' B v xs := h.heap (fun g hg => hb.block g (hC g hg))
theorem OwnM.drew {w : World} {B : Nat} {v : Value} {xs : List Nat} (h : OwnM w B v xs) : OwnM w.drew B v xs := h
theorem OwnM.mono {w : World} {B C : Nat} {v : Value} {xs : List Nat} (h : OwnM w B v xs) (hC : C ≤ B) : OwnM w C v xs := by
  refine ⟨h.1, ?_⟩
  rcases h.2 with hn | ⟨g, cap, cur, rfl, hb, r⟩
  · exact .inl hn
  · exact .inr ⟨g, cap, cur, rfl, by omega, r⟩
theorem OwnM.row {w : World} {B : Nat} {v : Value} {xs : List Nat} (h : OwnM w B v xs) (hA : All4 xs) : URow w v xs := by
  obtain ⟨ad, cap, rfl, h1, h2, hg⟩ := h.shape
  refine ⟨hA, ad, cap, rfl, h1, by rw [maxLen_eq] at h2; exact h2, fun hp => ?_⟩
  obtain ⟨g, rfl⟩ := hg hp
  exact ⟨g, 0, rfl, (h.lt g rfl).2, fun i hi => by rw [Nat.zero_add]; exact h.cell i hi⟩
/-- append(xs, x): one number, that was laid into a block of its own -/
theorem wpList_appM {ops : Array Oper} {rest : List Oper} {o : Oper} {a : Act} {Q : Exit → Act → World → Prop} (W : World) (t : TypeId) (x : Nat) (hgd : o.guard = none) (s y : Operand)
    (ho : o.op = .call { callee := .builtin .append, args := #[s, y], argTypes := #[28, 28] })
    (B : Nat) (v : Value) (xs : List Nat) (hs : a.eval s = v) (hown : OwnM W B v xs) (c : Nat) (hy : a.eval y = .slice (some ⟨W.heap.size, 0, none⟩) 1 c)
    (hlen : (xs.length + 1) * 4 ≤ 140737488355328) (hB : B ≤ W.heap.size)
    (h : ∀ v' w', OwnM w' B v' (xs ++ [x]) → Mod (fun k => v.ownBlock = some k) W w' → (∀ g, v'.ownBlock = some g → v.ownBlock = some g ∨ W.heap.size ≤ g) → wpList Try.prog ops Q rest (a.put o.dst v') w') :
    wpList Try.prog ops Q (o :: rest) a (W.alloc (.cells #[.int .u32 (x : Int)] t)) := by
  obtain ⟨i, hi, hz0, hz1, hz2⟩ := info_parts info_M
  refine wpList_append_own_at _ hgd s y 28 ho B 27 i (.int .u32 0) 1 4 Try.underlying28 hi hz0 hz1 hz2 rfl (by decide) v xs.length (xs.map uN) hs (World.ownsRow.alloc hown _) ⟨W.heap.size, 0, none⟩ 1 c [uN x] hy rfl ?_ (uN_one [x]) (by rw [maxLen_eq]; omega) (by omega) (by simp only [World.size_alloc]; omega) ?_
  · exact World.news_of_block (heap_alloc_new W _)
  · intro v' w' h1 h2 _ h4
    refine h v' w' ?_ ?_ ?_
    · unfold OwnM
      rw [List.length_append, List.map_append]
      exact h1
    · exact (Mod.of _ ((Below.refl _ _).alloc (Nat.le_refl _) _)).trans (Mod.grown (S := fun k => v.ownBlock = some k) h2 (fun k e => e)) (fun k hk e => e)
    · intro g hg
      rcases h4 with h4 | h4
      · left; rw [← h4]; exact hg
      · right
        rw [h4] at hg
        have := Option.some.inj hg
        simp only [World.size_alloc] at this
        omega
end Go.Proofs.Ytkngmnfgdlnddaa

