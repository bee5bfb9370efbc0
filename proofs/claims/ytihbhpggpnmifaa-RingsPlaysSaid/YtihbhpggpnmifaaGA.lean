/-
 Plain facts about the CRC's register: no program in sight.
-/
import Derived.OrdersHeld
import Derived.Laws.BitsLemmas
import Derived.Test.YtihbhpggpnmifaaProg
import Derived.WalkKit
import Derived.WalkSpells
import Derived.WalkLawsBesides
import Derived.Lib.Hide
import Derived.Deep.AppendLies
import Derived.Deep.RegionHeld3
import Derived.Deep.QuietTactic
import Derived.BigQuiet
import Derived.Deep.DeepFit
import Derived.KernelRfl
import Derived.Lib.ConvBytes
import Derived.Deep.CutRange
import Derived.Deep.DeepCutAuto
import Derived.Deep.MidRow
import Derived.Lib.AppendStr
set_option linter.unusedSimpArgs false
set_option linter.unusedVariables false
namespace Hw
open Go in
theorem tQ {P : Program} {md : Region.Mode} {ops : Array Oper} {Q : Exit → Act → World → Prop} {S : World → Prop} (i : Nat) (oi : Oper) {v : Value} {fuel : Nat} {listed : Array Bool} {a : Act} {w : World} (hi : ops[i]? = some oi)
    (hb : (Region.noSelect ops && (Region.free md ops listed i && (Region.ready md ops listed).contains i)) = true) (hy : YieldsIf P ops S oi v a)
    (h : wpAnyH P md ops Q S fuel (listed.setIfInBounds i true) (a.put oi.dst v) w) (hS : S w := by assumption) (hQ : ∀ c a w, Q (.panic c) (a.put oi.dst v) w → Q (.panic c) a w := by exact fun _ _ _ h => h) : wpAnyH P md ops Q S (fuel + 1) listed a w :=
  have h1 := Bool.and_eq_true_iff.1 hb
  have h2 := Bool.and_eq_true_iff.1 h1.2
  wpAnyH_take hi h1.1 h2.1 h2.2 hQ hy hS h
theorem nA {α : Type _} (l : List α) (i : Nat) (a : α) : l.toArray.setIfInBounds i a = (l.set i a).toArray := List.setIfInBounds_toArray ..
theorem nB {α : Type _} (x : α) (l : List α) (a : α) : (x :: l).set 0 a = a :: l := rfl
theorem nC {α : Type _} (x : α) (l : List α) (n : Nat) (a : α) : (x :: l).set (n + 1) a = x :: l.set n a := rfl
open Go
def ext8 (b : UInt8) : BitVec 32 := BitVec.ofNat 32 b.toNat
/-! ### the model's spelling -/
def toU (x : BitVec 32) : Int := (x.toNat : Int)
theorem toU_nonneg (x : BitVec 32) : 0 ≤ toU x := by unfold toU; omega
theorem toU_lt (x : BitVec 32) : toU x < 4294967296 := by unfold toU; have := x.isLt; omega
theorem toU_bd (x : BitVec 32) : 0 ≤ toU x ∧ toU x < 4294967296 := ⟨toU_nonneg x, toU_lt x⟩
theorem ofInt_toU (x : BitVec 32) : BitVec.ofInt 32 (toU x) = x := by unfold toU; simp
theorem toU_ofInt {n : Int} (h0 : 0 ≤ n) (h1 : n < 4294967296) : toU (BitVec.ofInt 32 n) = n := by
 unfold toU; rw [BitVec.toNat_ofInt]; omega
theorem bits_xor32 (x y : BitVec 32) : bits .xor .u32 (toU x) (toU y) = toU (x ^^^ y) := by
 simp only [bits, IntKind.bits]
 rw [ofInt_toU, ofInt_toU, IntKind.wrap_u32]
 show ((x ^^^ y).toNat : Int) % 4294967296 = _
 have := (x ^^^ y).isLt
 unfold toU; omega
theorem bits_and32 (x y : BitVec 32) : bits .and .u32 (toU x) (toU y) = toU (x &&& y) := by
 simp only [bits, IntKind.bits]
 rw [ofInt_toU, ofInt_toU, IntKind.wrap_u32]
 show ((x &&& y).toNat : Int) % 4294967296 = _
 have := (x &&& y).isLt
 unfold toU; omega
theorem toU_shift (x : BitVec 32) (j : Nat) : toU (x >>> j) = toU x / 2 ^ j := by
 unfold toU; rw [BitVec.toNat_ushiftRight, Nat.shiftRight_eq_div_pow]; simp
theorem toU_max : IntKind.u32.max = toU (BitVec.allOnes 32) := by decide
theorem toU_ext8 (b : UInt8) : ((b.toNat : Nat) : Int) = toU (ext8 b) := by
 unfold toU ext8; have := b.toNat_lt; rw [BitVec.toNat_ofNat]; omega
theorem allOnes_xor (x : BitVec 32) : BitVec.allOnes 32 ^^^ x = ~~~ x := by
 rw [BitVec.xor_comm]; exact BitVec.xor_allOnes
end Hw
namespace Hw
def be : Nat → Nat → List UInt8
 | 0, _ => []
 | k + 1, n => be k (n / 256) ++ [UInt8.ofNat (n % 256)]
theorem be_length (k n : Nat) : (be k n).length = k := by
 induction k generalizing n with
 | zero => rfl
 | succ k ih => simp [be, ih]
theorem be_get (k n j : Nat) (h : j < k) : (be k n)[j]? = some (UInt8.ofNat (n / 256 ^ (k - 1 - j) % 256)) := by
 induction k generalizing n with
 | zero => omega
 | succ k ih =>
  simp only [be]
  by_cases hj : j < k
  ·rw [List.getElem?_append_left (by rw [be_length]; exact hj), ih _ hj]
   have : k + 1 - 1 - j = (k - 1 - j) + 1 := by omega
   rw [this, Nat.pow_succ, Nat.mul_comm, Nat.div_div_eq_div_mul]
  ·obtain rfl : j = k := by omega
   rw [List.getElem?_append_right (by rw [be_length]; exact Nat.le_refl _), be_length]
   simp
theorem be_take_succ (k n j : Nat) (h : j < k) : (be k n).take (j + 1) = (be k n).take j ++ [UInt8.ofNat (n / 256 ^ (k - 1 - j) % 256)] := by
 rw [List.take_add_one, be_get k n j h]; rfl
theorem byte_of (n : Int) (h0 : 0 ≤ n) (j : Nat) : n / 2 ^ (8 * j) % 256 = ((UInt8.ofNat (n.toNat / 256 ^ j % 256)).toNat : Int) := by
 obtain ⟨m, rfl⟩ := Int.eq_ofNat_of_zero_le h0
 have h1 : (2 : Nat) ^ (8 * j) = 256 ^ j := by rw [Nat.pow_mul]
 have h2 : ((2 : Int) ^ (8 * j)) = (((2 : Nat) ^ (8 * j) : Nat) : Int) := by simp
 rw [h2, h1]
 simp only [Int.toNat_natCast, UInt8.toNat_ofNat']
 have h3 : m / 256 ^ j % 256 % 2 ^ 8 = m / 256 ^ j % 256 := by omega
 rw [h3]
 simp
end Hw
namespace Go.Proofs.Ytihbhpggpnmifaa
open Go.RowKit
def bv (b : UInt8) : Value := .int .u8 (b.toNat : Int)
def OwnB (w : World) (B : Nat) (v : Value) (bs : List UInt8) : Prop := w.ownsRow B 5 1 v bs.length (bs.map bv)
theorem info_u8 : (Try.prog.info? 5).map (fun i => (i.zero, i.size, i.bytes)) = some (some (.int .u8 0), 1, 1) := by kernel_rfl
theorem maxLen_eq : maxLen = 9223372036854775807 := rfl
theorem bv_one (bs : List UInt8) : ∀ u ∈ bs.map bv, u.oneCell' = true := by
 intro u hu
 obtain ⟨_, _, rfl⟩ := List.mem_map.1 hu
 rfl
theorem OwnB.nil (w : World) (B : Nat) : OwnB w B (.slice none 0 0) [] := World.ownsRow_nil w B _ 1
theorem wpList_appB {ops : Array Oper} {rest : List Oper} {o : Oper} {a : Act} {Q : Exit → Act → World → Prop} (w : World) (hgd : o.guard = none) (s x : Operand)
  (ho : o.op = .call { callee := .builtin .append, args := #[s, x], argTypes := #[121, 121] })
  (B : Nat) (v : Value) (bs : List UInt8) (hs : a.eval s = v) (hown : OwnB w B v bs) (ad : Addr) (c : Nat) (new : List UInt8) (hx : a.eval x = .slice (some ad) new.length c)
  (hcell : ∀ j (h : j < new.length), w.cell? (ad.add j) = some (bv new[j])) (hm : 0 < new.length) (hlen : bs.length + new.length ≤ 140737488355328) (hB : B ≤ w.heap.size) (H : Nat) (hH : w.heap.size = H)
  (h : ∀ g cap w', OwnB w' B (.slice (some ⟨g, 0, none⟩) (bs.length + new.length) cap) (bs ++ new) → w.grownBy w' v.ownBlock → (v.ownBlock = some g ∨ g = H) → g < w'.heap.size →
   wpList Try.prog ops Q rest (a.put o.dst (.slice (some ⟨g, 0, none⟩) (bs.length + new.length) cap)) w') : wpList Try.prog ops Q (o :: rest) a w := by
 obtain ⟨i, hi, hz0, hz1, hz2⟩ := info_parts info_u8
 refine wpList_append_lies w hgd s x 121 ho B 5 i (.int .u8 0) 1 1 Try.underlying121 hi hz0 hz1 hz2 rfl (by decide) v bs.length (bs.map bv) hs hown ad new.length c (new.map bv) hx (by simp) ?_ (bv_one new) hm (by rw [maxLen_eq]; omega) (by omega) hB H hH ?_
 ·intro j u hu
  rw [List.getElem?_map] at hu
  obtain ⟨b, hb, rfl⟩ := Option.map_eq_some_iff.1 hu
  obtain ⟨hj, rfl⟩ := List.getElem?_eq_some_iff.1 hb
  exact hcell j hj
 ·intro g cap w' h2 h3 h4 h5
  refine h g cap w' ?_ h3 h4 h5
  unfold OwnB
  rw [List.length_append, List.map_append]
  exact h2
theorem strOf_bytes (bs : List UInt8) : strOfNums (bs.map fun b => (b.toNat : Int)) = ⟨bs.toArray⟩ := by
 unfold strOfNums
 rw [List.map_map]
 have : ((fun n : Int => UInt8.ofNat n.toNat) ∘ fun b : UInt8 => (b.toNat : Int)) = id := by
  funext b; simp
 rw [this, List.map_id]
theorem app_cell1 (w : World) (b : UInt8) (t : TypeId) : ∀ j (h : j < [b].length), (w.alloc (.cells #[.int .u8 (b.toNat : Int)] t)).cell? ((⟨w.heap.size, 0, none⟩ : Addr).add j) = some (bv [b][j]) := by
 intro j h
 have hj : j = 0 := by simpa using h
 subst hj
 exact World.news_of_block (heap_alloc_new w _) 0 _ rfl
theorem conv_own {w : World} {B : Nat} {v : Value} {bs : List UInt8} (hown : OwnB w B v bs) :
  (convert 121 9 v).run Try.prog w = .ok (.string ⟨bs.toArray⟩) w := by
 have hs := Try.underlying121
 have he := Try.underlying5
 have hd := Try.underlying9
 rcases hown.2 with ⟨rfl, h0⟩ | ⟨g, cap, cur, rfl, _, hg, hn, hc, hsz, ht⟩
 ·have : bs = [] := List.eq_nil_of_length_eq_zero h0
  subst this
  have h2 := run_convert_bytes_nil (P := Try.prog) w 121 5 hs he 0 0 9 hd
  rw [h2]
  rfl
 ·have hcell : ∀ i, i < bs.length → w.cell? ⟨g, 0 + i, none⟩ = some (.int .u8 ((bs.map fun b => (b.toNat : Int)).getD i 0)) := by
   intro i hi
   have hcells := World.ownsRow.cells (w := w) hown (g := g) rfl i (bv bs[i]) (by simp [hi])
   have hadd : (⟨g, 0, none⟩ : Addr).add i = ⟨g, i, none⟩ := by unfold Addr.add; split <;> simp_all
   rw [hadd] at hcells
   rw [Nat.zero_add, hcells]
   simp [bv, List.getD, hi]
  have h2 := run_convert_bytes_arg (P := Try.prog) w 121 5 hs he g 0 bs.length cap (bs.map fun b => (b.toNat : Int)) (by simp) hcell 9 hd
  rw [h2, strOf_bytes]
def zeroRow (n : Nat) : Array Value := madeCells #[.int .u8 0] n
theorem zeroRow_list (n : Nat) : (zeroRow n).toList = (List.replicate n (0 : UInt8)).map bv := by
 unfold zeroRow madeCells
 apply List.ext_getElem
 ·simp
 ·intro i h1 h2
  simp [Nat.mod_one, bv]
theorem OwnB.made (w : World) (B m : Nat) (hB : B ≤ w.heap.size) (hm : m ≤ 140737488355328) : OwnB (w.alloc (.cells (zeroRow m) 5)) B (.slice (some ⟨w.heap.size, 0, none⟩) m m) (List.replicate m 0) := by
 refine ⟨by simp, .inr ⟨w.heap.size, m, zeroRow m, ?_, hB, heap_alloc_new w _, ?_, by rw [maxLen_eq]; omega, ?_, ?_⟩⟩
 ·simp
 ·simp
 ·simp [zeroRow, size_madeCells]
 ·rw [zeroRow_list]
  apply List.take_of_length_le
  simp
theorem OwnB.kept {w w' : World} {B : Nat} {v : Value} {bs : List UInt8} {row : Option Nat} (h : OwnB w B v bs) (hg : w.grownBy w' row) (hne : v.ownBlock = none ∨ v.ownBlock ≠ row) : OwnB w' B v bs := World.ownsRow.kept h hg hne
theorem OwnB.alloc {w : World} {B : Nat} {v : Value} {bs : List UInt8} (h : OwnB w B v bs) (o : Obj) : OwnB (w.alloc o) B v bs := World.ownsRow.alloc h o
theorem OwnB.drew {w : World} {B : Nat} {v : Value} {bs : List UInt8} (h : OwnB w B v bs) : OwnB w.drew B v bs := h
theorem OwnB.below {w w' : World} {B C : Nat} {v : Value} {bs : List UInt8} (h : OwnB w B v bs) (hb : Below C w w') (hC : ∀ g, v.ownBlock = some g → g < C) : OwnB w' B v bs := by
 refine ⟨h.1, ?_⟩
 rcases h.2 with h2 | ⟨g, cap, cur, hv, hg, hh, r⟩
 ·exact .inl h2
 ·refine .inr ⟨g, cap, cur, hv, hg, ?_, r⟩
  rw [hb.block g (hC g (by rw [hv]; rfl))]; exact hh
theorem OwnB.setOther {w : World} {B p : Nat} {v : Value} {bs : List UInt8} (h : OwnB w B v bs) {a : Addr} (hne : v.ownBlock ≠ some a.block) (u : Value) : OwnB (w.setCell a u) B v bs := by
 refine ⟨h.1, ?_⟩
 rcases h.2 with h2 | ⟨g, cap, cur, hv, hg, hh, r⟩
 ·exact .inl h2
 ·refine .inr ⟨g, cap, cur, hv, hg, ?_, r⟩
  have : g ≠ a.block := fun e => hne (by rw [hv]; exact congrArg some e)
  rw [Below.heap_setCell _ _ _ _ this]; exact hh
theorem heap_set {w : World} {b o : Nat} {cs : Array Value} {t : TypeId} {fz : Nat × Nat} (h : w.heap[b]? = some (.cells cs t fz)) (v : Value) :
  (w.setCell ⟨b, o, none⟩ v).heap[b]? = some (.cells (cs.setIfInBounds o v) t fz) := by
 simp only [World.setCell, Array.getElem?_modify, if_true, h, Option.map_some]
 rfl
theorem heap_cell {w : World} {b : Nat} {cs : Array Value} {t : TypeId} {fz : Nat × Nat} (h : w.heap[b]? = some (.cells cs t fz)) (o : Nat) : w.cell? ⟨b, o, none⟩ = cs[o]? := by
 simp [World.cell?, h]
theorem heap_free {w : World} {b : Nat} {cs : Array Value} {t : TypeId} (h : w.heap[b]? = some (.cells cs t (0, 0))) (o : Nat) : w.frozen? ⟨b, o, none⟩ = false := by
 simp [World.frozen?, h]
theorem heap_lt {w : World} {b : Nat} {o : Obj} (h : w.heap[b]? = some o) : b < w.heap.size := by
 rcases Nat.lt_or_ge b w.heap.size with hl | hl
 ·exact hl
 ·simp [Array.getElem?_eq_none hl] at h
theorem heap_alloc {w : World} {b : Nat} {o o' : Obj} (h : w.heap[b]? = some o) : (w.alloc o').heap[b]? = some o := (Below.heap_alloc w o' b (heap_lt h)).trans h
theorem heap_below {w w' : World} {b B : Nat} {o : Obj} (h : w.heap[b]? = some o) (hb : Below B w w') (hB : b < B) : w'.heap[b]? = some o := (hb.block b hB).trans h
theorem heap_setOther {w : World} {b : Nat} {o : Obj} (h : w.heap[b]? = some o) {a : Addr} (hne : b ≠ a.block) (v : Value) : (w.setCell a v).heap[b]? = some o := by
 rw [Below.heap_setCell _ _ _ _ hne]; exact h
theorem heap_grown {w w' : World} {b : Nat} {o : Obj} {row : Option Nat} (h : w.heap[b]? = some o) (hg : w.grownBy w' row) (hne : some b ≠ row) : w'.heap[b]? = some o := (hg.block b (heap_lt h) hne).trans h
theorem heap_new (w : World) (o : Obj) : (w.alloc o).heap[w.heap.size]? = some o := heap_alloc_new w o
theorem wp_name {P : Program} {c : Code} {Q : Exit → Act → World → Prop} {a : Act} {w : World} (F : World → Prop) (h0 : F w) (h : ∀ W, F W → c.wp P Q a W) : c.wp P Q a w := h w h0
theorem cellB {w1 w2 : World} {B b o : Nat} {v : Value} (hb : Below B w1 w2) (hB : b < B) (h : w1.cell? ⟨b, o, none⟩ = some v) : w2.cell? ⟨b, o, none⟩ = some v := (hb.cell (p := ⟨b, o, none⟩) hB).trans h
theorem cellA {w : World} {a : Addr} {v : Value} {o : Obj} (h : w.cell? a = some v) : (w.alloc o).cell? a = some v :=
 (World.cell?_of_block (w := w) (Below.heap_alloc w o a.block (World.block_lt_of_cell? w a h))).trans h
end Go.Proofs.Ytihbhpggpnmifaa
namespace Go.Proofs.Ytihbhpggpnmifaa
open Go.RowKit Hw
def StrRow (w : World) (v : Value) (ss : List ByteArray) : Prop :=
 ∃ ad c, v = .slice ad ss.length c ∧ (ad = none → c = 0) ∧ (0 < ss.length → ∃ b o, ad = some ⟨b, o, none⟩ ∧ ∀ i (h : i < ss.length), w.cell? ⟨b, o + i, none⟩ = some (.string ss[i]))
theorem StrRow.two (w : World) (x y : ByteArray) (t : TypeId) (b : Nat) (hb : w.heap.size = b) : StrRow (w.alloc (.cells #[.string x, .string y] t)) (.slice (some ⟨b, 0, none⟩) 2 2) [x, y] := by
 subst hb
 refine ⟨some ⟨w.heap.size, 0, none⟩, 2, rfl, (fun h => by cases h), fun _ => ⟨w.heap.size, 0, rfl, fun i h => ?_⟩⟩
 have hn := cell_of_row (w.alloc (.cells #[.string x, .string y] t)) w.heap.size (0 + i) #[.string x, .string y] t (0, 0) (heap_alloc_new w _)
 rw [hn]
 match i, h with
 | 0, _ => rfl
 | 1, _ => rfl
theorem StrRow.drew {w : World} {v : Value} {ss : List ByteArray} (h : StrRow w v ss) : StrRow w.drew v ss := h
end Go.Proofs.Ytihbhpggpnmifaa
namespace Hw
open Go
end Hw
namespace Go.Proofs.Ytihbhpggpnmifaa
open Go.RowKit Go.Lib
def RowB (w : World) (p : Nat) (l : List UInt8) : Prop :=
 ∃ cs t fz, w.heap[p]? = some (.cells cs t fz) ∧ l.length ≤ fz.1 ∧ ∀ j (h : j < l.length), cs[j]? = some (bv l[j])
theorem RowB.lt {w : World} {p : Nat} {l : List UInt8} (h : RowB w p l) : p < w.heap.size := by
 obtain ⟨cs, t, fz, h1, _⟩ := h; exact heap_lt h1
theorem RowB.cell {w : World} {p : Nat} {l : List UInt8} (h : RowB w p l) (j : Nat) (hj : j < l.length) : w.cell? ⟨p, j, none⟩ = some (bv l[j]) := by
 obtain ⟨cs, t, fz, h1, h2, h3⟩ := h
 rw [heap_cell h1, h3 j hj]
theorem RowB.free {w : World} {p : Nat} {l : List UInt8} (h : RowB w p l) (j : Nat) (hj : j < l.length) : w.frozen? ⟨p, j, none⟩ = false := by
 obtain ⟨cs, t, fz, h1, h2, h3⟩ := h
 have : ¬ fz.1 ≤ j := by omega
 simp [World.frozen?, h1, this]
theorem RowB.alloc {w : World} {p : Nat} {l : List UInt8} (h : RowB w p l) (o : Obj) : RowB (w.alloc o) p l := by
 obtain ⟨cs, t, fz, h1, h2⟩ := h; exact ⟨cs, t, fz, heap_alloc h1, h2⟩
theorem RowB.drew {w : World} {p : Nat} {l : List UInt8} (h : RowB w p l) : RowB w.drew p l := h
theorem RowB.below {w w' : World} {p B : Nat} {l : List UInt8} (h : RowB w p l) (hb : Below B w w') (hB : p < B) : RowB w' p l := by
 obtain ⟨cs, t, fz, h1, h2⟩ := h; exact ⟨cs, t, fz, heap_below h1 hb hB, h2⟩
theorem RowB.setOther {w : World} {p : Nat} {l : List UInt8} (h : RowB w p l) {a : Addr} (hne : p ≠ a.block) (v : Value) : RowB (w.setCell a v) p l := by
 obtain ⟨cs, t, fz, h1, h2⟩ := h; exact ⟨cs, t, fz, heap_setOther h1 hne v, h2⟩
theorem conv_str (s : ByteArray) (w : World) : (convert 9 121 (.string s)).run Try.prog w = .ok (.slice (some ⟨w.heap.size, 0, none⟩) s.size (grownCap w s.size 0 5)) (bytesWorld w 5 s) :=
 Lib.run_convert_string_bytes w 9 121 5 s Try.underlying9 Try.underlying121 Try.underlying5
theorem RowB.conv (s : ByteArray) (w : World) : RowB (bytesWorld w 5 s) w.heap.size s.data.toList := by
 refine ⟨_, _, _, bytesWorld_at_new w _ s, ?_, ?_⟩
 ·simp [bytesCells]
 ·intro j hj
  have hj' : j < s.data.size := by simpa using hj
  unfold bytesCells
  rw [Array.getElem?_append_left (by simpa using hj')]
  rw [Array.getElem?_map, Array.getElem?_eq_getElem hj']
  rfl
theorem Below.conv (s : ByteArray) (w : World) (B : Nat) (hB : B ≤ w.heap.size) : Below B w (bytesWorld w 5 s) := by
 refine ⟨?_, ?_, ?_, by rw [bytesWorld_size]; omega, fun k hk => bytesWorld_at_old w _ s k (by omega)⟩ <;>
  simp [bytesWorld, World.freeze, World.alloc, World.drew, -World.alloc_eq, -World.drew_eq]
end Go.Proofs.Ytihbhpggpnmifaa
namespace Go.Proofs.Ytihbhpggpnmifaa
open Go.RowKit Go.Lib Hw
theorem bits_or32 (x y : BitVec 32) : bits .or .u32 (toU x) (toU y) = toU (x ||| y) := by
 simp only [bits, IntKind.bits]
 rw [ofInt_toU, ofInt_toU, IntKind.wrap_u32]
 show ((x ||| y).toNat : Int) % 4294967296 = _
 have := (x ||| y).isLt
 unfold toU; omega
theorem toU_shl (x : BitVec 32) (m : Nat) : toU x * 2 ^ m % 4294967296 = toU (x <<< m) := by
 unfold toU
 rw [BitVec.toNat_shiftLeft, Nat.shiftLeft_eq]
 have h : ((2 : Int) ^ m) = (((2 : Nat) ^ m : Nat) : Int) := by simp
 rw [h, ← Int.natCast_mul]
 omega
def rotr (n : Nat) (x : BitVec 32) : BitVec 32 := (x <<< (32 - n)) ||| (x >>> n)
theorem rot_any (X : BitVec 32) (k : Int) (m : Nat) (w : World) (hm : 0 < m ∧ m < 32) (hk : bits .and .u64 (IntKind.u64.wrap k) 31 = (m : Int)) :
  Calls Try.prog 95 #[.int .u32 (toU X), .int .i64 k] w fun e w' => e = .returned (.int .u32 (toU ((X <<< m) ||| (X >>> (32 - m))))) ∧ w = w' := by
 go_enter Try.func95, Try.ntmps95
 go_wp2_with fail
 go_ret
 refine ⟨?_, rfl⟩
 rw [← bits_or32, ← toU_shl, toU_shift]
 rfl
theorem rotr_any (X : BitVec 32) (n : Nat) (k : Int) (w : World) (hn : 0 < n ∧ n < 32) (hk : bits .and .u64 (IntKind.u64.wrap k) 31 = ((32 - n : Nat) : Int)) :
  Calls Try.prog 95 #[.int .u32 (toU X), .int .i64 k] w fun e w' => e = .returned (.int .u32 (toU (rotr n X))) ∧ w = w' := by
 have h := rot_any X k (32 - n) w (by omega) hk
 have e : 32 - (32 - n) = n := by omega
 rw [e] at h
 exact h
theorem wide_any (n : Int) (w : World) : Calls Try.prog 73 #[.int .i64 n] w fun e w' => e = .returned (.bool (decide (1 ≤ n) && decide (n ≤ 32))) ∧ w = w' := by
 go_enter Try.func73, Try.ntmps73
 cases h1 : decide (1 ≤ n)
 ·go_wp2
  go_ret
  exact ⟨rfl, rfl⟩
 ·cases h2 : decide (n ≤ 32)
  ·go_wp2
   go_ret
   exact ⟨rfl, rfl⟩
  ·go_wp2
   go_ret
   exact ⟨rfl, rfl⟩
theorem begin_any (w : World) : Calls Try.prog 91 #[] w fun e w' => e = .returned (.agg #[.int .u32 0x6a09e667, .int .u32 0xbb67ae85, .int .u32 0x3c6ef372, .int .u32 0xa54ff53a, .int .u32 0x510e527f, .int .u32 0x9b05688c, .int .u32 0x1f83d9ab, .int .u32 0x5be0cd19]) ∧ Below w.heap.size w w' := by
 go_enter Try.func91, Try.ntmps91
 go_wp2_with fail
 exact bodyPost_ret (v := .agg #[.int .u32 0x6a09e667, .int .u32 0xbb67ae85, .int .u32 0x3c6ef372, .int .u32 0xa54ff53a, .int .u32 0x510e527f, .int .u32 0x9b05688c, .int .u32 0x1f83d9ab, .int .u32 0x5be0cd19]) (by simp [results, Try.results91, go_sem]) rfl ⟨rfl, (Below.refl _ _).alloc (Nat.le_refl _) _⟩
def shaK : List Int := [1116352408, 1899447441, 3049323471, 3921009573, 961987163, 1508970993, 2453635748, 2870763221, 3624381080, 310598401, 607225278, 1426881987, 1925078388, 2162078206, 2614888103, 3248222580, 3835390401, 4022224774, 264347078, 604807628, 770255983, 1249150122, 1555081692, 1996064986, 2554220882, 2821834349, 2952996808, 3210313671, 3336571891, 3584528711, 113926993, 338241895, 666307205, 773529912, 1294757372, 1396182291, 1695183700, 1986661051, 2177026350, 2456956037, 2730485921, 2820302411, 3259730800, 3345764771, 3516065817, 3600352804, 4094571909, 275423344, 430227734, 506948616, 659060556, 883997877, 958139571, 1322822218, 1537002063, 1747873779, 1955562222, 2024104815, 2227730452, 2361852424, 2428436474, 2756734187, 3204031479, 3329325298]
def shaKs : Array Value := (shaK.map (Value.int .u32 ·)).toArray
theorem there_new (w : World) (cs : Array Value) (ty : TypeId) (n : Nat) (hn : n ≤ cs.size) : (w.alloc (.cells cs ty)).there w.heap.size 0 n := by
 intro j hj
 rw [Nat.zero_add, heap_cell (heap_new w _), heap_free (heap_new w _)]
 exact ⟨by simp; omega, rfl⟩
theorem shaKs_one : shaKs.all (·.oneCell') = true := by decide +kernel
theorem build_K (ρ : Operand → Value) (hρ : ∀ v, ρ (.const v) = v) (w : World) : (execOp ρ ⟨some 1, .build 147 #[(0, .const (.int .u32 1116352408)), (1, .const (.int .u32 1899447441)), (2, .const (.int .u32 3049323471)), (3, .const (.int .u32 3921009573)), (4, .const (.int .u32 961987163)), (5, .const (.int .u32 1508970993)), (6, .const (.int .u32 2453635748)), (7, .const (.int .u32 2870763221)), (8, .const (.int .u32 3624381080)), (9, .const (.int .u32 310598401)), (10, .const (.int .u32 607225278)), (11, .const (.int .u32 1426881987)), (12, .const (.int .u32 1925078388)), (13, .const (.int .u32 2162078206)), (14, .const (.int .u32 2614888103)), (15, .const (.int .u32 3248222580)), (16, .const (.int .u32 3835390401)), (17, .const (.int .u32 4022224774)), (18, .const (.int .u32 264347078)), (19, .const (.int .u32 604807628)), (20, .const (.int .u32 770255983)), (21, .const (.int .u32 1249150122)), (22, .const (.int .u32 1555081692)), (23, .const (.int .u32 1996064986)), (24, .const (.int .u32 2554220882)), (25, .const (.int .u32 2821834349)), (26, .const (.int .u32 2952996808)), (27, .const (.int .u32 3210313671)), (28, .const (.int .u32 3336571891)), (29, .const (.int .u32 3584528711)), (30, .const (.int .u32 113926993)), (31, .const (.int .u32 338241895)), (32, .const (.int .u32 666307205)), (33, .const (.int .u32 773529912)), (34, .const (.int .u32 1294757372)), (35, .const (.int .u32 1396182291)), (36, .const (.int .u32 1695183700)), (37, .const (.int .u32 1986661051)), (38, .const (.int .u32 2177026350)), (39, .const (.int .u32 2456956037)), (40, .const (.int .u32 2730485921)), (41, .const (.int .u32 2820302411)), (42, .const (.int .u32 3259730800)), (43, .const (.int .u32 3345764771)), (44, .const (.int .u32 3516065817)), (45, .const (.int .u32 3600352804)), (46, .const (.int .u32 4094571909)), (47, .const (.int .u32 275423344)), (48, .const (.int .u32 430227734)), (49, .const (.int .u32 506948616)), (50, .const (.int .u32 659060556)), (51, .const (.int .u32 883997877)), (52, .const (.int .u32 958139571)), (53, .const (.int .u32 1322822218)), (54, .const (.int .u32 1537002063)), (55, .const (.int .u32 1747873779)), (56, .const (.int .u32 1955562222)), (57, .const (.int .u32 2024104815)), (58, .const (.int .u32 2227730452)), (59, .const (.int .u32 2361852424)), (60, .const (.int .u32 2428436474)), (61, .const (.int .u32 2756734187)), (62, .const (.int .u32 3204031479)), (63, .const (.int .u32 3329325298))], 147, "hash.go:11", #[], none⟩).run Try.prog w = .ok (.value (.agg shaKs)) w := by
 simp only [execOp, List.map_toArray, List.map_cons, List.map_nil, hρ]
 kernel_rfl
theorem info_K : (Try.prog.info? 147).map (·.size) = some shaKs.size := by kernel_rfl
def setL (cs : Array Value) : Nat → List Value → Array Value
 | _, [] => cs
 | o, v :: r => setL (cs.setIfInBounds o v) (o + 1) r
theorem setL_get (vs : List Value) (o : Nat) (cs : Array Value) (h : o + vs.length ≤ cs.size) (k : Nat) : (setL cs o vs)[k]? = if o ≤ k ∧ k < o + vs.length then vs[k - o]? else cs[k]? := by
 induction vs generalizing o cs with
 | nil => rw [if_neg (by simp)]; rfl
 | cons v r ih =>
  simp only [setL]
  rw [List.length_cons] at h
  rw [ih (o + 1) _ (by simp; omega)]
  by_cases h1 : o + 1 ≤ k ∧ k < o + 1 + r.length
  ·rw [if_pos h1, if_pos (by rw [List.length_cons]; omega)]
   have : k - o = (k - (o + 1)) + 1 := by omega
   rw [this, List.getElem?_cons_succ]
  ·rw [if_neg h1, Array.getElem?_setIfInBounds]
   by_cases h2 : o = k
   ·subst h2; rw [if_pos rfl, if_pos (by omega), if_pos (by rw [List.length_cons]; omega)]; simp
   ·rw [if_neg h2, if_neg (by rw [List.length_cons]; omega)]
theorem setL_all (vs : List Value) (cs : Array Value) (h : vs.length = cs.size) : setL cs 0 vs = vs.toArray := by
 apply Array.ext_getElem?
 intro k
 rw [setL_get vs 0 cs (by omega) k]
 by_cases hk : k < vs.length
 ·rw [if_pos (by omega)]; simp
 ·rw [if_neg (by omega), Array.getElem?_eq_none (by omega), Array.getElem?_eq_none (by simp; omega)]
theorem setCells_heap (vs : List Value) (w : World) (b o : Nat) (cs : Array Value) (ty : TypeId) (fz : Nat × Nat) (h : w.heap[b]? = some (.cells cs ty fz)) : (w.setCells b o vs).heap[b]? = some (.cells (setL cs o vs) ty fz) := by
 induction vs generalizing o w cs with
 | nil => exact h
 | cons v r ih => exact ih _ _ _ (heap_set h v)
theorem setCells_below (vs : List Value) (w : World) (b o B : Nat) (hB : B ≤ b) : Below B w (w.setCells b o vs) := by
 induction vs generalizing o w with
 | nil => exact Below.refl _ _
 | cons v r ih => exact ((Below.refl B w).setCell (p := ⟨b, o, none⟩) hB v).trans (ih _ _)
theorem setCells_other (vs : List Value) (w : World) (b o c : Nat) (hc : c ≠ b) : (w.setCells b o vs).heap[c]? = w.heap[c]? := by
 induction vs generalizing o w with
 | nil => rfl
 | cons v r ih =>
  simp only [World.setCells]
  rw [ih]
  exact Below.heap_setCell _ _ _ _ hc
theorem range_all {w : World} {b : Nat} {cs : List Value} {ty : TypeId} {fz : Nat × Nat} (h : w.heap[b]? = some (.cells cs.toArray ty fz)) : w.rangeAt b 0 cs := by
 intro j v hv
 rw [Nat.zero_add, heap_cell h]
 simpa using hv
theorem there_all {w : World} {b : Nat} {cs : Array Value} {ty : TypeId} (h : w.heap[b]? = some (.cells cs ty (0, 0))) : w.there b 0 cs.size := by
 intro j hj
 rw [Nat.zero_add, heap_cell h, heap_free h]
 exact ⟨by simp; omega, rfl⟩
theorem new_set (w : World) (cs vs : Array Value) (ty : TypeId) (h : vs.toList.length = cs.size) :
  ((w.alloc (.cells cs ty)).setCells w.heap.size 0 vs.toList).heap[w.heap.size]? = some (.cells vs ty (0, 0)) ∧ Below w.heap.size w ((w.alloc (.cells cs ty)).setCells w.heap.size 0 vs.toList) := by
 have h1 := setCells_heap vs.toList _ w.heap.size 0 _ _ _ (heap_new w (.cells cs ty))
 rw [setL_all _ _ h] at h1
 exact ⟨h1, ((Below.refl _ _).alloc (Nat.le_refl _) _).trans (setCells_below _ _ _ _ _ (Nat.le_refl _))⟩
theorem wpList_name {P : Program} {ops : Array Oper} {l : List Oper} {Q : Exit → Act → World → Prop} {a : Act} {w : World} (F : World → Prop) (h0 : F w) (h : ∀ W, F W → wpList P ops Q l a W) : wpList P ops Q l a w := h w h0
theorem loadK (W : World) (b : Nat) (h : W.heap[b]? = some (.cells shaKs 147 (0, 0))) : (loadVar 147 ⟨b, 0, none⟩).run Try.prog W = .ok (.agg shaKs) W :=
 run_loadVar_mid (P := Try.prog) W b 0 147 shaKs.toList _ (range_all (cs := shaKs.toList) (by exact h)) Try.underlying147 rfl (by kernel_rfl)
theorem results_cell1 {P : Program} {fn : Func} {tmps : Array Value} {a : Nat} {t : TypeId} {A : Addr} {v : Value} {w : World} (hr : fn.results = #[.cell a t]) (ha : tmps.getD a undef = .pointer (some A)) (hl : (loadVar t A).run P w = .ok v w) :
  (results fn tmps).run P w = .ok v w := by
 unfold results
 rw [hr]
 have ha' : tmps[a]?.getD undef = .pointer (some A) := by rw [← ha]; simp
 simp [ha', hl, asAddr]
set_option maxRecDepth 100000 in
theorem constants_any (w : World) : Calls Try.prog 96 #[] w fun e w' => e = .returned (.agg shaKs) ∧ Below w.heap.size w w' := by
 go_enter Try.func96, Try.ntmps96
 go_upto_region 1 with fail
 refine wp_region_list ?_
 refine wpList_plain rfl fun K hK => ?_
 show Oper.upon _ _ _ _ _ ((execOp _ _).run _ _)
 rw [build_K _ (fun v => rfl)]
 refine hK _ _ ?_
 refine wpList_store_mid rfl 147 _ _ rfl w.heap.size 0 shaKs rfl rfl (there_new w _ _ _ (by decide +kernel)) info_K shaKs_one ?_
 refine wpList_name (fun W => W.heap[w.heap.size]? = some (.cells shaKs 147 (0, 0)) ∧ Below w.heap.size w W) (new_set w _ shaKs _ (by decide +kernel)) (fun W2 hW2 => ?_)
 have h2 := Lib.hid hW2.1
 have hb := Lib.hid hW2.2
 clear hW2
 have hl := loadK W2 w.heap.size h2.out
 go_wp2_with fail
 refine bodyPost_ret (v := .agg shaKs) ?_ rfl ⟨rfl, hb.out⟩
 exact results_cell1 Try.results96 rfl hl
end Go.Proofs.Ytihbhpggpnmifaa
namespace Hw
open Go
def sg0 (x : BitVec 32) : BitVec 32 := Go.Proofs.Ytihbhpggpnmifaa.rotr 7 x ^^^ Go.Proofs.Ytihbhpggpnmifaa.rotr 18 x ^^^ (x >>> 3)
def sg1 (x : BitVec 32) : BitVec 32 := Go.Proofs.Ytihbhpggpnmifaa.rotr 17 x ^^^ Go.Proofs.Ytihbhpggpnmifaa.rotr 19 x ^^^ (x >>> 10)
def bigE (x : BitVec 32) : BitVec 32 := Go.Proofs.Ytihbhpggpnmifaa.rotr 6 x ^^^ Go.Proofs.Ytihbhpggpnmifaa.rotr 11 x ^^^ Go.Proofs.Ytihbhpggpnmifaa.rotr 25 x
def bigA (x : BitVec 32) : BitVec 32 := Go.Proofs.Ytihbhpggpnmifaa.rotr 2 x ^^^ Go.Proofs.Ytihbhpggpnmifaa.rotr 13 x ^^^ Go.Proofs.Ytihbhpggpnmifaa.rotr 22 x
def chF (e f g : BitVec 32) : BitVec 32 := (e &&& f) ^^^ (~~~ e &&& g)
def majF (a b c : BitVec 32) : BitVec 32 := ((a &&& b) ^^^ (a &&& c)) ^^^ (b &&& c)
def word4 (a b c d : UInt8) : BitVec 32 := (((ext8 a <<< 24) ||| (ext8 b <<< 16)) ||| (ext8 c <<< 8)) ||| ext8 d
def words : Nat → List UInt8 → List (BitVec 32)
 | 0, _ => []
 | n + 1, l => words n l ++ [word4 (l.getD (4 * n) 0) (l.getD (4 * n + 1) 0) (l.getD (4 * n + 2) 0) (l.getD (4 * n + 3) 0)]
def schedW (m : List (BitVec 32)) : BitVec 32 := m.getD (m.length - 16) 0 + m.getD (m.length - 7) 0 + sg0 (m.getD (m.length - 15) 0) + sg1 (m.getD (m.length - 2) 0)
def schedN : Nat → List (BitVec 32) → List (BitVec 32)
 | 0, m => m
 | n + 1, m => schedN n m ++ [schedW (schedN n m)]
theorem words_length (n : Nat) (l : List UInt8) : (words n l).length = n := by
 induction n with
 | zero => rfl
 | succ n ih => simp [words, ih]
structure S8 where
 a : BitVec 32
 b : BitVec 32
 c : BitVec 32
 d : BitVec 32
 e : BitVec 32
 f : BitVec 32
 g : BitVec 32
 h : BitVec 32
def S8.list (v : S8) : List (BitVec 32) := [v.a, v.b, v.c, v.d, v.e, v.f, v.g, v.h]
def roundS (k w : BitVec 32) (v : S8) : S8 :=
 let one := v.h + k + w + bigE v.e + chF v.e v.f v.g
 let two := bigA v.a + majF v.a v.b v.c
 ⟨one + two, v.a, v.b, v.c, v.d + one, v.e, v.f, v.g⟩
def roundsN (k w : List (BitVec 32)) : Nat → S8 → S8
 | 0, v => v
 | n + 1, v => roundS (k.getD n 0) (w.getD n 0) (roundsN k w n v)
def addS (x y : S8) : S8 := ⟨x.a + y.a, x.b + y.b, x.c + y.c, x.d + y.d, x.e + y.e, x.f + y.f, x.g + y.g, x.h + y.h⟩
def shaKB : List (BitVec 32) := Go.Proofs.Ytihbhpggpnmifaa.shaK.map (BitVec.ofInt 32 ·)
def shaBlock (v : S8) (l : List UInt8) : S8 := addS v (roundsN shaKB (schedN 48 (words 16 l)) 64 v)
end Hw
namespace Go.Proofs.Ytihbhpggpnmifaa
open Go.RowKit
structure Kept (B : Nat) (w w' : World) : Prop where
 os : w'.os = w.os
 tape : w'.tape = w.tape
 output : w'.output = w.output
 size : w.heap.size ≤ w'.heap.size
 block : ∀ k, k < w.heap.size → k ≠ B → w'.heap[k]? = w.heap[k]?
theorem Kept.refl (B : Nat) (w : World) : Kept B w w := ⟨rfl, rfl, rfl, Nat.le_refl _, fun _ _ _ => rfl⟩
theorem Kept.trans {B : Nat} {a b c : World} (h : Kept B a b) (k : Kept B b c) : Kept B a c :=
 ⟨k.os.trans h.os, k.tape.trans h.tape, k.output.trans h.output, Nat.le_trans h.size k.size, fun i hi hn => (k.block i (Nat.lt_of_lt_of_le hi h.size) hn).trans (h.block i hi hn)⟩
theorem Kept.of {B : Nat} {w w' : World} (h : Below w.heap.size w w') : Kept B w w' := ⟨h.os, h.tape, h.output, h.size, fun k hk _ => h.block k hk⟩
theorem Kept.below {B n : Nat} {w w' : World} (h : Kept B w w') (hn : n ≤ B) (hz : n ≤ w.heap.size) : Below n w w' :=
 ⟨h.os, h.tape, h.output, h.size, fun k hk => h.block k (by omega) (by omega)⟩
theorem Kept.low {B : Nat} {a b c : World} (h : Kept B a b) (k : Below a.heap.size b c) : Kept B a c :=
 ⟨k.os.trans h.os, k.tape.trans h.tape, k.output.trans h.output, Nat.le_trans h.size k.size, fun i hi hn => (k.block i hi).trans (h.block i hi hn)⟩
theorem Kept.set {B : Nat} (w : World) (o : Nat) (v : Value) : Kept B w (w.setCell ⟨B, o, none⟩ v) := by
 have h := (Below.refl B w).setCell (p := ⟨B, o, none⟩) (Nat.le_refl _) v
 refine ⟨h.os, h.tape, h.output, h.size, fun k hk hn => ?_⟩
 exact Below.heap_setCell _ _ _ _ hn
theorem Kept.heap {B : Nat} {w w' : World} {b : Nat} {o : Obj} (h : Kept B w w') (hb : w.heap[b]? = some o) (hn : b ≠ B) : w'.heap[b]? = some o := (h.block b (heap_lt hb) hn).trans hb
theorem Kept.drew {B : Nat} {a b : World} (h : Kept B a b) : Kept B a b.drew := ⟨h.os, h.tape, h.output, h.size, h.block⟩
end Go.Proofs.Ytihbhpggpnmifaa
namespace Hw
open Go
def shaN (v : S8) (l : List UInt8) : Nat → S8
 | 0 => v
 | n + 1 => shaBlock (shaN v l n) ((l.drop (64 * n)).take 64)
def sha0 : S8 := ⟨0x6a09e667#32, 0xbb67ae85#32, 0x3c6ef372#32, 0xa54ff53a#32, 0x510e527f#32, 0x9b05688c#32, 0x1f83d9ab#32, 0x5be0cd19#32⟩
def padOf (n : Nat) : List UInt8 := 0x80 :: (List.replicate ((119 - n % 64) % 64) 0 ++ be 8 (8 * n))
def shaOut (v : S8) : List UInt8 := v.list.flatMap (fun x => be 4 x.toNat)
def padded (l : List UInt8) : List UInt8 := l ++ padOf l.length
def sha256 (l : List UInt8) : List UInt8 := shaOut (shaN sha0 (padded l) ((padded l).length / 64))
theorem shaN_take (v : S8) (l m : List UInt8) (n : Nat) (h : l.take (64 * n) = m.take (64 * n)) : shaN v l n = shaN v m n := by
 induction n with
 | zero => rfl
 | succ n ih =>
  have e1 : l.take (64 * n) = m.take (64 * n) := by
   have h1 := congrArg (List.take (64 * n)) h
   rw [List.take_take, List.take_take, Nat.min_eq_left (by omega)] at h1
   exact h1
  have e2 : (l.drop (64 * n)).take 64 = (m.drop (64 * n)).take 64 := by
   have h1 := congrArg (List.drop (64 * n)) h
   rw [List.drop_take, List.drop_take] at h1
   have e : 64 * (n + 1) - 64 * n = 64 := by omega
   rw [e] at h1
   exact h1
  simp only [shaN]
  rw [ih e1, e2]
theorem shaN_append (v : S8) (l m : List UInt8) (n : Nat) (h : 64 * n ≤ l.length) : shaN v (l ++ m) n = shaN v l n :=
 shaN_take v _ _ n (by rw [List.take_append_of_le_length h])
theorem shaN_add (v : S8) (l : List UInt8) (a b : Nat) : shaN v l (a + b) = shaN (shaN v l a) (l.drop (64 * a)) b := by
 induction b with
 | zero => rfl
 | succ b ih =>
  show shaBlock (shaN v l (a + b)) _ = shaBlock _ _
  rw [ih, List.drop_drop, show 64 * a + 64 * b = 64 * (a + b) by omega]
  rfl
theorem padOf_length (n : Nat) : (padOf n).length = 9 + (119 - n % 64) % 64 := by simp [padOf, be_length]; omega
theorem padOf_mod (n m : Nat) (h : n % 64 = m % 64) : padOf n = 0x80 :: (List.replicate ((119 - m % 64) % 64) 0 ++ be 8 (8 * n)) := by unfold padOf; rw [h]
theorem padded_mod (l : List UInt8) : (padded l).length % 64 = 0 := by
 unfold padded; rw [List.length_append, padOf_length]; omega
theorem shaOut_length (v : S8) : (shaOut v).length = 32 := by simp [shaOut, S8.list, be_length]
theorem sha256_length (l : List UInt8) : (sha256 l).length = 32 := shaOut_length _
def stOf (l : List UInt8) : S8 := shaN sha0 l (l.length / 64)
def restOf (l : List UInt8) : List UInt8 := l.drop (64 * (l.length / 64))
theorem restOf_length (l : List UInt8) : (restOf l).length = l.length % 64 := by unfold restOf; rw [List.length_drop]; omega
theorem restOf_lt (l : List UInt8) : (restOf l).length < 64 := by rw [restOf_length]; omega
theorem more_less (l x : List UInt8) (h : (restOf l).length + x.length < 64) : stOf (l ++ x) = stOf l ∧ restOf (l ++ x) = restOf l ++ x := by
 rw [restOf_length] at h
 have e : (l ++ x).length / 64 = l.length / 64 := by rw [List.length_append]; omega
 have e2 : 64 * (l.length / 64) ≤ l.length := by omega
 constructor
 ·unfold stOf; rw [e, shaN_append _ _ _ _ e2]
 ·unfold restOf; rw [e, List.drop_append_of_le_length e2]
theorem more_full (l x : List UInt8) (h : (restOf l).length + x.length = 64) : stOf (l ++ x) = shaBlock (stOf l) (restOf l ++ x) ∧ restOf (l ++ x) = [] := by
 rw [restOf_length] at h
 have e : (l ++ x).length / 64 = l.length / 64 + 1 := by rw [List.length_append]; omega
 have e2 : 64 * (l.length / 64) ≤ l.length := by omega
 constructor
 ·unfold stOf restOf
  rw [e]
  show shaBlock _ _ = _
  rw [shaN_append _ _ _ _ e2, List.drop_append_of_le_length e2, List.take_of_length_le (by rw [List.length_append, List.length_drop]; omega)]
 ·unfold restOf
  rw [e, List.drop_of_length_le (by rw [List.length_append]; omega)]
theorem sha256_eq (l : List UInt8) : sha256 l = shaOut (shaN (stOf l) (restOf l ++ padOf l.length) ((restOf l ++ padOf l.length).length / 64)) := by
 have e2 : 64 * (l.length / 64) ≤ l.length := by omega
 have hd : (padded l).drop (64 * (l.length / 64)) = restOf l ++ padOf l.length := by
  unfold padded restOf; rw [List.drop_append_of_le_length e2]
 have e : (padded l).length / 64 = l.length / 64 + (restOf l ++ padOf l.length).length / 64 := by
  have := padded_mod l
  rw [List.length_append, restOf_length]
  unfold padded at *; rw [List.length_append] at *
  omega
 unfold sha256
 rw [e, shaN_add, hd]
 unfold stOf padded
 rw [shaN_append _ _ _ _ e2]
end Hw
namespace Go.Proofs.Ytihbhpggpnmifaa
open Go.RowKit Go.Lib
theorem own_size {w : World} {B : Nat} {v : Value} {bs : List UInt8} (h : OwnB w B v bs) : ∃ ad c, v = .slice ad bs.length c ∧ (ad = none → bs = [] ∧ c = 0) ∧ ∀ a, ad = some a → ∃ g, a = ⟨g, 0, none⟩ ∧ B ≤ g ∧ g < w.heap.size ∧ bs.length ≤ c := by
 rcases h.2 with ⟨rfl, h0⟩ | ⟨g, cap, cur, rfl, hb, hg, hn, _⟩
 ·have : bs = [] := List.eq_nil_of_length_eq_zero h0
  subst this
  exact ⟨none, 0, rfl, fun _ => ⟨rfl, rfl⟩, (fun a h => by cases h)⟩
 ·refine ⟨some ⟨g, 0, none⟩, cap, rfl, (fun h => by cases h), fun a h => ?_⟩
  cases h
  exact ⟨g, rfl, hb, heap_lt hg, hn⟩
theorem run_appStr {w : World} {B : Nat} {v : Value} {bs : List UInt8} (hown : OwnB w B v bs) (s : ByteArray) (ty : TypeId) (hpos : 0 < s.size) (hlen : bs.length + s.size ≤ 140737488355328) (hB : B ≤ w.heap.size) :
  ∃ g cap w', (Builtin.append_ #[121, 9] ty #[v, .string s]).run Try.prog w = .ok (.slice (some ⟨g, 0, none⟩) (bs.length + s.size) cap) w' ∧ OwnB w' B (.slice (some ⟨g, 0, none⟩) (bs.length + s.size) cap) (bs ++ s.data.toList) ∧ w.grownBy w' v.ownBlock ∧
   (v.ownBlock = some g ∨ g = w.heap.size) ∧ g < w'.heap.size := by
 obtain ⟨i, hi, hz0, hz1, hz2⟩ := info_parts info_u8
 obtain ⟨v', w', hr, h2, h3, h4⟩ := run_append_own_string (P := Try.prog) w B 121 9 ty 5 i Try.underlying121 Try.underlying9 hi hz0 hz1 hz2 v bs.length (bs.map bv) hown s (by rw [maxLen_eq]; omega) hlen hB
 obtain ⟨g, cap, rfl, _, hlt⟩ := h2.form (by omega)
 have hsz : s.data.toList.length = s.size := by rw [Array.length_toList]; rfl
 refine ⟨g, cap, w', hr, ?_, h3, ?_, hlt⟩
 ·unfold OwnB
  rw [List.length_append, List.map_append, hsz]
  exact h2
 ·rcases hown.2 with ⟨rfl, h0⟩ | ⟨g0, cap0, cur, rfl, hb, hg, hn, hc, hcs, ht⟩
  ·have hr' := run_append_nil_string (P := Try.prog) w 121 9 ty 5 i (.int .u8 0) Try.underlying121 Try.underlying9 hi hz0 s hpos (by omega) (by rw [hz2]; omega)
   rw [hr] at hr'
   injection hr' with e1 e2
   injection e1 with e3
   injection e3 with e4
   injection e4 with e5
   exact .inr e5
  ·by_cases hroom : bs.length + s.size ≤ cap0
   ·have hr' := run_append_room_string (P := Try.prog) w 121 9 ty 5 i Try.underlying121 Try.underlying9 hi hz1 g0 bs.length cap0 cur hg s hroom (by omega)
    rw [hr] at hr'
    injection hr' with e1 e2
    injection e1 with e3
    injection e3 with e4
    injection e4 with e5
    exact .inl (by rw [e5]; rfl)
   ·have hr' := run_append_grow_string (P := Try.prog) w 121 9 ty 5 i (.int .u8 0) Try.underlying121 Try.underlying9 hi hz0 ⟨g0, 0, none⟩ bs.length cap0 (bs.map bv) (by rw [hz1]; simp) (fun j u hu => World.ownsRow.cells (w := w) hown (g := g0) rfl j u hu) s (by omega) (by omega) (by rw [hz2]; exact growslice_fits (by omega) (by omega))
    rw [hr] at hr'
    injection hr' with e1 e2
    injection e1 with e3
    injection e3 with e4
    injection e4 with e5
    exact .inr e5
theorem step_appS {ops : Array Oper} {o : Oper} {a : Act} {K : Act → World → Prop} {Q : Exit → Act → World → Prop} {E : Prop} (w : World) (hgd : o.guard = none) (sl x : Operand)
  (ho : o.op = .call { callee := .builtin .append, args := #[sl, x], argTypes := #[121, 9] })
  (B : Nat) (v : Value) (bs : List UInt8) (hs : a.eval sl = v) (hown : OwnB w B v bs) (s : ByteArray) (hx : a.eval x = .string s)
  (hpos : 0 < s.size) (hlen : bs.length + s.size ≤ 140737488355328) (hB : B ≤ w.heap.size) (H : Nat) (hH : w.heap.size = H)
  (h : ∀ g cap w', OwnB w' B (.slice (some ⟨g, 0, none⟩) (bs.length + s.size) cap) (bs ++ s.data.toList) → w.grownBy w' v.ownBlock → (v.ownBlock = some g ∨ g = H) → g < w'.heap.size →
   K (a.put o.dst (.slice (some ⟨g, 0, none⟩) (bs.length + s.size) cap)) w') : if Region.wanted o (yielded ops a.tmps) = true then Oper.wp Try.prog o a w K Q else E := by
 subst hH
 have hw : Region.wanted o (yielded ops a.tmps) = true := by simp [Region.wanted, hgd]
 rw [if_pos hw]
 obtain ⟨g, cap, w', hr, h2, h3, h4, h5⟩ := run_appStr hown s o.type hpos hlen hB
 unfold Oper.wp execOp
 simp only [ho, resolve, invoke, builtin, Sem.run_bind, Sem.run_pure, Result.andThen_ok, List.map_toArray, List.map_cons, List.map_nil, hs, hx, hr]
 exact h g cap w' h2 h3 h4 h5
end Go.Proofs.Ytihbhpggpnmifaa
