/-
  What every law's frame asks of this seat's program; views of plain parameters.
-/
import Derived.Test.YtkngmnfgdlnddaaRows
import Derived.WalkKit
import Derived.ProofKit
import Derived.OpenShut
import Derived.ShutString
import Derived.ChangeOld
import Derived.Below
import Derived.SizedLaws
import Derived.Lib.SmallJoins
namespace Go.Proofs.Ytkngmnfgdlnddaa
open Go.ChangeShapes Go.WideShapes Go.ChangeAt Go.RowKit Go.Joins
open Go.ChangeMaps (open_string shut_string)

theorem own : ownKnob Try.prog.godebug = none := by kernel_rfl
theorem laidOut : laidOutB Try.prog = true := by kernel_rfl

section
variable {H : Type} {enc : TypeId × Value → H} {W : World} {base : Nat} {sp : Nat → Bool} {b1 : Nat} {held : Bool}

theorem wf_i64_bd {n : Int} (h : (Lit.int .i64 n).wf = true) : -9223372036854775808 ≤ n ∧ n ≤ 9223372036854775807 := by
  simpa [Lit.wf, IntKind.min, IntKind.max, IntKind.signed, IntKind.bits] using h
theorem wf_u32_bd {n : Int} (h : (Lit.int .u32 n).wf = true) : 0 ≤ n ∧ n < 4294967296 := by
  have h' : 0 ≤ n ∧ n ≤ 4294967295 := by simpa [Lit.wf, IntKind.min, IntKind.max, IntKind.signed, IntKind.bits] using h
  omega
theorem wf_u8_bd {n : Int} (h : (Lit.int .u8 n).wf = true) : 0 ≤ n ∧ n < 256 := by
  have h' : 0 ≤ n ∧ n ≤ 255 := by simpa [Lit.wf, IntKind.min, IntKind.max, IntKind.signed, IntKind.bits] using h
  omega
theorem wf_u64_bd {n : Int} (h : (Lit.int .u64 n).wf = true) : 0 ≤ n ∧ n < 18446744073709551616 := by
  have h' : 0 ≤ n ∧ n ≤ 18446744073709551615 := by simpa [Lit.wf, IntKind.min, IntKind.max, IntKind.signed, IntKind.bits] using h
  omega

def IsI64 (v : Value) : Prop := ∃ a, v = .int .i64 a ∧ -9223372036854775808 ≤ a ∧ a ≤ 9223372036854775807
def IsU32 (v : Value) : Prop := ∃ a, v = .int .u32 a ∧ 0 ≤ a ∧ a < 4294967296
def IsStr (v : Value) : Prop := ∃ s, v = .string s ∧ s.size ≤ 9223372036854775807

set_option maxRecDepth 100000 in
theorem view_i64 {v : Value} {d : DataW H} {p : List MemPlace} (hv : Value.okWide Try.prog W .any b1 3 v) (h : DataW.Trod enc Try.prog W base sp held 3 v d p) : IsI64 v := by
  obtain ⟨a, rfl, rfl, rfl, wa⟩ := open_int Try.underlying3 hv h
  exact ⟨a, rfl, wf_i64_bd wa⟩
set_option maxRecDepth 100000 in
theorem view_u32 {v : Value} {d : DataW H} {p : List MemPlace} (hv : Value.okWide Try.prog W .any b1 27 v) (h : DataW.Trod enc Try.prog W base sp held 27 v d p) : IsU32 v := by
  obtain ⟨a, rfl, rfl, rfl, wa⟩ := open_int Try.underlying27 hv h
  exact ⟨a, rfl, wf_u32_bd wa⟩
set_option maxRecDepth 100000 in
theorem view_str {v : Value} {d : DataW H} {p : List MemPlace} (hv : Value.okWide Try.prog W .any b1 9 v) (h : DataW.Trod enc Try.prog W base sp held 9 v d p) : IsStr v := by
  obtain ⟨s, rfl, rfl, rfl, hs⟩ := open_string Try.underlying9 hv h
  exact ⟨s, rfl, hs⟩

def IsFrame (v : Value) : Prop := ∃ a b, v = .agg #[.int .i64 a, .int .i64 b] ∧ (-9223372036854775808 ≤ a ∧ a ≤ 9223372036854775807) ∧ (-9223372036854775808 ≤ b ∧ b ≤ 9223372036854775807)
theorem cells_Frame : Try.prog.cellsOf 23 = 2 := by kernel_rfl
set_option maxRecDepth 100000 in
theorem view_Frame {v : Value} {d : DataW H} {p : List MemPlace} (hv : Value.okWide Try.prog W .any b1 23 v) (h : DataW.Trod enc Try.prog W base sp held 23 v d p) : IsFrame v := by
  obtain ⟨c0, c1, y0, y1, m, rfl, rfl, rfl, hy0, hy1⟩ := open_agg2 Try.underlying23 (by kernel_rfl) cells_Frame hv h
  obtain ⟨a, e0, _, wa⟩ := DataW.trod_int Try.underlying3 hy0
  obtain ⟨b, e1, _, wb⟩ := DataW.trod_int Try.underlying3 hy1
  simp at e0 e1
  subst e0 e1
  exact ⟨a, b, rfl, wf_i64_bd wa, wf_i64_bd wb⟩
def IsPage (v : Value) : Prop := ∃ k n r s, v = .agg #[.int .u8 k, .int .u32 n, .int .u64 r, .string s] ∧ (0 ≤ k ∧ k < 256) ∧ (0 ≤ n ∧ n < 4294967296) ∧ (0 ≤ r ∧ r < 18446744073709551616) ∧ s.size ≤ 9223372036854775807
theorem cells_Page : Try.prog.cellsOf 97 = 4 := by kernel_rfl
set_option maxRecDepth 100000 in
theorem view_Page {v : Value} {d : DataW H} {p : List MemPlace} (hv : Value.okWide Try.prog W .any b1 97 v) (h : DataW.Trod enc Try.prog W base sp held 97 v d p) : IsPage v := by
  obtain ⟨c0, c1, c2, c3, y0, y1, y2, y3, m, rfl, rfl, rfl, hy0, hy1, hy2, hy3⟩ := open_agg4 Try.underlying97 (by kernel_rfl) cells_Page hv h
  obtain ⟨a, e0, _, wa⟩ := DataW.trod_int Try.underlying95 hy0
  obtain ⟨b, e1, _, wb⟩ := DataW.trod_int Try.underlying27 hy1
  obtain ⟨c, e2, _, wc⟩ := DataW.trod_int Try.underlying92 hy2
  obtain ⟨s, e3, _, ws⟩ := DataW.trod_string Try.underlying9 hy3
  simp at e0 e1 e2 e3
  subst e0 e1 e2 e3
  exact ⟨a, b, c, s, rfl, wf_u8_bd wa, wf_u32_bd wb, wf_u64_bd wc, by simpa [Lit.wf, maxLen] using ws⟩
end
end Go.Proofs.Ytkngmnfgdlnddaa
