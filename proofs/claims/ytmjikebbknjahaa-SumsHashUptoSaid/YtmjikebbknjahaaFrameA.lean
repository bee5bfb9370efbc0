/-
  What every law's frame asks of this seat's program; views of plain parameters.
-/
import Derived.Test.YtmjikebbknjahaaRows
import Derived.WalkKit
import Derived.ProofKit
import Derived.OpenShut
import Derived.ShutString
import Derived.ChangeOld
import Derived.Below
import Derived.SizedLaws
import Derived.Lib.SmallJoins
namespace Go.Proofs.Ytmjikebbknjahaa
open Go.ChangeShapes Go.WideShapes Go.ChangeAt Go.RowKit Go.Joins
open Go.ChangeMaps (open_string shut_string)

theorem own : ownKnob Try.prog.godebug = none := by kernel_rfl
theorem laidOut : laidOutB Try.prog = true := by kernel_rfl

section
variable {H : Type} {enc : TypeId × Value → H} {W : World} {base : Nat} {sp : Nat → Bool} {b1 : Nat} {held : Bool}

theorem wf_i64_bd {n : Int} (h : (Lit.int .i64 n).wf = true) : -9223372036854775808 ≤ n ∧ n ≤ 9223372036854775807 := by
  simpa [Lit.wf, IntKind.min, IntKind.max, IntKind.signed, IntKind.bits] using h
theorem wf_u32_bd {n : Int} (h : (Lit.int .u32 n).wf = true) : 0 ≤ n ∧ n < 4294967296 := by
  have h' : 0 ≤ n ∧ n ≤ 4294967295 := by simpa [Lit.wf, IntKind.min, IntKind.max, IntKind.signed, IntKind.bits] using h
  omega
theorem wf_u8_bd {n : Int} (h : (Lit.int .u8 n).wf = true) : 0 ≤ n ∧ n < 256 := by
  have h' : 0 ≤ n ∧ n ≤ 255 := by simpa [Lit.wf, IntKind.min, IntKind.max, IntKind.signed, IntKind.bits] using h
  omega
theorem wf_u64_bd {n : Int} (h : (Lit.int .u64 n).wf = true) : 0 ≤ n ∧ n < 18446744073709551616 := by
  have h' : 0 ≤ n ∧ n ≤ 18446744073709551615 := by simpa [Lit.wf, IntKind.min, IntKind.max, IntKind.signed, IntKind.bits] using h
  omega

def IsI64 (v : Value) : Prop := ∃ a, v = .int .i64 a ∧ -9223372036854775808 ≤ a ∧ a ≤ 9223372036854775807
def IsU32 (v : Value) : Prop := ∃ a, v = .int .u32 a ∧ 0 ≤ a ∧ a < 4294967296
def IsStr (v : Value) : Prop := ∃ s, v = .string s ∧ s.size ≤ 9223372036854775807

set_option maxRecDepth 100000 in
theorem view_i64 {v : Value} {d : DataW H} {p : List MemPlace} (hv : Value.okWide Try.prog W .any b1 3 v) (h : DataW.Trod enc Try.prog W base sp held 3 v d p) : IsI64 v := by
  obtain ⟨a, rfl, rfl, rfl, wa⟩ := open_int Try.underlying3 hv h
  exact ⟨a, rfl, wf_i64_bd wa⟩
set_option maxRecDepth 100000 in
theorem view_u32 {v : Value} {d : DataW H} {p : List MemPlace} (hv : Value.okWide Try.prog W .any b1 25 v) (h : DataW.Trod enc Try.prog W base sp held 25 v d p) : IsU32 v := by
  obtain ⟨a, rfl, rfl, rfl, wa⟩ := open_int Try.underlying25 hv h
  exact ⟨a, rfl, wf_u32_bd wa⟩
set_option maxRecDepth 100000 in
theorem view_str {v : Value} {d : DataW H} {p : List MemPlace} (hv : Value.okWide Try.prog W .any b1 9 v) (h : DataW.Trod enc Try.prog W base sp held 9 v d p) : IsStr v := by
  obtain ⟨s, rfl, rfl, rfl, hs⟩ := open_string Try.underlying9 hv h
  exact ⟨s, rfl, hs⟩

end
end Go.Proofs.Ytmjikebbknjahaa
