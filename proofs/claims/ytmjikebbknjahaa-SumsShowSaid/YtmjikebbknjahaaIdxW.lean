/-
  The walk of strings.IndexByte.
-/
import Derived.Test.YtmjikebbknjahaaCutW
import Derived.Lib.Bytealg
namespace Go.Proofs.Ytmjikebbknjahaa
open Go.RowKit Go.Lib Hw
set_option linter.unusedVariables false

theorem call_index (s : ByteArray) (c : Int) (w : World) : (callFunc 90 #[.string s, .int .u8 c]).run Try.prog w = .ok (.value (.int .i64 (indexByte s.data.toList c.toNat.toUInt8))) w := by
  rw [run_callFunc_extern Try.func90 (by kernel_rfl) (by kernel_rfl) (by kernel_rfl) (by kernel_rfl : Extern.find _ = some Extern.BytealgIndexByte.indexByte) #[.string s, .int .u8 c] w, run_indexByteString]
  rfl

set_option maxHeartbeats 1000000 in
theorem index_lite (s : ByteArray) (c : UInt8) (w : World) : Calls Try.prog 85 #[.string s, .int .u8 (c.toNat : Int)] w fun e w' => e = .returned (.int .i64 (indexByte s.data.toList c)) ∧ w = w' := by
  have hx : ∀ w, (callFunc 90 #[.string s, .int .u8 (c.toNat : Int)]).run Try.prog w = .ok (.value (.int .i64 (indexByte s.data.toList c))) w := by
    intro w
    rw [call_index]
    have : ((c.toNat : Int)).toNat.toUInt8 = c := by simp
    rw [this]
  go_enter Try.func85, Try.ntmps85
  go_wp2_with fail
  go_ret
  exact ⟨rfl, rfl⟩

set_option maxHeartbeats 1000000 in
theorem index_any (s : ByteArray) (c : UInt8) (w : World) : Calls Try.prog 77 #[.string s, .int .u8 (c.toNat : Int)] w fun e w' => e = .returned (.int .i64 (indexByte s.data.toList c)) ∧ w = w' := by
  go_enter Try.func77, Try.ntmps77
  go_wp2_with (go_at_call 85; refine (index_lite s c _).mono ?_; rintro e w' ⟨rfl, rfl⟩)
  go_ret
  exact ⟨rfl, rfl⟩
end Go.Proofs.Ytmjikebbknjahaa
