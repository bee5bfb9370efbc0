/-
  The walk of awake: some answers that the document fixes.
-/
import Derived.Test.YtmjikebbknjahaaDigW
import Derived.Test.YtmjikebbknjahaaJoinX
import Derived.Stop.BytesEq
namespace Go.Proofs.Ytmjikebbknjahaa
open Go.RowKit Go.Lib Hw
set_option linter.unusedVariables false

theorem eqD (l m : List UInt8) (hl : l.length = 32) (hm : m.length = 32) (w : World) : (binOp .eql 39 (dv l) (dv m)).run Try.prog w = .ok (.bool (l == m)) w :=
  run_eql_bytes w 39 5 32 Try.underlying39 Try.underlying5 (fun w => size_u8 w) l m hl hm
theorem eqGuardD (l m : List UInt8) (x y : Operand) (w : World) : (eqGuard .eql 39 x y (dv l) (dv m)).run Try.prog w = .ok () w := by kernel_rfl
theorem neGuardD (l m : List UInt8) (x y : Operand) (w : World) : (eqGuard .neq 39 x y (dv l) (dv m)).run Try.prog w = .ok () w := by kernel_rfl
def awakeL : List UInt8 := [0x23, 0xc8, 0x6a, 0x8a, 0, 0, 0, 0, 0, 0, 0, 0, 0, 0, 0, 0, 0, 0, 0, 0, 0, 0, 0, 0, 0, 0, 0, 0, 0, 0, 0, 0]
set_option maxRecDepth 100000 in
theorem awake_dig : digL 4 ⟨#[120]⟩ [] = awakeL := by decide +kernel
theorem awake_dige : digE 4 ⟨#[120]⟩ = 0 := by decide +kernel
theorem awake_crc : toU (~~~ crcParts (BitVec.allOnes 32) [⟨#[49, 50, 51, 52, 53, 54, 55, 56, 57]⟩]) = 3421780262 := by decide +kernel
theorem awake_join : toU (joinV (BitVec.ofInt 32 3421846044) (BitVec.ofInt 32 2646261639) 4) = 3421780262 := by decide +kernel
theorem build_A (ρ : Operand → Value) (hρ : ∀ v, ρ (.const v) = v) (w : World) : (execOp ρ ({ dst := Option.some 14, op := Op.build 39 #[(0, Operand.const (Value.int IntKind.u8 35)), (1, Operand.const (Value.int IntKind.u8 200)), (2, Operand.const (Value.int IntKind.u8 106)), (3, Operand.const (Value.int IntKind.u8 138))], type := 39, pos := "law.go:14", after := #[], guard := Option.none })).run Try.prog w = .ok (.value (dv awakeL)) w := by
  simp only [execOp, List.map_toArray, List.map_cons, List.map_nil, hρ]
  kernel_rfl
theorem join_awake (w : World) : Calls Try.prog 29 #[.int .u32 3421846044, .int .u32 2646261639, .int .i64 4] w fun e w' => e = .returned (.tuple #[.int .u32 3421780262, .int .i64 0]) ∧ Below w.heap.size w w' := by
  have h := Join_pos (BitVec.ofInt 32 3421846044) (BitVec.ofInt 32 2646261639) 4 w (by omega)
  rw [toU_ofInt (by omega) (by omega), toU_ofInt (by omega) (by omega), awake_join] at h
  exact h
theorem StrRow.nil (w : World) : StrRow w (.slice none 0 0) [] := ⟨none, 0, rfl, fun _ => rfl, fun h => by simp at h⟩

set_option maxHeartbeats 4000000 in
theorem awake_any (w : World) : Calls Try.prog 23 #[] w fun e w' => e = .returned (.bool true) ∧ Below w.heap.size w w' := by
  go_enter Try.func23, Try.ntmps23
  go_upto_region 2 with (first
    | (go_at_call 36; refine (Digest_any 4 ⟨#[120]⟩ _ [] _ (StrRow.nil _) (by decide) (by decide)).mono ?_; rintro e w1 ⟨rfl, hb1⟩; rw [awake_dig, awake_dige])
    | (refine wpList_allocD rfl rfl w1.heap.size rfl ?_; intro w2 hd2 hb2 hz2)
    | (refine wpList_storeD rfl _ _ rfl w1.heap.size rfl zeros32 awakeL rfl rfl rfl hd2 ?_; intro w3 hd3 hb3 hk3 hz3))
  have HD3 := Lib.hid hd3
  have HB3 := Lib.hid ((hb1.trans (hb2.mono hb1.size)).trans (hb3.mono hb1.size))
  have hz1 := hb1.size
  clear hd2 hb2 hd3 hb3 hk3
  go_upto_region 3 with (go_at_call 29; refine (join_awake _).mono ?_; rintro e w4 ⟨rfl, hb4⟩)
  have HD4 := Lib.hid (HD3.out.below hb4 (by omega))
  have hz4 := hb4.size
  refine wp_region_list ?_
  refine wpList_plain rfl fun K hK => ?_
  show Oper.upon _ _ _ _ _ ((execOp _ _).run _ _)
  rw [build_A _ (fun v => rfl)]
  refine hK _ _ ?_
  refine wpList_allocD rfl rfl w4.heap.size rfl ?_
  intro w5 hd5 hb5 hz5
  refine wpList_storeD rfl _ _ rfl w4.heap.size rfl zeros32 awakeL rfl rfl rfl hd5 ?_
  intro w6 hd6 hb6 hk6 hz6
  have HD6 := Lib.hid hd6
  have HD7 := Lib.hid ((HD4.out.below hb5 (by omega)).below hb6 (by omega))
  have HB6 := Lib.hid (((HB3.out.trans (hb4.mono (by omega))).trans (hb5.mono (by omega))).trans (hb6.mono (by omega)))
  clear hd5 hb5 hd6 hb6 hk6 HD3 HB3 HD4 hb4
  have heq : ∀ w, (binOp .eql 39 (dv awakeL) (dv awakeL)).run Try.prog w = .ok (.bool true) w := fun w => (eqD awakeL awakeL rfl rfl w).trans (by rw [show (awakeL == awakeL) = true from by decide])
  have heg := eqGuardD awakeL awakeL
  go_upto_region 4 with fail
  have hcrc := crc_any (.slice (some ⟨w6.heap.size, 0, none⟩) 1 1) [⟨#[49, 50, 51, 52, 53, 54, 55, 56, 57]⟩] _ (StrRow.one w6 _ 9) (by decide) (by decide)
  rw [awake_crc, hz6, hz5] at hcrc
  have Hcrc := Lib.hid hcrc
  clear hcrc
  set_option maxRecDepth 100000 in
  go_wp2_with (first
    | (go_at_call 25; (with_reducible refine Hcrc.out.mono ?_); rintro e w8 ⟨rfl, rfl⟩)
    | (refine wpList_loadDg rfl _ rfl w1.heap.size rfl awakeL rfl (HD7.out.alloc _) ?_; (try simp only [Act.put, List.setIfInBounds_toArray, List.set_cons_zero, List.set_cons_succ]))
    | (refine wpList_loadDg rfl _ rfl w4.heap.size rfl awakeL rfl (HD6.out.alloc _) ?_; (try simp only [Act.put, List.setIfInBounds_toArray, List.set_cons_zero, List.set_cons_succ])))
  go_ret
  exact ⟨rfl, HB6.out.alloc (by omega) _⟩
end Go.Proofs.Ytmjikebbknjahaa
