/-
  No cell of these rows narrows 'for every input' (looked for: loops, veiled, ifaces, maps, wideKeys, modest, calm, conditions, laid).
  DERIVED. THE GIVEN ROWS OF THIS SEAT. 10 by the template 'for every input the law returns true; each argument reads behind the call as it read before'; 0 by the template 'total and deterministic' (their statements: YtihbhpggpnmifaaTotals.lean).
  GIVEN WITH THE SEED: the statements are not yours to turn. If you find one false, say at which input.
  Laid BY PROGRAM, IN A SANDBOX (cutbox-rows.mjs): the forced cells as the released guide's own fill.sh prints them over the translation 16139ed37a713b24… (all of the seat's roots in one cut). By AI agents, Wed Nov 11 2026. No macro, syntax, notation, axiom, sorry.
-/
import Derived.Test.YtihbhpggpnmifaaChecked
import GoSem.Claim
import GoSem.ClaimJoined
import GoSem.ClaimMapViews
import Derived.JoinedTies
import Derived.KernelRfl
namespace Go.Proofs.Ytihbhpggpnmifaa
/- THE CELL 'sum', in the pinned program and in every row, IS THE sha256 OF THE DUMP (.gsa) THAT YtihbhpggpnmifaaProg.lean LOADS. Nothing in Lean hashes anything: it is a label: what it is worth is what the hold of that sum in a sandbox is worth. -/
noncomputable def Try.pinned : Pinned := { name := "ytihbhpggpnmifaa", sum := "16139ed37a713b248c410e9af271511e61e82688e26f6844167b7087158fdd1f", checked := Try.checked }
namespace Rows
def none {H : Type} : Left H := { results := [], args := [] }

/-- 'heartwoodlaw19.RingsLeaf': WHATEVER THE INPUT: true; the input reads as it did. -/
def ringsLeafSpec : ChangeSpec := { name := "ringsLeaf", fn := fun _ => fun
  | [d1, d2] => { results := [.lit (.bool true)], args := [d1, d2] }
  | _ => none }
def ringsLeafRow : OpenClaim := { program := "ytihbhpggpnmifaa", sum := "16139ed37a713b248c410e9af271511e61e82688e26f6844167b7087158fdd1f", func := "heartwood/heartwoodlaw19.RingsLeaf", spec := "ringsLeaf", unfollowed := true, recurses := true, plainKeys := false, apart := false }
def RingsLeafSaid : Prop := ringsLeafRow.holds Try.pinned (OpenSpec.ofChange ringsLeafSpec)

/-- ITS FALSE NEIGHBOUR: 'it returns false'. Refute it at one input. -/
def ringsLeafWrong : ChangeSpec := { name := "ringsLeaf", fn := fun _ => fun
  | [d1, d2] => { results := [.lit (.bool false)], args := [d1, d2] }
  | _ => none }
def RingsLeafWrongFalsely : Prop := ringsLeafRow.holds Try.pinned (OpenSpec.ofChange ringsLeafWrong)

/-- 'heartwoodlaw19.RingsHolds': WHATEVER THE INPUT: true; the input reads as it did. -/
def ringsHoldsSpec : ChangeSpec := { name := "ringsHolds", fn := fun _ => fun
  | [d1, d2, d3, d4, d5] => { results := [.lit (.bool true)], args := [d1, d2, d3, d4, d5] }
  | _ => none }
def ringsHoldsRow : OpenClaim := { program := "ytihbhpggpnmifaa", sum := "16139ed37a713b248c410e9af271511e61e82688e26f6844167b7087158fdd1f", func := "heartwood/heartwoodlaw19.RingsHolds", spec := "ringsHolds", unfollowed := true, recurses := true, plainKeys := false, apart := false }
def RingsHoldsSaid : Prop := ringsHoldsRow.holds Try.pinned (OpenSpec.ofChange ringsHoldsSpec)

/-- ITS FALSE NEIGHBOUR: 'it returns false'. Refute it at one input. -/
def ringsHoldsWrong : ChangeSpec := { name := "ringsHolds", fn := fun _ => fun
  | [d1, d2, d3, d4, d5] => { results := [.lit (.bool false)], args := [d1, d2, d3, d4, d5] }
  | _ => none }
def RingsHoldsWrongFalsely : Prop := ringsHoldsRow.holds Try.pinned (OpenSpec.ofChange ringsHoldsWrong)

/-- 'heartwoodlaw19.RingsExtends': WHATEVER THE INPUT: true; the input reads as it did. -/
def ringsExtendsSpec : ChangeSpec := { name := "ringsExtends", fn := fun _ => fun
  | [d1, d2, d3, d4] => { results := [.lit (.bool true)], args := [d1, d2, d3, d4] }
  | _ => none }
def ringsExtendsRow : OpenClaim := { program := "ytihbhpggpnmifaa", sum := "16139ed37a713b248c410e9af271511e61e82688e26f6844167b7087158fdd1f", func := "heartwood/heartwoodlaw19.RingsExtends", spec := "ringsExtends", unfollowed := true, recurses := true, plainKeys := false, apart := false }
def RingsExtendsSaid : Prop := ringsExtendsRow.holds Try.pinned (OpenSpec.ofChange ringsExtendsSpec)

/-- ITS FALSE NEIGHBOUR: 'it returns false'. Refute it at one input. -/
def ringsExtendsWrong : ChangeSpec := { name := "ringsExtends", fn := fun _ => fun
  | [d1, d2, d3, d4] => { results := [.lit (.bool false)], args := [d1, d2, d3, d4] }
  | _ => none }
def RingsExtendsWrongFalsely : Prop := ringsExtendsRow.holds Try.pinned (OpenSpec.ofChange ringsExtendsWrong)

/-- 'heartwoodlaw19.RingsWhole': WHATEVER THE INPUT: true; the input reads as it did. -/
def ringsWholeSpec : ChangeSpec := { name := "ringsWhole", fn := fun _ => fun
  | [d1, d2] => { results := [.lit (.bool true)], args := [d1, d2] }
  | _ => none }
def ringsWholeRow : OpenClaim := { program := "ytihbhpggpnmifaa", sum := "16139ed37a713b248c410e9af271511e61e82688e26f6844167b7087158fdd1f", func := "heartwood/heartwoodlaw19.RingsWhole", spec := "ringsWhole", unfollowed := true, recurses := true, plainKeys := false, apart := false }
def RingsWholeSaid : Prop := ringsWholeRow.holds Try.pinned (OpenSpec.ofChange ringsWholeSpec)

/-- ITS FALSE NEIGHBOUR: 'it returns false'. Refute it at one input. -/
def ringsWholeWrong : ChangeSpec := { name := "ringsWhole", fn := fun _ => fun
  | [d1, d2] => { results := [.lit (.bool false)], args := [d1, d2] }
  | _ => none }
def RingsWholeWrongFalsely : Prop := ringsWholeRow.holds Try.pinned (OpenSpec.ofChange ringsWholeWrong)

/-- 'heartwoodlaw19.RingsOnly': WHATEVER THE INPUT: true; the input reads as it did. -/
def ringsOnlySpec : ChangeSpec := { name := "ringsOnly", fn := fun _ => fun
  | [d1, d2, d3, d4, d5] => { results := [.lit (.bool true)], args := [d1, d2, d3, d4, d5] }
  | _ => none }
def ringsOnlyRow : OpenClaim := { program := "ytihbhpggpnmifaa", sum := "16139ed37a713b248c410e9af271511e61e82688e26f6844167b7087158fdd1f", func := "heartwood/heartwoodlaw19.RingsOnly", spec := "ringsOnly", unfollowed := true, recurses := true, plainKeys := false, apart := false }
def RingsOnlySaid : Prop := ringsOnlyRow.holds Try.pinned (OpenSpec.ofChange ringsOnlySpec)

/-- ITS FALSE NEIGHBOUR: 'it returns false'. Refute it at one input. -/
def ringsOnlyWrong : ChangeSpec := { name := "ringsOnly", fn := fun _ => fun
  | [d1, d2, d3, d4, d5] => { results := [.lit (.bool false)], args := [d1, d2, d3, d4, d5] }
  | _ => none }
def RingsOnlyWrongFalsely : Prop := ringsOnlyRow.holds Try.pinned (OpenSpec.ofChange ringsOnlyWrong)

/-- 'heartwoodlaw19.RingsNames': WHATEVER THE INPUT: true; the input reads as it did. -/
def ringsNamesSpec : ChangeSpec := { name := "ringsNames", fn := fun _ => fun
  | [] => { results := [.lit (.bool true)], args := [] }
  | _ => none }
def ringsNamesRow : OpenClaim := { program := "ytihbhpggpnmifaa", sum := "16139ed37a713b248c410e9af271511e61e82688e26f6844167b7087158fdd1f", func := "heartwood/heartwoodlaw19.RingsNames", spec := "ringsNames", unfollowed := true, recurses := true, plainKeys := false, apart := false }
def RingsNamesSaid : Prop := ringsNamesRow.holds Try.pinned (OpenSpec.ofChange ringsNamesSpec)

/-- ITS FALSE NEIGHBOUR: 'it returns false'. Refute it at one input. -/
def ringsNamesWrong : ChangeSpec := { name := "ringsNames", fn := fun _ => fun
  | [] => { results := [.lit (.bool false)], args := [] }
  | _ => none }
def RingsNamesWrongFalsely : Prop := ringsNamesRow.holds Try.pinned (OpenSpec.ofChange ringsNamesWrong)

/-- 'heartwoodlaw19.RingsUnlike': WHATEVER THE INPUT: true; the input reads as it did. -/
def ringsUnlikeSpec : ChangeSpec := { name := "ringsUnlike", fn := fun _ => fun
  | [d1, d2, d3, d4, d5, d6, d7] => { results := [.lit (.bool true)], args := [d1, d2, d3, d4, d5, d6, d7] }
  | _ => none }
def ringsUnlikeRow : OpenClaim := { program := "ytihbhpggpnmifaa", sum := "16139ed37a713b248c410e9af271511e61e82688e26f6844167b7087158fdd1f", func := "heartwood/heartwoodlaw19.RingsUnlike", spec := "ringsUnlike", unfollowed := true, recurses := true, plainKeys := false, apart := false }
def RingsUnlikeSaid : Prop := ringsUnlikeRow.holds Try.pinned (OpenSpec.ofChange ringsUnlikeSpec)

/-- ITS FALSE NEIGHBOUR: 'it returns false'. Refute it at one input. -/
def ringsUnlikeWrong : ChangeSpec := { name := "ringsUnlike", fn := fun _ => fun
  | [d1, d2, d3, d4, d5, d6, d7] => { results := [.lit (.bool false)], args := [d1, d2, d3, d4, d5, d6, d7] }
  | _ => none }
def RingsUnlikeWrongFalsely : Prop := ringsUnlikeRow.holds Try.pinned (OpenSpec.ofChange ringsUnlikeWrong)

/-- 'heartwoodlaw19.RingsSound': WHATEVER THE INPUT: true; the input reads as it did. -/
def ringsSoundSpec : ChangeSpec := { name := "ringsSound", fn := fun _ => fun
  | [d1, d2, d3, d4, d5, d6] => { results := [.lit (.bool true)], args := [d1, d2, d3, d4, d5, d6] }
  | _ => none }
def ringsSoundRow : OpenClaim := { program := "ytihbhpggpnmifaa", sum := "16139ed37a713b248c410e9af271511e61e82688e26f6844167b7087158fdd1f", func := "heartwood/heartwoodlaw19.RingsSound", spec := "ringsSound", unfollowed := true, recurses := true, plainKeys := false, apart := false }
def RingsSoundSaid : Prop := ringsSoundRow.holds Try.pinned (OpenSpec.ofChange ringsSoundSpec)

/-- ITS FALSE NEIGHBOUR: 'it returns false'. Refute it at one input. -/
def ringsSoundWrong : ChangeSpec := { name := "ringsSound", fn := fun _ => fun
  | [d1, d2, d3, d4, d5, d6] => { results := [.lit (.bool false)], args := [d1, d2, d3, d4, d5, d6] }
  | _ => none }
def RingsSoundWrongFalsely : Prop := ringsSoundRow.holds Try.pinned (OpenSpec.ofChange ringsSoundWrong)

/-- 'heartwoodlaw19.RingsPlays': WHATEVER THE INPUT: true; the input reads as it did. -/
def ringsPlaysSpec : ChangeSpec := { name := "ringsPlays", fn := fun _ => fun
  | [d1, d2, d3, d4] => { results := [.lit (.bool true)], args := [d1, d2, d3, d4] }
  | _ => none }
def ringsPlaysRow : OpenClaim := { program := "ytihbhpggpnmifaa", sum := "16139ed37a713b248c410e9af271511e61e82688e26f6844167b7087158fdd1f", func := "heartwood/heartwoodlaw19.RingsPlays", spec := "ringsPlays", unfollowed := true, recurses := true, plainKeys := false, apart := false }
def RingsPlaysSaid : Prop := ringsPlaysRow.holds Try.pinned (OpenSpec.ofChange ringsPlaysSpec)

/-- ITS FALSE NEIGHBOUR: 'it returns false'. Refute it at one input. -/
def ringsPlaysWrong : ChangeSpec := { name := "ringsPlays", fn := fun _ => fun
  | [d1, d2, d3, d4] => { results := [.lit (.bool false)], args := [d1, d2, d3, d4] }
  | _ => none }
def RingsPlaysWrongFalsely : Prop := ringsPlaysRow.holds Try.pinned (OpenSpec.ofChange ringsPlaysWrong)

/-- 'heartwoodlaw19.RingsNil': WHATEVER THE INPUT: true; the input reads as it did. -/
def ringsNilSpec : ChangeSpec := { name := "ringsNil", fn := fun _ => fun
  | [d1, d2, d3, d4] => { results := [.lit (.bool true)], args := [d1, d2, d3, d4] }
  | _ => none }
def ringsNilRow : OpenClaim := { program := "ytihbhpggpnmifaa", sum := "16139ed37a713b248c410e9af271511e61e82688e26f6844167b7087158fdd1f", func := "heartwood/heartwoodlaw19.RingsNil", spec := "ringsNil", unfollowed := true, recurses := true, plainKeys := false, apart := false }
def RingsNilSaid : Prop := ringsNilRow.holds Try.pinned (OpenSpec.ofChange ringsNilSpec)

/-- ITS FALSE NEIGHBOUR: 'it returns false'. Refute it at one input. -/
def ringsNilWrong : ChangeSpec := { name := "ringsNil", fn := fun _ => fun
  | [d1, d2, d3, d4] => { results := [.lit (.bool false)], args := [d1, d2, d3, d4] }
  | _ => none }
def RingsNilWrongFalsely : Prop := ringsNilRow.holds Try.pinned (OpenSpec.ofChange ringsNilWrong)

/- THE SECOND FORM. 'bulk': how many values and letters a reading holds, each counted each time it is reached (what is shared counts as often as it is met; a slice's spare places count too). A statement '..UptoSaid' is the law's where the arguments, and the package variables that the reading takes, are together of bulk at most 1048576: NARROWER than '..Said'. Prove '..Said' where nothing that the law and all that it calls make is longer than what came in: it says more and counts as full. Else prove '..UptoSaid'. A law counts once. -/
mutual
def uptoBulk {H : Type} : DataW H → Nat
  | .lit (.string bytes) => bytes.length + 1
  | .lit _ => 1
  | .nil => 1
  | .ptr d => uptoBulk d + 1
  | .slice elems spare => uptoBulkAll elems + uptoBulkAll spare + 1
  | .agg parts => uptoBulkAll parts + 1
  | .iface _ d => uptoBulk d + 1
  | .map entries => uptoBulkEntries entries + 1
  | .held _ => 1
def uptoBulkAll {H : Type} : List (DataW H) → Nat
  | [] => 0
  | d :: r => uptoBulk d + uptoBulkAll r
def uptoBulkEntries {H : Type} : List (Lit × DataW H) → Nat
  | [] => 0
  | x :: r => uptoBulkEntry x + uptoBulkEntries r
def uptoBulkEntry {H : Type} : Lit × DataW H → Nat
  | (.string bytes, d) => bytes.length + uptoBulk d + 1
  | (_, d) => uptoBulk d + 1
 end
def uptoSmall : (H : Type) → List (DataW H) → Bool := fun _ ds => decide (uptoBulkAll ds ≤ 1048576)
def OpenSpec.upto (s : _root_.Go.ChangeSpec) : _root_.Go.OpenSpec := { _root_.Go.OpenSpec.ofChange s with cond := some uptoSmall }

/-- 'heartwoodlaw19.RingsLeaf', WHERE WHAT IT READS IS OF BULK AT MOST 1048576: true; the input reads as it did. -/
def ringsLeafUptoRow : OpenClaim := { program := "ytihbhpggpnmifaa", sum := "16139ed37a713b248c410e9af271511e61e82688e26f6844167b7087158fdd1f", func := "heartwood/heartwoodlaw19.RingsLeaf", spec := "ringsLeaf", unfollowed := true, recurses := true, plainKeys := false, apart := false, narrowed := true }
def RingsLeafUptoSaid : Prop := ringsLeafUptoRow.holds Try.pinned (OpenSpec.upto ringsLeafSpec)

/-- 'heartwoodlaw19.RingsHolds', WHERE WHAT IT READS IS OF BULK AT MOST 1048576: true; the input reads as it did. -/
def ringsHoldsUptoRow : OpenClaim := { program := "ytihbhpggpnmifaa", sum := "16139ed37a713b248c410e9af271511e61e82688e26f6844167b7087158fdd1f", func := "heartwood/heartwoodlaw19.RingsHolds", spec := "ringsHolds", unfollowed := true, recurses := true, plainKeys := false, apart := false, narrowed := true }
def RingsHoldsUptoSaid : Prop := ringsHoldsUptoRow.holds Try.pinned (OpenSpec.upto ringsHoldsSpec)

/-- 'heartwoodlaw19.RingsExtends', WHERE WHAT IT READS IS OF BULK AT MOST 1048576: true; the input reads as it did. -/
def ringsExtendsUptoRow : OpenClaim := { program := "ytihbhpggpnmifaa", sum := "16139ed37a713b248c410e9af271511e61e82688e26f6844167b7087158fdd1f", func := "heartwood/heartwoodlaw19.RingsExtends", spec := "ringsExtends", unfollowed := true, recurses := true, plainKeys := false, apart := false, narrowed := true }
def RingsExtendsUptoSaid : Prop := ringsExtendsUptoRow.holds Try.pinned (OpenSpec.upto ringsExtendsSpec)

/-- 'heartwoodlaw19.RingsWhole', WHERE WHAT IT READS IS OF BULK AT MOST 1048576: true; the input reads as it did. -/
def ringsWholeUptoRow : OpenClaim := { program := "ytihbhpggpnmifaa", sum := "16139ed37a713b248c410e9af271511e61e82688e26f6844167b7087158fdd1f", func := "heartwood/heartwoodlaw19.RingsWhole", spec := "ringsWhole", unfollowed := true, recurses := true, plainKeys := false, apart := false, narrowed := true }
def RingsWholeUptoSaid : Prop := ringsWholeUptoRow.holds Try.pinned (OpenSpec.upto ringsWholeSpec)

/-- 'heartwoodlaw19.RingsOnly', WHERE WHAT IT READS IS OF BULK AT MOST 1048576: true; the input reads as it did. -/
def ringsOnlyUptoRow : OpenClaim := { program := "ytihbhpggpnmifaa", sum := "16139ed37a713b248c410e9af271511e61e82688e26f6844167b7087158fdd1f", func := "heartwood/heartwoodlaw19.RingsOnly", spec := "ringsOnly", unfollowed := true, recurses := true, plainKeys := false, apart := false, narrowed := true }
def RingsOnlyUptoSaid : Prop := ringsOnlyUptoRow.holds Try.pinned (OpenSpec.upto ringsOnlySpec)

/-- 'heartwoodlaw19.RingsNames', WHERE WHAT IT READS IS OF BULK AT MOST 1048576: true; the input reads as it did. -/
def ringsNamesUptoRow : OpenClaim := { program := "ytihbhpggpnmifaa", sum := "16139ed37a713b248c410e9af271511e61e82688e26f6844167b7087158fdd1f", func := "heartwood/heartwoodlaw19.RingsNames", spec := "ringsNames", unfollowed := true, recurses := true, plainKeys := false, apart := false, narrowed := true }
def RingsNamesUptoSaid : Prop := ringsNamesUptoRow.holds Try.pinned (OpenSpec.upto ringsNamesSpec)

/-- 'heartwoodlaw19.RingsUnlike', WHERE WHAT IT READS IS OF BULK AT MOST 1048576: true; the input reads as it did. -/
def ringsUnlikeUptoRow : OpenClaim := { program := "ytihbhpggpnmifaa", sum := "16139ed37a713b248c410e9af271511e61e82688e26f6844167b7087158fdd1f", func := "heartwood/heartwoodlaw19.RingsUnlike", spec := "ringsUnlike", unfollowed := true, recurses := true, plainKeys := false, apart := false, narrowed := true }
def RingsUnlikeUptoSaid : Prop := ringsUnlikeUptoRow.holds Try.pinned (OpenSpec.upto ringsUnlikeSpec)

/-- 'heartwoodlaw19.RingsSound', WHERE WHAT IT READS IS OF BULK AT MOST 1048576: true; the input reads as it did. -/
def ringsSoundUptoRow : OpenClaim := { program := "ytihbhpggpnmifaa", sum := "16139ed37a713b248c410e9af271511e61e82688e26f6844167b7087158fdd1f", func := "heartwood/heartwoodlaw19.RingsSound", spec := "ringsSound", unfollowed := true, recurses := true, plainKeys := false, apart := false, narrowed := true }
def RingsSoundUptoSaid : Prop := ringsSoundUptoRow.holds Try.pinned (OpenSpec.upto ringsSoundSpec)

/-- 'heartwoodlaw19.RingsPlays', WHERE WHAT IT READS IS OF BULK AT MOST 1048576: true; the input reads as it did. -/
def ringsPlaysUptoRow : OpenClaim := { program := "ytihbhpggpnmifaa", sum := "16139ed37a713b248c410e9af271511e61e82688e26f6844167b7087158fdd1f", func := "heartwood/heartwoodlaw19.RingsPlays", spec := "ringsPlays", unfollowed := true, recurses := true, plainKeys := false, apart := false, narrowed := true }
def RingsPlaysUptoSaid : Prop := ringsPlaysUptoRow.holds Try.pinned (OpenSpec.upto ringsPlaysSpec)

/-- 'heartwoodlaw19.RingsNil', WHERE WHAT IT READS IS OF BULK AT MOST 1048576: true; the input reads as it did. -/
def ringsNilUptoRow : OpenClaim := { program := "ytihbhpggpnmifaa", sum := "16139ed37a713b248c410e9af271511e61e82688e26f6844167b7087158fdd1f", func := "heartwood/heartwoodlaw19.RingsNil", spec := "ringsNil", unfollowed := true, recurses := true, plainKeys := false, apart := false, narrowed := true }
def RingsNilUptoSaid : Prop := ringsNilUptoRow.holds Try.pinned (OpenSpec.upto ringsNilSpec)

end Rows
end Go.Proofs.Ytihbhpggpnmifaa
