/-
  No cell of these rows narrows 'for every input' (looked for: loops, veiled, ifaces, maps, wideKeys, modest, calm, conditions, laid).
  DERIVED. THE GIVEN ROWS OF THIS SEAT. 15 by the template 'for every input the law returns true; each argument reads behind the call as it read before'; 0 by the template 'total and deterministic' (their statements: YtkngmnfgdlnddaaTotals.lean).
  GIVEN WITH THE SEED: the statements are not yours to turn. If you find one false, say at which input.
  Laid BY PROGRAM, IN A SANDBOX (cutbox-rows.mjs): the forced cells as the released guide's own fill.sh prints them over the translation 8a213016997c4e55… (all of the seat's roots in one cut). By AI agents, Wed Nov 11 2026. No macro, syntax, notation, axiom, sorry.
-/
import Derived.Test.YtkngmnfgdlnddaaChecked
import GoSem.Claim
import GoSem.ClaimJoined
import GoSem.ClaimMapViews
import Derived.JoinedTies
import Derived.KernelRfl
namespace Go.Proofs.Ytkngmnfgdlnddaa
/- THE CELL 'sum', in the pinned program and in every row, IS THE sha256 OF THE DUMP (.gsa) THAT YtkngmnfgdlnddaaProg.lean LOADS. Nothing in Lean hashes anything: it is a label: what it is worth is what the hold of that sum in a sandbox is worth. -/
noncomputable def Try.pinned : Pinned := { name := "ytkngmnfgdlnddaa", sum := "8a213016997c4e55ff596f644cdb22325cc4448250b76e5aa923298d932d3a85", checked := Try.checked }
namespace Rows
def none {H : Type} : Left H := { results := [], args := [] }

/-- 'heartwoodlaw09.FreeEntries': WHATEVER THE INPUT: true; the input reads as it did. -/
def freeEntriesSpec : ChangeSpec := { name := "freeEntries", fn := fun _ => fun
  | [d] => { results := [.lit (.bool true)], args := [d] }
  | _ => none }
def freeEntriesRow : OpenClaim := { program := "ytkngmnfgdlnddaa", sum := "8a213016997c4e55ff596f644cdb22325cc4448250b76e5aa923298d932d3a85", func := "heartwood/heartwoodlaw09.FreeEntries", spec := "freeEntries", unfollowed := true, recurses := true, apart := false }
def FreeEntriesSaid : Prop := freeEntriesRow.holds Try.pinned (OpenSpec.ofChange freeEntriesSpec)

/-- ITS FALSE NEIGHBOUR: 'it returns false'. Refute it at one input. -/
def freeEntriesWrong : ChangeSpec := { name := "freeEntries", fn := fun _ => fun
  | [d] => { results := [.lit (.bool false)], args := [d] }
  | _ => none }
def FreeEntriesWrongFalsely : Prop := freeEntriesRow.holds Try.pinned (OpenSpec.ofChange freeEntriesWrong)

/-- 'heartwoodlaw09.FreeBodies': WHATEVER THE INPUT: true; the input reads as it did. -/
def freeBodiesSpec : ChangeSpec := { name := "freeBodies", fn := fun _ => fun
  | [d1, d2, d3] => { results := [.lit (.bool true)], args := [d1, d2, d3] }
  | _ => none }
def freeBodiesRow : OpenClaim := { program := "ytkngmnfgdlnddaa", sum := "8a213016997c4e55ff596f644cdb22325cc4448250b76e5aa923298d932d3a85", func := "heartwood/heartwoodlaw09.FreeBodies", spec := "freeBodies", unfollowed := true, recurses := true, apart := false }
def FreeBodiesSaid : Prop := freeBodiesRow.holds Try.pinned (OpenSpec.ofChange freeBodiesSpec)

/-- ITS FALSE NEIGHBOUR: 'it returns false'. Refute it at one input. -/
def freeBodiesWrong : ChangeSpec := { name := "freeBodies", fn := fun _ => fun
  | [d1, d2, d3] => { results := [.lit (.bool false)], args := [d1, d2, d3] }
  | _ => none }
def FreeBodiesWrongFalsely : Prop := freeBodiesRow.holds Try.pinned (OpenSpec.ofChange freeBodiesWrong)

/-- 'heartwoodlaw09.FreeFromBodies': WHATEVER THE INPUT: true; the input reads as it did. -/
def freeFromBodiesSpec : ChangeSpec := { name := "freeFromBodies", fn := fun _ => fun
  | [d1, d2] => { results := [.lit (.bool true)], args := [d1, d2] }
  | _ => none }
def freeFromBodiesRow : OpenClaim := { program := "ytkngmnfgdlnddaa", sum := "8a213016997c4e55ff596f644cdb22325cc4448250b76e5aa923298d932d3a85", func := "heartwood/heartwoodlaw09.FreeFromBodies", spec := "freeFromBodies", unfollowed := true, recurses := true, apart := false }
def FreeFromBodiesSaid : Prop := freeFromBodiesRow.holds Try.pinned (OpenSpec.ofChange freeFromBodiesSpec)

/-- ITS FALSE NEIGHBOUR: 'it returns false'. Refute it at one input. -/
def freeFromBodiesWrong : ChangeSpec := { name := "freeFromBodies", fn := fun _ => fun
  | [d1, d2] => { results := [.lit (.bool false)], args := [d1, d2] }
  | _ => none }
def FreeFromBodiesWrongFalsely : Prop := freeFromBodiesRow.holds Try.pinned (OpenSpec.ofChange freeFromBodiesWrong)

/-- 'heartwoodlaw09.FreePlans': WHATEVER THE INPUT: true; the input reads as it did. -/
def freePlansSpec : ChangeSpec := { name := "freePlans", fn := fun _ => fun
  | [d1, d2, d3] => { results := [.lit (.bool true)], args := [d1, d2, d3] }
  | _ => none }
def freePlansRow : OpenClaim := { program := "ytkngmnfgdlnddaa", sum := "8a213016997c4e55ff596f644cdb22325cc4448250b76e5aa923298d932d3a85", func := "heartwood/heartwoodlaw09.FreePlans", spec := "freePlans", unfollowed := true, recurses := true, apart := false }
def FreePlansSaid : Prop := freePlansRow.holds Try.pinned (OpenSpec.ofChange freePlansSpec)

/-- ITS FALSE NEIGHBOUR: 'it returns false'. Refute it at one input. -/
def freePlansWrong : ChangeSpec := { name := "freePlans", fn := fun _ => fun
  | [d1, d2, d3] => { results := [.lit (.bool false)], args := [d1, d2, d3] }
  | _ => none }
def FreePlansWrongFalsely : Prop := freePlansRow.holds Try.pinned (OpenSpec.ofChange freePlansWrong)

/-- 'heartwoodlaw09.FreeOwned': WHATEVER THE INPUT: true; the input reads as it did. -/
def freeOwnedSpec : ChangeSpec := { name := "freeOwned", fn := fun _ => fun
  | [d1, d2] => { results := [.lit (.bool true)], args := [d1, d2] }
  | _ => none }
def freeOwnedRow : OpenClaim := { program := "ytkngmnfgdlnddaa", sum := "8a213016997c4e55ff596f644cdb22325cc4448250b76e5aa923298d932d3a85", func := "heartwood/heartwoodlaw09.FreeOwned", spec := "freeOwned", unfollowed := true, recurses := true, apart := false }
def FreeOwnedSaid : Prop := freeOwnedRow.holds Try.pinned (OpenSpec.ofChange freeOwnedSpec)

/-- ITS FALSE NEIGHBOUR: 'it returns false'. Refute it at one input. -/
def freeOwnedWrong : ChangeSpec := { name := "freeOwned", fn := fun _ => fun
  | [d1, d2] => { results := [.lit (.bool false)], args := [d1, d2] }
  | _ => none }
def FreeOwnedWrongFalsely : Prop := freeOwnedRow.holds Try.pinned (OpenSpec.ofChange freeOwnedWrong)

/-- 'heartwoodlaw09.FreeFew': WHATEVER THE INPUT: true; the input reads as it did. -/
def freeFewSpec : ChangeSpec := { name := "freeFew", fn := fun _ => fun
  | [d1, d2] => { results := [.lit (.bool true)], args := [d1, d2] }
  | _ => none }
def freeFewRow : OpenClaim := { program := "ytkngmnfgdlnddaa", sum := "8a213016997c4e55ff596f644cdb22325cc4448250b76e5aa923298d932d3a85", func := "heartwood/heartwoodlaw09.FreeFew", spec := "freeFew", unfollowed := true, recurses := true, apart := false }
def FreeFewSaid : Prop := freeFewRow.holds Try.pinned (OpenSpec.ofChange freeFewSpec)

/-- ITS FALSE NEIGHBOUR: 'it returns false'. Refute it at one input. -/
def freeFewWrong : ChangeSpec := { name := "freeFew", fn := fun _ => fun
  | [d1, d2] => { results := [.lit (.bool false)], args := [d1, d2] }
  | _ => none }
def FreeFewWrongFalsely : Prop := freeFewRow.holds Try.pinned (OpenSpec.ofChange freeFewWrong)

/-- 'heartwoodlaw09.FreeWanted': WHATEVER THE INPUT: true; the input reads as it did. -/
def freeWantedSpec : ChangeSpec := { name := "freeWanted", fn := fun _ => fun
  | [d1, d2] => { results := [.lit (.bool true)], args := [d1, d2] }
  | _ => none }
def freeWantedRow : OpenClaim := { program := "ytkngmnfgdlnddaa", sum := "8a213016997c4e55ff596f644cdb22325cc4448250b76e5aa923298d932d3a85", func := "heartwood/heartwoodlaw09.FreeWanted", spec := "freeWanted", unfollowed := true, recurses := true, apart := false }
def FreeWantedSaid : Prop := freeWantedRow.holds Try.pinned (OpenSpec.ofChange freeWantedSpec)

/-- ITS FALSE NEIGHBOUR: 'it returns false'. Refute it at one input. -/
def freeWantedWrong : ChangeSpec := { name := "freeWanted", fn := fun _ => fun
  | [d1, d2] => { results := [.lit (.bool false)], args := [d1, d2] }
  | _ => none }
def FreeWantedWrongFalsely : Prop := freeWantedRow.holds Try.pinned (OpenSpec.ofChange freeWantedWrong)

/-- 'heartwoodlaw09.FreeNames': WHATEVER THE INPUT: true; the input reads as it did. -/
def freeNamesSpec : ChangeSpec := { name := "freeNames", fn := fun _ => fun
  | [] => { results := [.lit (.bool true)], args := [] }
  | _ => none }
def freeNamesRow : OpenClaim := { program := "ytkngmnfgdlnddaa", sum := "8a213016997c4e55ff596f644cdb22325cc4448250b76e5aa923298d932d3a85", func := "heartwood/heartwoodlaw09.FreeNames", spec := "freeNames", unfollowed := true, recurses := true, apart := false }
def FreeNamesSaid : Prop := freeNamesRow.holds Try.pinned (OpenSpec.ofChange freeNamesSpec)

/-- ITS FALSE NEIGHBOUR: 'it returns false'. Refute it at one input. -/
def freeNamesWrong : ChangeSpec := { name := "freeNames", fn := fun _ => fun
  | [] => { results := [.lit (.bool false)], args := [] }
  | _ => none }
def FreeNamesWrongFalsely : Prop := freeNamesRow.holds Try.pinned (OpenSpec.ofChange freeNamesWrong)

/-- 'heartwoodlaw09.FreeChecks': WHATEVER THE INPUT: true; the input reads as it did. -/
def freeChecksSpec : ChangeSpec := { name := "freeChecks", fn := fun _ => fun
  | [d1, d2, d3] => { results := [.lit (.bool true)], args := [d1, d2, d3] }
  | _ => none }
def freeChecksRow : OpenClaim := { program := "ytkngmnfgdlnddaa", sum := "8a213016997c4e55ff596f644cdb22325cc4448250b76e5aa923298d932d3a85", func := "heartwood/heartwoodlaw09.FreeChecks", spec := "freeChecks", unfollowed := true, recurses := true, apart := false }
def FreeChecksSaid : Prop := freeChecksRow.holds Try.pinned (OpenSpec.ofChange freeChecksSpec)

/-- ITS FALSE NEIGHBOUR: 'it returns false'. Refute it at one input. -/
def freeChecksWrong : ChangeSpec := { name := "freeChecks", fn := fun _ => fun
  | [d1, d2, d3] => { results := [.lit (.bool false)], args := [d1, d2, d3] }
  | _ => none }
def FreeChecksWrongFalsely : Prop := freeChecksRow.holds Try.pinned (OpenSpec.ofChange freeChecksWrong)

/-- 'heartwoodlaw09.FreeAfters': WHATEVER THE INPUT: true; the input reads as it did. -/
def freeAftersSpec : ChangeSpec := { name := "freeAfters", fn := fun _ => fun
  | [d1, d2] => { results := [.lit (.bool true)], args := [d1, d2] }
  | _ => none }
def freeAftersRow : OpenClaim := { program := "ytkngmnfgdlnddaa", sum := "8a213016997c4e55ff596f644cdb22325cc4448250b76e5aa923298d932d3a85", func := "heartwood/heartwoodlaw09.FreeAfters", spec := "freeAfters", unfollowed := true, recurses := true, apart := false }
def FreeAftersSaid : Prop := freeAftersRow.holds Try.pinned (OpenSpec.ofChange freeAftersSpec)

/-- ITS FALSE NEIGHBOUR: 'it returns false'. Refute it at one input. -/
def freeAftersWrong : ChangeSpec := { name := "freeAfters", fn := fun _ => fun
  | [d1, d2] => { results := [.lit (.bool false)], args := [d1, d2] }
  | _ => none }
def FreeAftersWrongFalsely : Prop := freeAftersRow.holds Try.pinned (OpenSpec.ofChange freeAftersWrong)

/-- 'heartwoodlaw09.FreeSteady': WHATEVER THE INPUT: true; the input reads as it did. -/
def freeSteadySpec : ChangeSpec := { name := "freeSteady", fn := fun _ => fun
  | [d1, d2] => { results := [.lit (.bool true)], args := [d1, d2] }
  | _ => none }
def freeSteadyRow : OpenClaim := { program := "ytkngmnfgdlnddaa", sum := "8a213016997c4e55ff596f644cdb22325cc4448250b76e5aa923298d932d3a85", func := "heartwood/heartwoodlaw09.FreeSteady", spec := "freeSteady", unfollowed := true, recurses := true, apart := false }
def FreeSteadySaid : Prop := freeSteadyRow.holds Try.pinned (OpenSpec.ofChange freeSteadySpec)

/-- ITS FALSE NEIGHBOUR: 'it returns false'. Refute it at one input. -/
def freeSteadyWrong : ChangeSpec := { name := "freeSteady", fn := fun _ => fun
  | [d1, d2] => { results := [.lit (.bool false)], args := [d1, d2] }
  | _ => none }
def FreeSteadyWrongFalsely : Prop := freeSteadyRow.holds Try.pinned (OpenSpec.ofChange freeSteadyWrong)

/-- 'heartwoodlaw09.FreeLost': WHATEVER THE INPUT: true; the input reads as it did. -/
def freeLostSpec : ChangeSpec := { name := "freeLost", fn := fun _ => fun
  | [d1, d2] => { results := [.lit (.bool true)], args := [d1, d2] }
  | _ => none }
def freeLostRow : OpenClaim := { program := "ytkngmnfgdlnddaa", sum := "8a213016997c4e55ff596f644cdb22325cc4448250b76e5aa923298d932d3a85", func := "heartwood/heartwoodlaw09.FreeLost", spec := "freeLost", unfollowed := true, recurses := true, apart := false }
def FreeLostSaid : Prop := freeLostRow.holds Try.pinned (OpenSpec.ofChange freeLostSpec)

/-- ITS FALSE NEIGHBOUR: 'it returns false'. Refute it at one input. -/
def freeLostWrong : ChangeSpec := { name := "freeLost", fn := fun _ => fun
  | [d1, d2] => { results := [.lit (.bool false)], args := [d1, d2] }
  | _ => none }
def FreeLostWrongFalsely : Prop := freeLostRow.holds Try.pinned (OpenSpec.ofChange freeLostWrong)

/-- 'heartwoodlaw09.FreeRuns': WHATEVER THE INPUT: true; the input reads as it did. -/
def freeRunsSpec : ChangeSpec := { name := "freeRuns", fn := fun _ => fun
  | [d1, d2, d3] => { results := [.lit (.bool true)], args := [d1, d2, d3] }
  | _ => none }
def freeRunsRow : OpenClaim := { program := "ytkngmnfgdlnddaa", sum := "8a213016997c4e55ff596f644cdb22325cc4448250b76e5aa923298d932d3a85", func := "heartwood/heartwoodlaw09.FreeRuns", spec := "freeRuns", unfollowed := true, recurses := true, apart := false }
def FreeRunsSaid : Prop := freeRunsRow.holds Try.pinned (OpenSpec.ofChange freeRunsSpec)

/-- ITS FALSE NEIGHBOUR: 'it returns false'. Refute it at one input. -/
def freeRunsWrong : ChangeSpec := { name := "freeRuns", fn := fun _ => fun
  | [d1, d2, d3] => { results := [.lit (.bool false)], args := [d1, d2, d3] }
  | _ => none }
def FreeRunsWrongFalsely : Prop := freeRunsRow.holds Try.pinned (OpenSpec.ofChange freeRunsWrong)

/-- 'heartwoodlaw09.FreeReads': WHATEVER THE INPUT: true; the input reads as it did. -/
def freeReadsSpec : ChangeSpec := { name := "freeReads", fn := fun _ => fun
  | [d1, d2, d3] => { results := [.lit (.bool true)], args := [d1, d2, d3] }
  | _ => none }
def freeReadsRow : OpenClaim := { program := "ytkngmnfgdlnddaa", sum := "8a213016997c4e55ff596f644cdb22325cc4448250b76e5aa923298d932d3a85", func := "heartwood/heartwoodlaw09.FreeReads", spec := "freeReads", unfollowed := true, recurses := true, apart := false }
def FreeReadsSaid : Prop := freeReadsRow.holds Try.pinned (OpenSpec.ofChange freeReadsSpec)

/-- ITS FALSE NEIGHBOUR: 'it returns false'. Refute it at one input. -/
def freeReadsWrong : ChangeSpec := { name := "freeReads", fn := fun _ => fun
  | [d1, d2, d3] => { results := [.lit (.bool false)], args := [d1, d2, d3] }
  | _ => none }
def FreeReadsWrongFalsely : Prop := freeReadsRow.holds Try.pinned (OpenSpec.ofChange freeReadsWrong)

/-- 'heartwoodlaw09.FreeBack': WHATEVER THE INPUT: true; the input reads as it did. -/
def freeBackSpec : ChangeSpec := { name := "freeBack", fn := fun _ => fun
  | [d1, d2, d3] => { results := [.lit (.bool true)], args := [d1, d2, d3] }
  | _ => none }
def freeBackRow : OpenClaim := { program := "ytkngmnfgdlnddaa", sum := "8a213016997c4e55ff596f644cdb22325cc4448250b76e5aa923298d932d3a85", func := "heartwood/heartwoodlaw09.FreeBack", spec := "freeBack", unfollowed := true, recurses := true, apart := false }
def FreeBackSaid : Prop := freeBackRow.holds Try.pinned (OpenSpec.ofChange freeBackSpec)

/-- ITS FALSE NEIGHBOUR: 'it returns false'. Refute it at one input. -/
def freeBackWrong : ChangeSpec := { name := "freeBack", fn := fun _ => fun
  | [d1, d2, d3] => { results := [.lit (.bool false)], args := [d1, d2, d3] }
  | _ => none }
def FreeBackWrongFalsely : Prop := freeBackRow.holds Try.pinned (OpenSpec.ofChange freeBackWrong)

/- THE SECOND FORM. 'bulk': how many values and letters a reading holds, each counted each time it is reached (what is shared counts as often as it is met; a slice's spare places count too). A statement '..UptoSaid' is the law's where the arguments, and the package variables that the reading takes, are together of bulk at most 1048576: NARROWER than '..Said'. Prove '..Said' where nothing that the law and all that it calls make is longer than what came in: it says more and counts as full. Else prove '..UptoSaid'. A law counts once. -/
mutual
def uptoBulk {H : Type} : DataW H → Nat
  | .lit (.string bytes) => bytes.length + 1
  | .lit _ => 1
  | .nil => 1
  | .ptr d => uptoBulk d + 1
  | .slice elems spare => uptoBulkAll elems + uptoBulkAll spare + 1
  | .agg parts => uptoBulkAll parts + 1
  | .iface _ d => uptoBulk d + 1
  | .map entries => uptoBulkEntries entries + 1
  | .held _ => 1
def uptoBulkAll {H : Type} : List (DataW H) → Nat
  | [] => 0
  | d :: r => uptoBulk d + uptoBulkAll r
def uptoBulkEntries {H : Type} : List (Lit × DataW H) → Nat
  | [] => 0
  | x :: r => uptoBulkEntry x + uptoBulkEntries r
def uptoBulkEntry {H : Type} : Lit × DataW H → Nat
  | (.string bytes, d) => bytes.length + uptoBulk d + 1
  | (_, d) => uptoBulk d + 1
 end
def uptoSmall : (H : Type) → List (DataW H) → Bool := fun _ ds => decide (uptoBulkAll ds ≤ 1048576)
def OpenSpec.upto (s : _root_.Go.ChangeSpec) : _root_.Go.OpenSpec := { _root_.Go.OpenSpec.ofChange s with cond := some uptoSmall }

/-- 'heartwoodlaw09.FreeEntries', WHERE WHAT IT READS IS OF BULK AT MOST 1048576: true; the input reads as it did. -/
def freeEntriesUptoRow : OpenClaim := { program := "ytkngmnfgdlnddaa", sum := "8a213016997c4e55ff596f644cdb22325cc4448250b76e5aa923298d932d3a85", func := "heartwood/heartwoodlaw09.FreeEntries", spec := "freeEntries", unfollowed := true, recurses := true, apart := false, narrowed := true }
def FreeEntriesUptoSaid : Prop := freeEntriesUptoRow.holds Try.pinned (OpenSpec.upto freeEntriesSpec)

/-- 'heartwoodlaw09.FreeBodies', WHERE WHAT IT READS IS OF BULK AT MOST 1048576: true; the input reads as it did. -/
def freeBodiesUptoRow : OpenClaim := { program := "ytkngmnfgdlnddaa", sum := "8a213016997c4e55ff596f644cdb22325cc4448250b76e5aa923298d932d3a85", func := "heartwood/heartwoodlaw09.FreeBodies", spec := "freeBodies", unfollowed := true, recurses := true, apart := false, narrowed := true }
def FreeBodiesUptoSaid : Prop := freeBodiesUptoRow.holds Try.pinned (OpenSpec.upto freeBodiesSpec)

/-- 'heartwoodlaw09.FreeFromBodies', WHERE WHAT IT READS IS OF BULK AT MOST 1048576: true; the input reads as it did. -/
def freeFromBodiesUptoRow : OpenClaim := { program := "ytkngmnfgdlnddaa", sum := "8a213016997c4e55ff596f644cdb22325cc4448250b76e5aa923298d932d3a85", func := "heartwood/heartwoodlaw09.FreeFromBodies", spec := "freeFromBodies", unfollowed := true, recurses := true, apart := false, narrowed := true }
def FreeFromBodiesUptoSaid : Prop := freeFromBodiesUptoRow.holds Try.pinned (OpenSpec.upto freeFromBodiesSpec)

/-- 'heartwoodlaw09.FreePlans', WHERE WHAT IT READS IS OF BULK AT MOST 1048576: true; the input reads as it did. -/
def freePlansUptoRow : OpenClaim := { program := "ytkngmnfgdlnddaa", sum := "8a213016997c4e55ff596f644cdb22325cc4448250b76e5aa923298d932d3a85", func := "heartwood/heartwoodlaw09.FreePlans", spec := "freePlans", unfollowed := true, recurses := true, apart := false, narrowed := true }
def FreePlansUptoSaid : Prop := freePlansUptoRow.holds Try.pinned (OpenSpec.upto freePlansSpec)

/-- 'heartwoodlaw09.FreeOwned', WHERE WHAT IT READS IS OF BULK AT MOST 1048576: true; the input reads as it did. -/
def freeOwnedUptoRow : OpenClaim := { program := "ytkngmnfgdlnddaa", sum := "8a213016997c4e55ff596f644cdb22325cc4448250b76e5aa923298d932d3a85", func := "heartwood/heartwoodlaw09.FreeOwned", spec := "freeOwned", unfollowed := true, recurses := true, apart := false, narrowed := true }
def FreeOwnedUptoSaid : Prop := freeOwnedUptoRow.holds Try.pinned (OpenSpec.upto freeOwnedSpec)

/-- 'heartwoodlaw09.FreeFew', WHERE WHAT IT READS IS OF BULK AT MOST 1048576: true; the input reads as it did. -/
def freeFewUptoRow : OpenClaim := { program := "ytkngmnfgdlnddaa", sum := "8a213016997c4e55ff596f644cdb22325cc4448250b76e5aa923298d932d3a85", func := "heartwood/heartwoodlaw09.FreeFew", spec := "freeFew", unfollowed := true, recurses := true, apart := false, narrowed := true }
def FreeFewUptoSaid : Prop := freeFewUptoRow.holds Try.pinned (OpenSpec.upto freeFewSpec)

/-- 'heartwoodlaw09.FreeWanted', WHERE WHAT IT READS IS OF BULK AT MOST 1048576: true; the input reads as it did. -/
def freeWantedUptoRow : OpenClaim := { program := "ytkngmnfgdlnddaa", sum := "8a213016997c4e55ff596f644cdb22325cc4448250b76e5aa923298d932d3a85", func := "heartwood/heartwoodlaw09.FreeWanted", spec := "freeWanted", unfollowed := true, recurses := true, apart := false, narrowed := true }
def FreeWantedUptoSaid : Prop := freeWantedUptoRow.holds Try.pinned (OpenSpec.upto freeWantedSpec)

/-- 'heartwoodlaw09.FreeNames', WHERE WHAT IT READS IS OF BULK AT MOST 1048576: true; the input reads as it did. -/
def freeNamesUptoRow : OpenClaim := { program := "ytkngmnfgdlnddaa", sum := "8a213016997c4e55ff596f644cdb22325cc4448250b76e5aa923298d932d3a85", func := "heartwood/heartwoodlaw09.FreeNames", spec := "freeNames", unfollowed := true, recurses := true, apart := false, narrowed := true }
def FreeNamesUptoSaid : Prop := freeNamesUptoRow.holds Try.pinned (OpenSpec.upto freeNamesSpec)

/-- 'heartwoodlaw09.FreeChecks', WHERE WHAT IT READS IS OF BULK AT MOST 1048576: true; the input reads as it did. -/
def freeChecksUptoRow : OpenClaim := { program := "ytkngmnfgdlnddaa", sum := "8a213016997c4e55ff596f644cdb22325cc4448250b76e5aa923298d932d3a85", func := "heartwood/heartwoodlaw09.FreeChecks", spec := "freeChecks", unfollowed := true, recurses := true, apart := false, narrowed := true }
def FreeChecksUptoSaid : Prop := freeChecksUptoRow.holds Try.pinned (OpenSpec.upto freeChecksSpec)

/-- 'heartwoodlaw09.FreeAfters', WHERE WHAT IT READS IS OF BULK AT MOST 1048576: true; the input reads as it did. -/
def freeAftersUptoRow : OpenClaim := { program := "ytkngmnfgdlnddaa", sum := "8a213016997c4e55ff596f644cdb22325cc4448250b76e5aa923298d932d3a85", func := "heartwood/heartwoodlaw09.FreeAfters", spec := "freeAfters", unfollowed := true, recurses := true, apart := false, narrowed := true }
def FreeAftersUptoSaid : Prop := freeAftersUptoRow.holds Try.pinned (OpenSpec.upto freeAftersSpec)

/-- 'heartwoodlaw09.FreeSteady', WHERE WHAT IT READS IS OF BULK AT MOST 1048576: true; the input reads as it did. -/
def freeSteadyUptoRow : OpenClaim := { program := "ytkngmnfgdlnddaa", sum := "8a213016997c4e55ff596f644cdb22325cc4448250b76e5aa923298d932d3a85", func := "heartwood/heartwoodlaw09.FreeSteady", spec := "freeSteady", unfollowed := true, recurses := true, apart := false, narrowed := true }
def FreeSteadyUptoSaid : Prop := freeSteadyUptoRow.holds Try.pinned (OpenSpec.upto freeSteadySpec)

/-- 'heartwoodlaw09.FreeLost', WHERE WHAT IT READS IS OF BULK AT MOST 1048576: true; the input reads as it did. -/
def freeLostUptoRow : OpenClaim := { program := "ytkngmnfgdlnddaa", sum := "8a213016997c4e55ff596f644cdb22325cc4448250b76e5aa923298d932d3a85", func := "heartwood/heartwoodlaw09.FreeLost", spec := "freeLost", unfollowed := true, recurses := true, apart := false, narrowed := true }
def FreeLostUptoSaid : Prop := freeLostUptoRow.holds Try.pinned (OpenSpec.upto freeLostSpec)

/-- 'heartwoodlaw09.FreeRuns', WHERE WHAT IT READS IS OF BULK AT MOST 1048576: true; the input reads as it did. -/
def freeRunsUptoRow : OpenClaim := { program := "ytkngmnfgdlnddaa", sum := "8a213016997c4e55ff596f644cdb22325cc4448250b76e5aa923298d932d3a85", func := "heartwood/heartwoodlaw09.FreeRuns", spec := "freeRuns", unfollowed := true, recurses := true, apart := false, narrowed := true }
def FreeRunsUptoSaid : Prop := freeRunsUptoRow.holds Try.pinned (OpenSpec.upto freeRunsSpec)

/-- 'heartwoodlaw09.FreeReads', WHERE WHAT IT READS IS OF BULK AT MOST 1048576: true; the input reads as it did. -/
def freeReadsUptoRow : OpenClaim := { program := "ytkngmnfgdlnddaa", sum := "8a213016997c4e55ff596f644cdb22325cc4448250b76e5aa923298d932d3a85", func := "heartwood/heartwoodlaw09.FreeReads", spec := "freeReads", unfollowed := true, recurses := true, apart := false, narrowed := true }
def FreeReadsUptoSaid : Prop := freeReadsUptoRow.holds Try.pinned (OpenSpec.upto freeReadsSpec)

/-- 'heartwoodlaw09.FreeBack', WHERE WHAT IT READS IS OF BULK AT MOST 1048576: true; the input reads as it did. -/
def freeBackUptoRow : OpenClaim := { program := "ytkngmnfgdlnddaa", sum := "8a213016997c4e55ff596f644cdb22325cc4448250b76e5aa923298d932d3a85", func := "heartwood/heartwoodlaw09.FreeBack", spec := "freeBack", unfollowed := true, recurses := true, apart := false, narrowed := true }
def FreeBackUptoSaid : Prop := freeBackUptoRow.holds Try.pinned (OpenSpec.upto freeBackSpec)

end Rows
end Go.Proofs.Ytkngmnfgdlnddaa
