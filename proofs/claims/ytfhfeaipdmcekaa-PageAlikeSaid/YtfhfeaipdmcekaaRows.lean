/-
  No cell of these rows narrows 'for every input' (looked for: loops, veiled, ifaces, maps, wideKeys, modest, calm, conditions, laid).
  DERIVED. THE GIVEN ROWS OF THIS SEAT. 11 by the template 'for every input the law returns true; each argument reads behind the call as it read before'; 0 by the template 'total and deterministic' (their statements: YtfhfeaipdmcekaaTotals.lean).
  GIVEN WITH THE SEED: the statements are not yours to turn. If you find one false, say at which input.
  Laid BY PROGRAM, IN A SANDBOX (cutbox-rows.mjs): the forced cells as the released guide's own fill.sh prints them over the translation 19602869123c0b6c… (all of the seat's roots in one cut). By AI agents, Wed Nov 11 2026. No macro, syntax, notation, axiom, sorry.
-/
import Derived.Test.YtfhfeaipdmcekaaChecked
import GoSem.Claim
import GoSem.ClaimJoined
import GoSem.ClaimMapViews
import Derived.JoinedTies
import Derived.KernelRfl
namespace Go.Proofs.Ytfhfeaipdmcekaa
/- THE CELL 'sum', in the pinned program and in every row, IS THE sha256 OF THE DUMP (.gsa) THAT YtfhfeaipdmcekaaProg.lean LOADS. Nothing in Lean hashes anything: it is a label: what it is worth is what the hold of that sum in a sandbox is worth. -/
noncomputable def Try.pinned : Pinned := { name := "ytfhfeaipdmcekaa", sum := "19602869123c0b6cc39d57c7236d3148113dc8c70cf13f7a0df6ba4455112a0d", checked := Try.checked }
namespace Rows
def none {H : Type} : Left H := { results := [], args := [] }

/-- 'heartwoodlaw05.PageMay': WHATEVER THE INPUT: true; the input reads as it did. -/
def pageMaySpec : ChangeSpec := { name := "pageMay", fn := fun _ => fun
  | [d] => { results := [.lit (.bool true)], args := [d] }
  | _ => none }
def pageMayRow : OpenClaim := { program := "ytfhfeaipdmcekaa", sum := "19602869123c0b6cc39d57c7236d3148113dc8c70cf13f7a0df6ba4455112a0d", func := "heartwood/heartwoodlaw05.PageMay", spec := "pageMay", apart := false }
def PageMaySaid : Prop := pageMayRow.holds Try.pinned (OpenSpec.ofChange pageMaySpec)

/-- ITS FALSE NEIGHBOUR: 'it returns false'. Refute it at one input. -/
def pageMayWrong : ChangeSpec := { name := "pageMay", fn := fun _ => fun
  | [d] => { results := [.lit (.bool false)], args := [d] }
  | _ => none }
def PageMayWrongFalsely : Prop := pageMayRow.holds Try.pinned (OpenSpec.ofChange pageMayWrong)

/-- 'heartwoodlaw05.PageNames': WHATEVER THE INPUT: true; the input reads as it did. -/
def pageNamesSpec : ChangeSpec := { name := "pageNames", fn := fun _ => fun
  | [] => { results := [.lit (.bool true)], args := [] }
  | _ => none }
def pageNamesRow : OpenClaim := { program := "ytfhfeaipdmcekaa", sum := "19602869123c0b6cc39d57c7236d3148113dc8c70cf13f7a0df6ba4455112a0d", func := "heartwood/heartwoodlaw05.PageNames", spec := "pageNames", apart := false }
def PageNamesSaid : Prop := pageNamesRow.holds Try.pinned (OpenSpec.ofChange pageNamesSpec)

/-- ITS FALSE NEIGHBOUR: 'it returns false'. Refute it at one input. -/
def pageNamesWrong : ChangeSpec := { name := "pageNames", fn := fun _ => fun
  | [] => { results := [.lit (.bool false)], args := [] }
  | _ => none }
def PageNamesWrongFalsely : Prop := pageNamesRow.holds Try.pinned (OpenSpec.ofChange pageNamesWrong)

/-- 'heartwoodlaw05.PageCheck': WHATEVER THE INPUT: true; the input reads as it did. -/
def pageCheckSpec : ChangeSpec := { name := "pageCheck", fn := fun _ => fun
  | [d1, d2] => { results := [.lit (.bool true)], args := [d1, d2] }
  | _ => none }
def pageCheckRow : OpenClaim := { program := "ytfhfeaipdmcekaa", sum := "19602869123c0b6cc39d57c7236d3148113dc8c70cf13f7a0df6ba4455112a0d", func := "heartwood/heartwoodlaw05.PageCheck", spec := "pageCheck", apart := false }
def PageCheckSaid : Prop := pageCheckRow.holds Try.pinned (OpenSpec.ofChange pageCheckSpec)

/-- ITS FALSE NEIGHBOUR: 'it returns false'. Refute it at one input. -/
def pageCheckWrong : ChangeSpec := { name := "pageCheck", fn := fun _ => fun
  | [d1, d2] => { results := [.lit (.bool false)], args := [d1, d2] }
  | _ => none }
def PageCheckWrongFalsely : Prop := pageCheckRow.holds Try.pinned (OpenSpec.ofChange pageCheckWrong)

/-- 'heartwoodlaw05.PageBack': WHATEVER THE INPUT: true; the input reads as it did. -/
def pageBackSpec : ChangeSpec := { name := "pageBack", fn := fun _ => fun
  | [d1, d2] => { results := [.lit (.bool true)], args := [d1, d2] }
  | _ => none }
def pageBackRow : OpenClaim := { program := "ytfhfeaipdmcekaa", sum := "19602869123c0b6cc39d57c7236d3148113dc8c70cf13f7a0df6ba4455112a0d", func := "heartwood/heartwoodlaw05.PageBack", spec := "pageBack", apart := false }
def PageBackSaid : Prop := pageBackRow.holds Try.pinned (OpenSpec.ofChange pageBackSpec)

/-- ITS FALSE NEIGHBOUR: 'it returns false'. Refute it at one input. -/
def pageBackWrong : ChangeSpec := { name := "pageBack", fn := fun _ => fun
  | [d1, d2] => { results := [.lit (.bool false)], args := [d1, d2] }
  | _ => none }
def PageBackWrongFalsely : Prop := pageBackRow.holds Try.pinned (OpenSpec.ofChange pageBackWrong)

/-- 'heartwoodlaw05.PageTurned': WHATEVER THE INPUT: true; the input reads as it did. -/
def pageTurnedSpec : ChangeSpec := { name := "pageTurned", fn := fun _ => fun
  | [d] => { results := [.lit (.bool true)], args := [d] }
  | _ => none }
def pageTurnedRow : OpenClaim := { program := "ytfhfeaipdmcekaa", sum := "19602869123c0b6cc39d57c7236d3148113dc8c70cf13f7a0df6ba4455112a0d", func := "heartwood/heartwoodlaw05.PageTurned", spec := "pageTurned", apart := false }
def PageTurnedSaid : Prop := pageTurnedRow.holds Try.pinned (OpenSpec.ofChange pageTurnedSpec)

/-- ITS FALSE NEIGHBOUR: 'it returns false'. Refute it at one input. -/
def pageTurnedWrong : ChangeSpec := { name := "pageTurned", fn := fun _ => fun
  | [d] => { results := [.lit (.bool false)], args := [d] }
  | _ => none }
def PageTurnedWrongFalsely : Prop := pageTurnedRow.holds Try.pinned (OpenSpec.ofChange pageTurnedWrong)

/-- 'heartwoodlaw05.PageWrite': WHATEVER THE INPUT: true; the input reads as it did. -/
def pageWriteSpec : ChangeSpec := { name := "pageWrite", fn := fun _ => fun
  | [d1, d2] => { results := [.lit (.bool true)], args := [d1, d2] }
  | _ => none }
def pageWriteRow : OpenClaim := { program := "ytfhfeaipdmcekaa", sum := "19602869123c0b6cc39d57c7236d3148113dc8c70cf13f7a0df6ba4455112a0d", func := "heartwood/heartwoodlaw05.PageWrite", spec := "pageWrite", apart := false }
def PageWriteSaid : Prop := pageWriteRow.holds Try.pinned (OpenSpec.ofChange pageWriteSpec)

/-- ITS FALSE NEIGHBOUR: 'it returns false'. Refute it at one input. -/
def pageWriteWrong : ChangeSpec := { name := "pageWrite", fn := fun _ => fun
  | [d1, d2] => { results := [.lit (.bool false)], args := [d1, d2] }
  | _ => none }
def PageWriteWrongFalsely : Prop := pageWriteRow.holds Try.pinned (OpenSpec.ofChange pageWriteWrong)

/-- 'heartwoodlaw05.PageRead': WHATEVER THE INPUT: true; the input reads as it did. -/
def pageReadSpec : ChangeSpec := { name := "pageRead", fn := fun _ => fun
  | [d1, d2, d3] => { results := [.lit (.bool true)], args := [d1, d2, d3] }
  | _ => none }
def pageReadRow : OpenClaim := { program := "ytfhfeaipdmcekaa", sum := "19602869123c0b6cc39d57c7236d3148113dc8c70cf13f7a0df6ba4455112a0d", func := "heartwood/heartwoodlaw05.PageRead", spec := "pageRead", apart := false }
def PageReadSaid : Prop := pageReadRow.holds Try.pinned (OpenSpec.ofChange pageReadSpec)

/-- ITS FALSE NEIGHBOUR: 'it returns false'. Refute it at one input. -/
def pageReadWrong : ChangeSpec := { name := "pageRead", fn := fun _ => fun
  | [d1, d2, d3] => { results := [.lit (.bool false)], args := [d1, d2, d3] }
  | _ => none }
def PageReadWrongFalsely : Prop := pageReadRow.holds Try.pinned (OpenSpec.ofChange pageReadWrong)

/-- 'heartwoodlaw05.PageSheets': WHATEVER THE INPUT: true; the input reads as it did. -/
def pageSheetsSpec : ChangeSpec := { name := "pageSheets", fn := fun _ => fun
  | [d] => { results := [.lit (.bool true)], args := [d] }
  | _ => none }
def pageSheetsRow : OpenClaim := { program := "ytfhfeaipdmcekaa", sum := "19602869123c0b6cc39d57c7236d3148113dc8c70cf13f7a0df6ba4455112a0d", func := "heartwood/heartwoodlaw05.PageSheets", spec := "pageSheets", unfollowed := true, recurses := true, apart := false }
def PageSheetsSaid : Prop := pageSheetsRow.holds Try.pinned (OpenSpec.ofChange pageSheetsSpec)

/-- ITS FALSE NEIGHBOUR: 'it returns false'. Refute it at one input. -/
def pageSheetsWrong : ChangeSpec := { name := "pageSheets", fn := fun _ => fun
  | [d] => { results := [.lit (.bool false)], args := [d] }
  | _ => none }
def PageSheetsWrongFalsely : Prop := pageSheetsRow.holds Try.pinned (OpenSpec.ofChange pageSheetsWrong)

/-- 'heartwoodlaw05.PageAlike': WHATEVER THE INPUT: true; the input reads as it did. -/
def pageAlikeSpec : ChangeSpec := { name := "pageAlike", fn := fun _ => fun
  | [d1, d2] => { results := [.lit (.bool true)], args := [d1, d2] }
  | _ => none }
def pageAlikeRow : OpenClaim := { program := "ytfhfeaipdmcekaa", sum := "19602869123c0b6cc39d57c7236d3148113dc8c70cf13f7a0df6ba4455112a0d", func := "heartwood/heartwoodlaw05.PageAlike", spec := "pageAlike", unfollowed := true, recurses := true, apart := false }
def PageAlikeSaid : Prop := pageAlikeRow.holds Try.pinned (OpenSpec.ofChange pageAlikeSpec)

/-- ITS FALSE NEIGHBOUR: 'it returns false'. Refute it at one input. -/
def pageAlikeWrong : ChangeSpec := { name := "pageAlike", fn := fun _ => fun
  | [d1, d2] => { results := [.lit (.bool false)], args := [d1, d2] }
  | _ => none }
def PageAlikeWrongFalsely : Prop := pageAlikeRow.holds Try.pinned (OpenSpec.ofChange pageAlikeWrong)

/-- 'heartwoodlaw05.PageShelf': WHATEVER THE INPUT: true; the input reads as it did. -/
def pageShelfSpec : ChangeSpec := { name := "pageShelf", fn := fun _ => fun
  | [d] => { results := [.lit (.bool true)], args := [d] }
  | _ => none }
def pageShelfRow : OpenClaim := { program := "ytfhfeaipdmcekaa", sum := "19602869123c0b6cc39d57c7236d3148113dc8c70cf13f7a0df6ba4455112a0d", func := "heartwood/heartwoodlaw05.PageShelf", spec := "pageShelf", unfollowed := true, recurses := true, apart := false }
def PageShelfSaid : Prop := pageShelfRow.holds Try.pinned (OpenSpec.ofChange pageShelfSpec)

/-- ITS FALSE NEIGHBOUR: 'it returns false'. Refute it at one input. -/
def pageShelfWrong : ChangeSpec := { name := "pageShelf", fn := fun _ => fun
  | [d] => { results := [.lit (.bool false)], args := [d] }
  | _ => none }
def PageShelfWrongFalsely : Prop := pageShelfRow.holds Try.pinned (OpenSpec.ofChange pageShelfWrong)

/-- 'heartwoodlaw05.PageNil': WHATEVER THE INPUT: true; the input reads as it did. -/
def pageNilSpec : ChangeSpec := { name := "pageNil", fn := fun _ => fun
  | [d] => { results := [.lit (.bool true)], args := [d] }
  | _ => none }
def pageNilRow : OpenClaim := { program := "ytfhfeaipdmcekaa", sum := "19602869123c0b6cc39d57c7236d3148113dc8c70cf13f7a0df6ba4455112a0d", func := "heartwood/heartwoodlaw05.PageNil", spec := "pageNil", unfollowed := true, recurses := true, apart := false }
def PageNilSaid : Prop := pageNilRow.holds Try.pinned (OpenSpec.ofChange pageNilSpec)

/-- ITS FALSE NEIGHBOUR: 'it returns false'. Refute it at one input. -/
def pageNilWrong : ChangeSpec := { name := "pageNil", fn := fun _ => fun
  | [d] => { results := [.lit (.bool false)], args := [d] }
  | _ => none }
def PageNilWrongFalsely : Prop := pageNilRow.holds Try.pinned (OpenSpec.ofChange pageNilWrong)

/- THE SECOND FORM. 'bulk': how many values and letters a reading holds, each counted each time it is reached (what is shared counts as often as it is met; a slice's spare places count too). A statement '..UptoSaid' is the law's where the arguments, and the package variables that the reading takes, are together of bulk at most 1048576: NARROWER than '..Said'. Prove '..Said' where nothing that the law and all that it calls make is longer than what came in: it says more and counts as full. Else prove '..UptoSaid'. A law counts once. -/
mutual
def uptoBulk {H : Type} : DataW H → Nat
  | .lit (.string bytes) => bytes.length + 1
  | .lit _ => 1
  | .nil => 1
  | .ptr d => uptoBulk d + 1
  | .slice elems spare => uptoBulkAll elems + uptoBulkAll spare + 1
  | .agg parts => uptoBulkAll parts + 1
  | .iface _ d => uptoBulk d + 1
  | .map entries => uptoBulkEntries entries + 1
  | .held _ => 1
def uptoBulkAll {H : Type} : List (DataW H) → Nat
  | [] => 0
  | d :: r => uptoBulk d + uptoBulkAll r
def uptoBulkEntries {H : Type} : List (Lit × DataW H) → Nat
  | [] => 0
  | x :: r => uptoBulkEntry x + uptoBulkEntries r
def uptoBulkEntry {H : Type} : Lit × DataW H → Nat
  | (.string bytes, d) => bytes.length + uptoBulk d + 1
  | (_, d) => uptoBulk d + 1
 end
def uptoSmall : (H : Type) → List (DataW H) → Bool := fun _ ds => decide (uptoBulkAll ds ≤ 1048576)
def OpenSpec.upto (s : _root_.Go.ChangeSpec) : _root_.Go.OpenSpec := { _root_.Go.OpenSpec.ofChange s with cond := some uptoSmall }

/-- 'heartwoodlaw05.PageMay', WHERE WHAT IT READS IS OF BULK AT MOST 1048576: true; the input reads as it did. -/
def pageMayUptoRow : OpenClaim := { program := "ytfhfeaipdmcekaa", sum := "19602869123c0b6cc39d57c7236d3148113dc8c70cf13f7a0df6ba4455112a0d", func := "heartwood/heartwoodlaw05.PageMay", spec := "pageMay", apart := false, narrowed := true }
def PageMayUptoSaid : Prop := pageMayUptoRow.holds Try.pinned (OpenSpec.upto pageMaySpec)

/-- 'heartwoodlaw05.PageNames', WHERE WHAT IT READS IS OF BULK AT MOST 1048576: true; the input reads as it did. -/
def pageNamesUptoRow : OpenClaim := { program := "ytfhfeaipdmcekaa", sum := "19602869123c0b6cc39d57c7236d3148113dc8c70cf13f7a0df6ba4455112a0d", func := "heartwood/heartwoodlaw05.PageNames", spec := "pageNames", apart := false, narrowed := true }
def PageNamesUptoSaid : Prop := pageNamesUptoRow.holds Try.pinned (OpenSpec.upto pageNamesSpec)

/-- 'heartwoodlaw05.PageCheck', WHERE WHAT IT READS IS OF BULK AT MOST 1048576: true; the input reads as it did. -/
def pageCheckUptoRow : OpenClaim := { program := "ytfhfeaipdmcekaa", sum := "19602869123c0b6cc39d57c7236d3148113dc8c70cf13f7a0df6ba4455112a0d", func := "heartwood/heartwoodlaw05.PageCheck", spec := "pageCheck", apart := false, narrowed := true }
def PageCheckUptoSaid : Prop := pageCheckUptoRow.holds Try.pinned (OpenSpec.upto pageCheckSpec)

/-- 'heartwoodlaw05.PageBack', WHERE WHAT IT READS IS OF BULK AT MOST 1048576: true; the input reads as it did. -/
def pageBackUptoRow : OpenClaim := { program := "ytfhfeaipdmcekaa", sum := "19602869123c0b6cc39d57c7236d3148113dc8c70cf13f7a0df6ba4455112a0d", func := "heartwood/heartwoodlaw05.PageBack", spec := "pageBack", apart := false, narrowed := true }
def PageBackUptoSaid : Prop := pageBackUptoRow.holds Try.pinned (OpenSpec.upto pageBackSpec)

/-- 'heartwoodlaw05.PageTurned', WHERE WHAT IT READS IS OF BULK AT MOST 1048576: true; the input reads as it did. -/
def pageTurnedUptoRow : OpenClaim := { program := "ytfhfeaipdmcekaa", sum := "19602869123c0b6cc39d57c7236d3148113dc8c70cf13f7a0df6ba4455112a0d", func := "heartwood/heartwoodlaw05.PageTurned", spec := "pageTurned", apart := false, narrowed := true }
def PageTurnedUptoSaid : Prop := pageTurnedUptoRow.holds Try.pinned (OpenSpec.upto pageTurnedSpec)

/-- 'heartwoodlaw05.PageWrite', WHERE WHAT IT READS IS OF BULK AT MOST 1048576: true; the input reads as it did. -/
def pageWriteUptoRow : OpenClaim := { program := "ytfhfeaipdmcekaa", sum := "19602869123c0b6cc39d57c7236d3148113dc8c70cf13f7a0df6ba4455112a0d", func := "heartwood/heartwoodlaw05.PageWrite", spec := "pageWrite", apart := false, narrowed := true }
def PageWriteUptoSaid : Prop := pageWriteUptoRow.holds Try.pinned (OpenSpec.upto pageWriteSpec)

/-- 'heartwoodlaw05.PageRead', WHERE WHAT IT READS IS OF BULK AT MOST 1048576: true; the input reads as it did. -/
def pageReadUptoRow : OpenClaim := { program := "ytfhfeaipdmcekaa", sum := "19602869123c0b6cc39d57c7236d3148113dc8c70cf13f7a0df6ba4455112a0d", func := "heartwood/heartwoodlaw05.PageRead", spec := "pageRead", apart := false, narrowed := true }
def PageReadUptoSaid : Prop := pageReadUptoRow.holds Try.pinned (OpenSpec.upto pageReadSpec)

/-- 'heartwoodlaw05.PageSheets', WHERE WHAT IT READS IS OF BULK AT MOST 1048576: true; the input reads as it did. -/
def pageSheetsUptoRow : OpenClaim := { program := "ytfhfeaipdmcekaa", sum := "19602869123c0b6cc39d57c7236d3148113dc8c70cf13f7a0df6ba4455112a0d", func := "heartwood/heartwoodlaw05.PageSheets", spec := "pageSheets", unfollowed := true, recurses := true, apart := false, narrowed := true }
def PageSheetsUptoSaid : Prop := pageSheetsUptoRow.holds Try.pinned (OpenSpec.upto pageSheetsSpec)

/-- 'heartwoodlaw05.PageAlike', WHERE WHAT IT READS IS OF BULK AT MOST 1048576: true; the input reads as it did. -/
def pageAlikeUptoRow : OpenClaim := { program := "ytfhfeaipdmcekaa", sum := "19602869123c0b6cc39d57c7236d3148113dc8c70cf13f7a0df6ba4455112a0d", func := "heartwood/heartwoodlaw05.PageAlike", spec := "pageAlike", unfollowed := true, recurses := true, apart := false, narrowed := true }
def PageAlikeUptoSaid : Prop := pageAlikeUptoRow.holds Try.pinned (OpenSpec.upto pageAlikeSpec)

/-- 'heartwoodlaw05.PageShelf', WHERE WHAT IT READS IS OF BULK AT MOST 1048576: true; the input reads as it did. -/
def pageShelfUptoRow : OpenClaim := { program := "ytfhfeaipdmcekaa", sum := "19602869123c0b6cc39d57c7236d3148113dc8c70cf13f7a0df6ba4455112a0d", func := "heartwood/heartwoodlaw05.PageShelf", spec := "pageShelf", unfollowed := true, recurses := true, apart := false, narrowed := true }
def PageShelfUptoSaid : Prop := pageShelfUptoRow.holds Try.pinned (OpenSpec.upto pageShelfSpec)

/-- 'heartwoodlaw05.PageNil', WHERE WHAT IT READS IS OF BULK AT MOST 1048576: true; the input reads as it did. -/
def pageNilUptoRow : OpenClaim := { program := "ytfhfeaipdmcekaa", sum := "19602869123c0b6cc39d57c7236d3148113dc8c70cf13f7a0df6ba4455112a0d", func := "heartwood/heartwoodlaw05.PageNil", spec := "pageNil", unfollowed := true, recurses := true, apart := false, narrowed := true }
def PageNilUptoSaid : Prop := pageNilUptoRow.holds Try.pinned (OpenSpec.upto pageNilSpec)

end Rows
end Go.Proofs.Ytfhfeaipdmcekaa
