/-
  No cell of these rows narrows 'for every input' (looked for: loops, veiled, ifaces, maps, wideKeys, modest, calm, conditions, laid).
  DERIVED. THE GIVEN ROWS OF THIS SEAT. 19 by the template 'for every input the law returns true; each argument reads behind the call as it read before'; 0 by the template 'total and deterministic' (their statements: YtmjikebbknjahaaTotals.lean).
  GIVEN WITH THE SEED: the statements are not yours to turn. If you find one false, say at which input.
  Laid BY PROGRAM, IN A SANDBOX (cutbox-rows.mjs): the forced cells as the released guide's own fill.sh prints them over the translation 415ad636ede86f11… (all of the seat's roots in one cut). By AI agents, Wed Nov 11 2026. No macro, syntax, notation, axiom, sorry.
-/
import Derived.Test.YtmjikebbknjahaaChecked
import GoSem.Claim
import GoSem.ClaimJoined
import GoSem.ClaimMapViews
import Derived.JoinedTies
import Derived.KernelRfl
namespace Go.Proofs.Ytmjikebbknjahaa
/- THE CELL 'sum', in the pinned program and in every row, IS THE sha256 OF THE DUMP (.gsa) THAT YtmjikebbknjahaaProg.lean LOADS. Nothing in Lean hashes anything: it is a label: what it is worth is what the hold of that sum in a sandbox is worth. -/
noncomputable def Try.pinned : Pinned := { name := "ytmjikebbknjahaa", sum := "415ad636ede86f11abc986969674ec1cdcbda97b4091ecaa4f616c2cdf03b846", checked := Try.checked }
namespace Rows
def none {H : Type} : Left H := { results := [], args := [] }

/-- 'heartwoodlaw02.SumsNames': WHATEVER THE INPUT: true; the input reads as it did. -/
def sumsNamesSpec : ChangeSpec := { name := "sumsNames", fn := fun _ => fun
  | [] => { results := [.lit (.bool true)], args := [] }
  | _ => none }
def sumsNamesRow : OpenClaim := { program := "ytmjikebbknjahaa", sum := "415ad636ede86f11abc986969674ec1cdcbda97b4091ecaa4f616c2cdf03b846", func := "heartwood/heartwoodlaw02.SumsNames", spec := "sumsNames", apart := false }
def SumsNamesSaid : Prop := sumsNamesRow.holds Try.pinned (OpenSpec.ofChange sumsNamesSpec)

/-- ITS FALSE NEIGHBOUR: 'it returns false'. Refute it at one input. -/
def sumsNamesWrong : ChangeSpec := { name := "sumsNames", fn := fun _ => fun
  | [] => { results := [.lit (.bool false)], args := [] }
  | _ => none }
def SumsNamesWrongFalsely : Prop := sumsNamesRow.holds Try.pinned (OpenSpec.ofChange sumsNamesWrong)

/-- 'heartwoodlaw02.SumsCRC': WHATEVER THE INPUT: true; the input reads as it did. -/
def sumsCRCSpec : ChangeSpec := { name := "sumsCRC", fn := fun _ => fun
  | [d] => { results := [.lit (.bool true)], args := [d] }
  | _ => none }
def sumsCRCRow : OpenClaim := { program := "ytmjikebbknjahaa", sum := "415ad636ede86f11abc986969674ec1cdcbda97b4091ecaa4f616c2cdf03b846", func := "heartwood/heartwoodlaw02.SumsCRC", spec := "sumsCRC", apart := false }
def SumsCRCSaid : Prop := sumsCRCRow.holds Try.pinned (OpenSpec.ofChange sumsCRCSpec)

/-- ITS FALSE NEIGHBOUR: 'it returns false'. Refute it at one input. -/
def sumsCRCWrong : ChangeSpec := { name := "sumsCRC", fn := fun _ => fun
  | [d] => { results := [.lit (.bool false)], args := [d] }
  | _ => none }
def SumsCRCWrongFalsely : Prop := sumsCRCRow.holds Try.pinned (OpenSpec.ofChange sumsCRCWrong)

/-- 'heartwoodlaw02.SumsJoin': WHATEVER THE INPUT: true; the input reads as it did. -/
def sumsJoinSpec : ChangeSpec := { name := "sumsJoin", fn := fun _ => fun
  | [d1, d2, d3] => { results := [.lit (.bool true)], args := [d1, d2, d3] }
  | _ => none }
def sumsJoinRow : OpenClaim := { program := "ytmjikebbknjahaa", sum := "415ad636ede86f11abc986969674ec1cdcbda97b4091ecaa4f616c2cdf03b846", func := "heartwood/heartwoodlaw02.SumsJoin", spec := "sumsJoin", recurses := true, apart := false }
def SumsJoinSaid : Prop := sumsJoinRow.holds Try.pinned (OpenSpec.ofChange sumsJoinSpec)

/-- ITS FALSE NEIGHBOUR: 'it returns false'. Refute it at one input. -/
def sumsJoinWrong : ChangeSpec := { name := "sumsJoin", fn := fun _ => fun
  | [d1, d2, d3] => { results := [.lit (.bool false)], args := [d1, d2, d3] }
  | _ => none }
def SumsJoinWrongFalsely : Prop := sumsJoinRow.holds Try.pinned (OpenSpec.ofChange sumsJoinWrong)

/-- 'heartwoodlaw02.SumsTurned': WHATEVER THE INPUT: true; the input reads as it did. -/
def sumsTurnedSpec : ChangeSpec := { name := "sumsTurned", fn := fun _ => fun
  | [d1, d2, d3] => { results := [.lit (.bool true)], args := [d1, d2, d3] }
  | _ => none }
def sumsTurnedRow : OpenClaim := { program := "ytmjikebbknjahaa", sum := "415ad636ede86f11abc986969674ec1cdcbda97b4091ecaa4f616c2cdf03b846", func := "heartwood/heartwoodlaw02.SumsTurned", spec := "sumsTurned", apart := false }
def SumsTurnedSaid : Prop := sumsTurnedRow.holds Try.pinned (OpenSpec.ofChange sumsTurnedSpec)

/-- ITS FALSE NEIGHBOUR: 'it returns false'. Refute it at one input. -/
def sumsTurnedWrong : ChangeSpec := { name := "sumsTurned", fn := fun _ => fun
  | [d1, d2, d3] => { results := [.lit (.bool false)], args := [d1, d2, d3] }
  | _ => none }
def SumsTurnedWrongFalsely : Prop := sumsTurnedRow.holds Try.pinned (OpenSpec.ofChange sumsTurnedWrong)

/-- 'heartwoodlaw02.SumsSum': WHATEVER THE INPUT: true; the input reads as it did. -/
def sumsSumSpec : ChangeSpec := { name := "sumsSum", fn := fun _ => fun
  | [d] => { results := [.lit (.bool true)], args := [d] }
  | _ => none }
def sumsSumRow : OpenClaim := { program := "ytmjikebbknjahaa", sum := "415ad636ede86f11abc986969674ec1cdcbda97b4091ecaa4f616c2cdf03b846", func := "heartwood/heartwoodlaw02.SumsSum", spec := "sumsSum", apart := false }
def SumsSumSaid : Prop := sumsSumRow.holds Try.pinned (OpenSpec.ofChange sumsSumSpec)

/-- ITS FALSE NEIGHBOUR: 'it returns false'. Refute it at one input. -/
def sumsSumWrong : ChangeSpec := { name := "sumsSum", fn := fun _ => fun
  | [d] => { results := [.lit (.bool false)], args := [d] }
  | _ => none }
def SumsSumWrongFalsely : Prop := sumsSumRow.holds Try.pinned (OpenSpec.ofChange sumsSumWrong)

/-- 'heartwoodlaw02.SumsOneText': WHATEVER THE INPUT: true; the input reads as it did. -/
def sumsOneTextSpec : ChangeSpec := { name := "sumsOneText", fn := fun _ => fun
  | [d1, d2] => { results := [.lit (.bool true)], args := [d1, d2] }
  | _ => none }
def sumsOneTextRow : OpenClaim := { program := "ytmjikebbknjahaa", sum := "415ad636ede86f11abc986969674ec1cdcbda97b4091ecaa4f616c2cdf03b846", func := "heartwood/heartwoodlaw02.SumsOneText", spec := "sumsOneText", apart := false }
def SumsOneTextSaid : Prop := sumsOneTextRow.holds Try.pinned (OpenSpec.ofChange sumsOneTextSpec)

/-- ITS FALSE NEIGHBOUR: 'it returns false'. Refute it at one input. -/
def sumsOneTextWrong : ChangeSpec := { name := "sumsOneText", fn := fun _ => fun
  | [d1, d2] => { results := [.lit (.bool false)], args := [d1, d2] }
  | _ => none }
def SumsOneTextWrongFalsely : Prop := sumsOneTextRow.holds Try.pinned (OpenSpec.ofChange sumsOneTextWrong)

/-- 'heartwoodlaw02.SumsDigest': WHATEVER THE INPUT: true; the input reads as it did. -/
def sumsDigestSpec : ChangeSpec := { name := "sumsDigest", fn := fun _ => fun
  | [d1, d2, d3] => { results := [.lit (.bool true)], args := [d1, d2, d3] }
  | _ => none }
def sumsDigestRow : OpenClaim := { program := "ytmjikebbknjahaa", sum := "415ad636ede86f11abc986969674ec1cdcbda97b4091ecaa4f616c2cdf03b846", func := "heartwood/heartwoodlaw02.SumsDigest", spec := "sumsDigest", apart := false }
def SumsDigestSaid : Prop := sumsDigestRow.holds Try.pinned (OpenSpec.ofChange sumsDigestSpec)

/-- ITS FALSE NEIGHBOUR: 'it returns false'. Refute it at one input. -/
def sumsDigestWrong : ChangeSpec := { name := "sumsDigest", fn := fun _ => fun
  | [d1, d2, d3] => { results := [.lit (.bool false)], args := [d1, d2, d3] }
  | _ => none }
def SumsDigestWrongFalsely : Prop := sumsDigestRow.holds Try.pinned (OpenSpec.ofChange sumsDigestWrong)

/-- 'heartwoodlaw02.SumsOf': WHATEVER THE INPUT: true; the input reads as it did. -/
def sumsOfSpec : ChangeSpec := { name := "sumsOf", fn := fun _ => fun
  | [d1, d2] => { results := [.lit (.bool true)], args := [d1, d2] }
  | _ => none }
def sumsOfRow : OpenClaim := { program := "ytmjikebbknjahaa", sum := "415ad636ede86f11abc986969674ec1cdcbda97b4091ecaa4f616c2cdf03b846", func := "heartwood/heartwoodlaw02.SumsOf", spec := "sumsOf", apart := false }
def SumsOfSaid : Prop := sumsOfRow.holds Try.pinned (OpenSpec.ofChange sumsOfSpec)

/-- ITS FALSE NEIGHBOUR: 'it returns false'. Refute it at one input. -/
def sumsOfWrong : ChangeSpec := { name := "sumsOf", fn := fun _ => fun
  | [d1, d2] => { results := [.lit (.bool false)], args := [d1, d2] }
  | _ => none }
def SumsOfWrongFalsely : Prop := sumsOfRow.holds Try.pinned (OpenSpec.ofChange sumsOfWrong)

/-- 'heartwoodlaw02.SumsMore': WHATEVER THE INPUT: true; the input reads as it did. -/
def sumsMoreSpec : ChangeSpec := { name := "sumsMore", fn := fun _ => fun
  | [d1, d2] => { results := [.lit (.bool true)], args := [d1, d2] }
  | _ => none }
def sumsMoreRow : OpenClaim := { program := "ytmjikebbknjahaa", sum := "415ad636ede86f11abc986969674ec1cdcbda97b4091ecaa4f616c2cdf03b846", func := "heartwood/heartwoodlaw02.SumsMore", spec := "sumsMore", apart := false }
def SumsMoreSaid : Prop := sumsMoreRow.holds Try.pinned (OpenSpec.ofChange sumsMoreSpec)

/-- ITS FALSE NEIGHBOUR: 'it returns false'. Refute it at one input. -/
def sumsMoreWrong : ChangeSpec := { name := "sumsMore", fn := fun _ => fun
  | [d1, d2] => { results := [.lit (.bool false)], args := [d1, d2] }
  | _ => none }
def SumsMoreWrongFalsely : Prop := sumsMoreRow.holds Try.pinned (OpenSpec.ofChange sumsMoreWrong)

/-- 'heartwoodlaw02.SumsTogether': WHATEVER THE INPUT: true; the input reads as it did. -/
def sumsTogetherSpec : ChangeSpec := { name := "sumsTogether", fn := fun _ => fun
  | [d1, d2, d3] => { results := [.lit (.bool true)], args := [d1, d2, d3] }
  | _ => none }
def sumsTogetherRow : OpenClaim := { program := "ytmjikebbknjahaa", sum := "415ad636ede86f11abc986969674ec1cdcbda97b4091ecaa4f616c2cdf03b846", func := "heartwood/heartwoodlaw02.SumsTogether", spec := "sumsTogether", apart := false }
def SumsTogetherSaid : Prop := sumsTogetherRow.holds Try.pinned (OpenSpec.ofChange sumsTogetherSpec)

/-- ITS FALSE NEIGHBOUR: 'it returns false'. Refute it at one input. -/
def sumsTogetherWrong : ChangeSpec := { name := "sumsTogether", fn := fun _ => fun
  | [d1, d2, d3] => { results := [.lit (.bool false)], args := [d1, d2, d3] }
  | _ => none }
def SumsTogetherWrongFalsely : Prop := sumsTogetherRow.holds Try.pinned (OpenSpec.ofChange sumsTogetherWrong)

/-- 'heartwoodlaw02.SumsCut': WHATEVER THE INPUT: true; the input reads as it did. -/
def sumsCutSpec : ChangeSpec := { name := "sumsCut", fn := fun _ => fun
  | [d1, d2] => { results := [.lit (.bool true)], args := [d1, d2] }
  | _ => none }
def sumsCutRow : OpenClaim := { program := "ytmjikebbknjahaa", sum := "415ad636ede86f11abc986969674ec1cdcbda97b4091ecaa4f616c2cdf03b846", func := "heartwood/heartwoodlaw02.SumsCut", spec := "sumsCut", apart := false }
def SumsCutSaid : Prop := sumsCutRow.holds Try.pinned (OpenSpec.ofChange sumsCutSpec)

/-- ITS FALSE NEIGHBOUR: 'it returns false'. Refute it at one input. -/
def sumsCutWrong : ChangeSpec := { name := "sumsCut", fn := fun _ => fun
  | [d1, d2] => { results := [.lit (.bool false)], args := [d1, d2] }
  | _ => none }
def SumsCutWrongFalsely : Prop := sumsCutRow.holds Try.pinned (OpenSpec.ofChange sumsCutWrong)

/-- 'heartwoodlaw02.SumsClash': WHATEVER THE INPUT: true; the input reads as it did. -/
def sumsClashSpec : ChangeSpec := { name := "sumsClash", fn := fun _ => fun
  | [d1, d2, d3] => { results := [.lit (.bool true)], args := [d1, d2, d3] }
  | _ => none }
def sumsClashRow : OpenClaim := { program := "ytmjikebbknjahaa", sum := "415ad636ede86f11abc986969674ec1cdcbda97b4091ecaa4f616c2cdf03b846", func := "heartwood/heartwoodlaw02.SumsClash", spec := "sumsClash", apart := false }
def SumsClashSaid : Prop := sumsClashRow.holds Try.pinned (OpenSpec.ofChange sumsClashSpec)

/-- ITS FALSE NEIGHBOUR: 'it returns false'. Refute it at one input. -/
def sumsClashWrong : ChangeSpec := { name := "sumsClash", fn := fun _ => fun
  | [d1, d2, d3] => { results := [.lit (.bool false)], args := [d1, d2, d3] }
  | _ => none }
def SumsClashWrongFalsely : Prop := sumsClashRow.holds Try.pinned (OpenSpec.ofChange sumsClashWrong)

/-- 'heartwoodlaw02.SumsMany': WHATEVER THE INPUT: true; the input reads as it did. -/
def sumsManySpec : ChangeSpec := { name := "sumsMany", fn := fun _ => fun
  | [d] => { results := [.lit (.bool true)], args := [d] }
  | _ => none }
def sumsManyRow : OpenClaim := { program := "ytmjikebbknjahaa", sum := "415ad636ede86f11abc986969674ec1cdcbda97b4091ecaa4f616c2cdf03b846", func := "heartwood/heartwoodlaw02.SumsMany", spec := "sumsMany", apart := false }
def SumsManySaid : Prop := sumsManyRow.holds Try.pinned (OpenSpec.ofChange sumsManySpec)

/-- ITS FALSE NEIGHBOUR: 'it returns false'. Refute it at one input. -/
def sumsManyWrong : ChangeSpec := { name := "sumsMany", fn := fun _ => fun
  | [d] => { results := [.lit (.bool false)], args := [d] }
  | _ => none }
def SumsManyWrongFalsely : Prop := sumsManyRow.holds Try.pinned (OpenSpec.ofChange sumsManyWrong)

/-- 'heartwoodlaw02.SumsHash': WHATEVER THE INPUT: true; the input reads as it did. -/
def sumsHashSpec : ChangeSpec := { name := "sumsHash", fn := fun _ => fun
  | [d] => { results := [.lit (.bool true)], args := [d] }
  | _ => none }
def sumsHashRow : OpenClaim := { program := "ytmjikebbknjahaa", sum := "415ad636ede86f11abc986969674ec1cdcbda97b4091ecaa4f616c2cdf03b846", func := "heartwood/heartwoodlaw02.SumsHash", spec := "sumsHash", apart := false }
def SumsHashSaid : Prop := sumsHashRow.holds Try.pinned (OpenSpec.ofChange sumsHashSpec)

/-- ITS FALSE NEIGHBOUR: 'it returns false'. Refute it at one input. -/
def sumsHashWrong : ChangeSpec := { name := "sumsHash", fn := fun _ => fun
  | [d] => { results := [.lit (.bool false)], args := [d] }
  | _ => none }
def SumsHashWrongFalsely : Prop := sumsHashRow.holds Try.pinned (OpenSpec.ofChange sumsHashWrong)

/-- 'heartwoodlaw02.SumsNil': WHATEVER THE INPUT: true; the input reads as it did. -/
def sumsNilSpec : ChangeSpec := { name := "sumsNil", fn := fun _ => fun
  | [d] => { results := [.lit (.bool true)], args := [d] }
  | _ => none }
def sumsNilRow : OpenClaim := { program := "ytmjikebbknjahaa", sum := "415ad636ede86f11abc986969674ec1cdcbda97b4091ecaa4f616c2cdf03b846", func := "heartwood/heartwoodlaw02.SumsNil", spec := "sumsNil", apart := false }
def SumsNilSaid : Prop := sumsNilRow.holds Try.pinned (OpenSpec.ofChange sumsNilSpec)

/-- ITS FALSE NEIGHBOUR: 'it returns false'. Refute it at one input. -/
def sumsNilWrong : ChangeSpec := { name := "sumsNil", fn := fun _ => fun
  | [d] => { results := [.lit (.bool false)], args := [d] }
  | _ => none }
def SumsNilWrongFalsely : Prop := sumsNilRow.holds Try.pinned (OpenSpec.ofChange sumsNilWrong)

/-- 'heartwoodlaw02.SumsText': WHATEVER THE INPUT: true; the input reads as it did. -/
def sumsTextSpec : ChangeSpec := { name := "sumsText", fn := fun _ => fun
  | [d1, d2] => { results := [.lit (.bool true)], args := [d1, d2] }
  | _ => none }
def sumsTextRow : OpenClaim := { program := "ytmjikebbknjahaa", sum := "415ad636ede86f11abc986969674ec1cdcbda97b4091ecaa4f616c2cdf03b846", func := "heartwood/heartwoodlaw02.SumsText", spec := "sumsText", apart := false }
def SumsTextSaid : Prop := sumsTextRow.holds Try.pinned (OpenSpec.ofChange sumsTextSpec)

/-- ITS FALSE NEIGHBOUR: 'it returns false'. Refute it at one input. -/
def sumsTextWrong : ChangeSpec := { name := "sumsText", fn := fun _ => fun
  | [d1, d2] => { results := [.lit (.bool false)], args := [d1, d2] }
  | _ => none }
def SumsTextWrongFalsely : Prop := sumsTextRow.holds Try.pinned (OpenSpec.ofChange sumsTextWrong)

/-- 'heartwoodlaw02.SumsParts': WHATEVER THE INPUT: true; the input reads as it did. -/
def sumsPartsSpec : ChangeSpec := { name := "sumsParts", fn := fun _ => fun
  | [d] => { results := [.lit (.bool true)], args := [d] }
  | _ => none }
def sumsPartsRow : OpenClaim := { program := "ytmjikebbknjahaa", sum := "415ad636ede86f11abc986969674ec1cdcbda97b4091ecaa4f616c2cdf03b846", func := "heartwood/heartwoodlaw02.SumsParts", spec := "sumsParts", apart := false }
def SumsPartsSaid : Prop := sumsPartsRow.holds Try.pinned (OpenSpec.ofChange sumsPartsSpec)

/-- ITS FALSE NEIGHBOUR: 'it returns false'. Refute it at one input. -/
def sumsPartsWrong : ChangeSpec := { name := "sumsParts", fn := fun _ => fun
  | [d] => { results := [.lit (.bool false)], args := [d] }
  | _ => none }
def SumsPartsWrongFalsely : Prop := sumsPartsRow.holds Try.pinned (OpenSpec.ofChange sumsPartsWrong)

/-- 'heartwoodlaw02.SumsRead': WHATEVER THE INPUT: true; the input reads as it did. -/
def sumsReadSpec : ChangeSpec := { name := "sumsRead", fn := fun _ => fun
  | [d1, d2] => { results := [.lit (.bool true)], args := [d1, d2] }
  | _ => none }
def sumsReadRow : OpenClaim := { program := "ytmjikebbknjahaa", sum := "415ad636ede86f11abc986969674ec1cdcbda97b4091ecaa4f616c2cdf03b846", func := "heartwood/heartwoodlaw02.SumsRead", spec := "sumsRead", inPlace := ["internal/bytealg.IndexByteString"], apart := false }
def SumsReadSaid : Prop := sumsReadRow.holds Try.pinned (OpenSpec.ofChange sumsReadSpec)

/-- ITS FALSE NEIGHBOUR: 'it returns false'. Refute it at one input. -/
def sumsReadWrong : ChangeSpec := { name := "sumsRead", fn := fun _ => fun
  | [d1, d2] => { results := [.lit (.bool false)], args := [d1, d2] }
  | _ => none }
def SumsReadWrongFalsely : Prop := sumsReadRow.holds Try.pinned (OpenSpec.ofChange sumsReadWrong)

/-- 'heartwoodlaw02.SumsShow': WHATEVER THE INPUT: true; the input reads as it did. -/
def sumsShowSpec : ChangeSpec := { name := "sumsShow", fn := fun _ => fun
  | [d1, d2] => { results := [.lit (.bool true)], args := [d1, d2] }
  | _ => none }
def sumsShowRow : OpenClaim := { program := "ytmjikebbknjahaa", sum := "415ad636ede86f11abc986969674ec1cdcbda97b4091ecaa4f616c2cdf03b846", func := "heartwood/heartwoodlaw02.SumsShow", spec := "sumsShow", inPlace := ["internal/bytealg.IndexByteString"], apart := false }
def SumsShowSaid : Prop := sumsShowRow.holds Try.pinned (OpenSpec.ofChange sumsShowSpec)

/-- ITS FALSE NEIGHBOUR: 'it returns false'. Refute it at one input. -/
def sumsShowWrong : ChangeSpec := { name := "sumsShow", fn := fun _ => fun
  | [d1, d2] => { results := [.lit (.bool false)], args := [d1, d2] }
  | _ => none }
def SumsShowWrongFalsely : Prop := sumsShowRow.holds Try.pinned (OpenSpec.ofChange sumsShowWrong)

/- THE SECOND FORM. 'bulk': how many values and letters a reading holds, each counted each time it is reached (what is shared counts as often as it is met; a slice's spare places count too). A statement '..UptoSaid' is the law's where the arguments, and the package variables that the reading takes, are together of bulk at most 1048576: NARROWER than '..Said'. Prove '..Said' where nothing that the law and all that it calls make is longer than what came in: it says more and counts as full. Else prove '..UptoSaid'. A law counts once. -/
mutual
def uptoBulk {H : Type} : DataW H → Nat
  | .lit (.string bytes) => bytes.length + 1
  | .lit _ => 1
  | .nil => 1
  | .ptr d => uptoBulk d + 1
  | .slice elems spare => uptoBulkAll elems + uptoBulkAll spare + 1
  | .agg parts => uptoBulkAll parts + 1
  | .iface _ d => uptoBulk d + 1
  | .map entries => uptoBulkEntries entries + 1
  | .held _ => 1
def uptoBulkAll {H : Type} : List (DataW H) → Nat
  | [] => 0
  | d :: r => uptoBulk d + uptoBulkAll r
def uptoBulkEntries {H : Type} : List (Lit × DataW H) → Nat
  | [] => 0
  | x :: r => uptoBulkEntry x + uptoBulkEntries r
def uptoBulkEntry {H : Type} : Lit × DataW H → Nat
  | (.string bytes, d) => bytes.length + uptoBulk d + 1
  | (_, d) => uptoBulk d + 1
 end
def uptoSmall : (H : Type) → List (DataW H) → Bool := fun _ ds => decide (uptoBulkAll ds ≤ 1048576)
def OpenSpec.upto (s : _root_.Go.ChangeSpec) : _root_.Go.OpenSpec := { _root_.Go.OpenSpec.ofChange s with cond := some uptoSmall }

/-- 'heartwoodlaw02.SumsNames', WHERE WHAT IT READS IS OF BULK AT MOST 1048576: true; the input reads as it did. -/
def sumsNamesUptoRow : OpenClaim := { program := "ytmjikebbknjahaa", sum := "415ad636ede86f11abc986969674ec1cdcbda97b4091ecaa4f616c2cdf03b846", func := "heartwood/heartwoodlaw02.SumsNames", spec := "sumsNames", apart := false, narrowed := true }
def SumsNamesUptoSaid : Prop := sumsNamesUptoRow.holds Try.pinned (OpenSpec.upto sumsNamesSpec)

/-- 'heartwoodlaw02.SumsCRC', WHERE WHAT IT READS IS OF BULK AT MOST 1048576: true; the input reads as it did. -/
def sumsCRCUptoRow : OpenClaim := { program := "ytmjikebbknjahaa", sum := "415ad636ede86f11abc986969674ec1cdcbda97b4091ecaa4f616c2cdf03b846", func := "heartwood/heartwoodlaw02.SumsCRC", spec := "sumsCRC", apart := false, narrowed := true }
def SumsCRCUptoSaid : Prop := sumsCRCUptoRow.holds Try.pinned (OpenSpec.upto sumsCRCSpec)

/-- 'heartwoodlaw02.SumsJoin', WHERE WHAT IT READS IS OF BULK AT MOST 1048576: true; the input reads as it did. -/
def sumsJoinUptoRow : OpenClaim := { program := "ytmjikebbknjahaa", sum := "415ad636ede86f11abc986969674ec1cdcbda97b4091ecaa4f616c2cdf03b846", func := "heartwood/heartwoodlaw02.SumsJoin", spec := "sumsJoin", recurses := true, apart := false, narrowed := true }
def SumsJoinUptoSaid : Prop := sumsJoinUptoRow.holds Try.pinned (OpenSpec.upto sumsJoinSpec)

/-- 'heartwoodlaw02.SumsTurned', WHERE WHAT IT READS IS OF BULK AT MOST 1048576: true; the input reads as it did. -/
def sumsTurnedUptoRow : OpenClaim := { program := "ytmjikebbknjahaa", sum := "415ad636ede86f11abc986969674ec1cdcbda97b4091ecaa4f616c2cdf03b846", func := "heartwood/heartwoodlaw02.SumsTurned", spec := "sumsTurned", apart := false, narrowed := true }
def SumsTurnedUptoSaid : Prop := sumsTurnedUptoRow.holds Try.pinned (OpenSpec.upto sumsTurnedSpec)

/-- 'heartwoodlaw02.SumsSum', WHERE WHAT IT READS IS OF BULK AT MOST 1048576: true; the input reads as it did. -/
def sumsSumUptoRow : OpenClaim := { program := "ytmjikebbknjahaa", sum := "415ad636ede86f11abc986969674ec1cdcbda97b4091ecaa4f616c2cdf03b846", func := "heartwood/heartwoodlaw02.SumsSum", spec := "sumsSum", apart := false, narrowed := true }
def SumsSumUptoSaid : Prop := sumsSumUptoRow.holds Try.pinned (OpenSpec.upto sumsSumSpec)

/-- 'heartwoodlaw02.SumsOneText', WHERE WHAT IT READS IS OF BULK AT MOST 1048576: true; the input reads as it did. -/
def sumsOneTextUptoRow : OpenClaim := { program := "ytmjikebbknjahaa", sum := "415ad636ede86f11abc986969674ec1cdcbda97b4091ecaa4f616c2cdf03b846", func := "heartwood/heartwoodlaw02.SumsOneText", spec := "sumsOneText", apart := false, narrowed := true }
def SumsOneTextUptoSaid : Prop := sumsOneTextUptoRow.holds Try.pinned (OpenSpec.upto sumsOneTextSpec)

/-- 'heartwoodlaw02.SumsDigest', WHERE WHAT IT READS IS OF BULK AT MOST 1048576: true; the input reads as it did. -/
def sumsDigestUptoRow : OpenClaim := { program := "ytmjikebbknjahaa", sum := "415ad636ede86f11abc986969674ec1cdcbda97b4091ecaa4f616c2cdf03b846", func := "heartwood/heartwoodlaw02.SumsDigest", spec := "sumsDigest", apart := false, narrowed := true }
def SumsDigestUptoSaid : Prop := sumsDigestUptoRow.holds Try.pinned (OpenSpec.upto sumsDigestSpec)

/-- 'heartwoodlaw02.SumsOf', WHERE WHAT IT READS IS OF BULK AT MOST 1048576: true; the input reads as it did. -/
def sumsOfUptoRow : OpenClaim := { program := "ytmjikebbknjahaa", sum := "415ad636ede86f11abc986969674ec1cdcbda97b4091ecaa4f616c2cdf03b846", func := "heartwood/heartwoodlaw02.SumsOf", spec := "sumsOf", apart := false, narrowed := true }
def SumsOfUptoSaid : Prop := sumsOfUptoRow.holds Try.pinned (OpenSpec.upto sumsOfSpec)

/-- 'heartwoodlaw02.SumsMore', WHERE WHAT IT READS IS OF BULK AT MOST 1048576: true; the input reads as it did. -/
def sumsMoreUptoRow : OpenClaim := { program := "ytmjikebbknjahaa", sum := "415ad636ede86f11abc986969674ec1cdcbda97b4091ecaa4f616c2cdf03b846", func := "heartwood/heartwoodlaw02.SumsMore", spec := "sumsMore", apart := false, narrowed := true }
def SumsMoreUptoSaid : Prop := sumsMoreUptoRow.holds Try.pinned (OpenSpec.upto sumsMoreSpec)

/-- 'heartwoodlaw02.SumsTogether', WHERE WHAT IT READS IS OF BULK AT MOST 1048576: true; the input reads as it did. -/
def sumsTogetherUptoRow : OpenClaim := { program := "ytmjikebbknjahaa", sum := "415ad636ede86f11abc986969674ec1cdcbda97b4091ecaa4f616c2cdf03b846", func := "heartwood/heartwoodlaw02.SumsTogether", spec := "sumsTogether", apart := false, narrowed := true }
def SumsTogetherUptoSaid : Prop := sumsTogetherUptoRow.holds Try.pinned (OpenSpec.upto sumsTogetherSpec)

/-- 'heartwoodlaw02.SumsCut', WHERE WHAT IT READS IS OF BULK AT MOST 1048576: true; the input reads as it did. -/
def sumsCutUptoRow : OpenClaim := { program := "ytmjikebbknjahaa", sum := "415ad636ede86f11abc986969674ec1cdcbda97b4091ecaa4f616c2cdf03b846", func := "heartwood/heartwoodlaw02.SumsCut", spec := "sumsCut", apart := false, narrowed := true }
def SumsCutUptoSaid : Prop := sumsCutUptoRow.holds Try.pinned (OpenSpec.upto sumsCutSpec)

/-- 'heartwoodlaw02.SumsClash', WHERE WHAT IT READS IS OF BULK AT MOST 1048576: true; the input reads as it did. -/
def sumsClashUptoRow : OpenClaim := { program := "ytmjikebbknjahaa", sum := "415ad636ede86f11abc986969674ec1cdcbda97b4091ecaa4f616c2cdf03b846", func := "heartwood/heartwoodlaw02.SumsClash", spec := "sumsClash", apart := false, narrowed := true }
def SumsClashUptoSaid : Prop := sumsClashUptoRow.holds Try.pinned (OpenSpec.upto sumsClashSpec)

/-- 'heartwoodlaw02.SumsMany', WHERE WHAT IT READS IS OF BULK AT MOST 1048576: true; the input reads as it did. -/
def sumsManyUptoRow : OpenClaim := { program := "ytmjikebbknjahaa", sum := "415ad636ede86f11abc986969674ec1cdcbda97b4091ecaa4f616c2cdf03b846", func := "heartwood/heartwoodlaw02.SumsMany", spec := "sumsMany", apart := false, narrowed := true }
def SumsManyUptoSaid : Prop := sumsManyUptoRow.holds Try.pinned (OpenSpec.upto sumsManySpec)

/-- 'heartwoodlaw02.SumsHash', WHERE WHAT IT READS IS OF BULK AT MOST 1048576: true; the input reads as it did. -/
def sumsHashUptoRow : OpenClaim := { program := "ytmjikebbknjahaa", sum := "415ad636ede86f11abc986969674ec1cdcbda97b4091ecaa4f616c2cdf03b846", func := "heartwood/heartwoodlaw02.SumsHash", spec := "sumsHash", apart := false, narrowed := true }
def SumsHashUptoSaid : Prop := sumsHashUptoRow.holds Try.pinned (OpenSpec.upto sumsHashSpec)

/-- 'heartwoodlaw02.SumsNil', WHERE WHAT IT READS IS OF BULK AT MOST 1048576: true; the input reads as it did. -/
def sumsNilUptoRow : OpenClaim := { program := "ytmjikebbknjahaa", sum := "415ad636ede86f11abc986969674ec1cdcbda97b4091ecaa4f616c2cdf03b846", func := "heartwood/heartwoodlaw02.SumsNil", spec := "sumsNil", apart := false, narrowed := true }
def SumsNilUptoSaid : Prop := sumsNilUptoRow.holds Try.pinned (OpenSpec.upto sumsNilSpec)

/-- 'heartwoodlaw02.SumsText', WHERE WHAT IT READS IS OF BULK AT MOST 1048576: true; the input reads as it did. -/
def sumsTextUptoRow : OpenClaim := { program := "ytmjikebbknjahaa", sum := "415ad636ede86f11abc986969674ec1cdcbda97b4091ecaa4f616c2cdf03b846", func := "heartwood/heartwoodlaw02.SumsText", spec := "sumsText", apart := false, narrowed := true }
def SumsTextUptoSaid : Prop := sumsTextUptoRow.holds Try.pinned (OpenSpec.upto sumsTextSpec)

/-- 'heartwoodlaw02.SumsParts', WHERE WHAT IT READS IS OF BULK AT MOST 1048576: true; the input reads as it did. -/
def sumsPartsUptoRow : OpenClaim := { program := "ytmjikebbknjahaa", sum := "415ad636ede86f11abc986969674ec1cdcbda97b4091ecaa4f616c2cdf03b846", func := "heartwood/heartwoodlaw02.SumsParts", spec := "sumsParts", apart := false, narrowed := true }
def SumsPartsUptoSaid : Prop := sumsPartsUptoRow.holds Try.pinned (OpenSpec.upto sumsPartsSpec)

/-- 'heartwoodlaw02.SumsRead', WHERE WHAT IT READS IS OF BULK AT MOST 1048576: true; the input reads as it did. -/
def sumsReadUptoRow : OpenClaim := { program := "ytmjikebbknjahaa", sum := "415ad636ede86f11abc986969674ec1cdcbda97b4091ecaa4f616c2cdf03b846", func := "heartwood/heartwoodlaw02.SumsRead", spec := "sumsRead", inPlace := ["internal/bytealg.IndexByteString"], apart := false, narrowed := true }
def SumsReadUptoSaid : Prop := sumsReadUptoRow.holds Try.pinned (OpenSpec.upto sumsReadSpec)

/-- 'heartwoodlaw02.SumsShow', WHERE WHAT IT READS IS OF BULK AT MOST 1048576: true; the input reads as it did. -/
def sumsShowUptoRow : OpenClaim := { program := "ytmjikebbknjahaa", sum := "415ad636ede86f11abc986969674ec1cdcbda97b4091ecaa4f616c2cdf03b846", func := "heartwood/heartwoodlaw02.SumsShow", spec := "sumsShow", inPlace := ["internal/bytealg.IndexByteString"], apart := false, narrowed := true }
def SumsShowUptoSaid : Prop := sumsShowUptoRow.holds Try.pinned (OpenSpec.upto sumsShowSpec)

end Rows
end Go.Proofs.Ytmjikebbknjahaa
