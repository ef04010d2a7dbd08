/-
  THE LENGTHS OF SHORTEST ROUTES: the program's. No condition but those that each theorem names.
-/
import Derived.Test.YtnbahmjimnhfbaaChain
import Derived.Deep.DeepCutAuto
import Derived.Deep.LoopGhost
namespace Go.Proofs.Ytnbahmjimnhfbaa
open Go.RowKit
set_option linter.unusedVariables false

end Go.Proofs.Ytnbahmjimnhfbaa
