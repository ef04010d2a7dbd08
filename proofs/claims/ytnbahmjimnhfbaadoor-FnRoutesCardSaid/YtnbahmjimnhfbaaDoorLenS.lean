/-
  THE LENGTHS OF SHORTEST ROUTES: the reference's. No condition but those that each theorem names.
-/
import Derived.Test.YtnbahmjimnhfbaaDoorSrch
import Derived.Deep.DeepCutAuto
namespace Go.Proofs.YtnbahmjimnhfbaaDoor
open Go.RowKit
set_option linter.unusedVariables false

end Go.Proofs.YtnbahmjimnhfbaaDoor
