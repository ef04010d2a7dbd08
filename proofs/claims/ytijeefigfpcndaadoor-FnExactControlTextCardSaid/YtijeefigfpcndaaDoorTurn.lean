/-
  TURNS: the program's and the reference's. No condition but those that each theorem names.
-/
import Derived.Test.YtijeefigfpcndaaDoorNum
namespace Go.Proofs.YtijeefigfpcndaaDoor
open Go.RowKit
set_option linter.unusedVariables false

end Go.Proofs.YtijeefigfpcndaaDoor
