/-
  STRUCTS by value: copied, compared. No condition but those that each theorem names.
-/
import Derived.Test.YtnbahmjimnhfbaaDoorNum
namespace Go.Proofs.YtnbahmjimnhfbaaDoor
open Go.RowKit
set_option linter.unusedVariables false













end Go.Proofs.YtnbahmjimnhfbaaDoor
