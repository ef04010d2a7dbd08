/-
  STRUCTS by value: copied, compared. No condition but those that each theorem names.
-/
import Derived.Test.YtnbahmjimnhfbaaNum
namespace Go.Proofs.Ytnbahmjimnhfbaa
open Go.RowKit
set_option linter.unusedVariables false













end Go.Proofs.Ytnbahmjimnhfbaa
