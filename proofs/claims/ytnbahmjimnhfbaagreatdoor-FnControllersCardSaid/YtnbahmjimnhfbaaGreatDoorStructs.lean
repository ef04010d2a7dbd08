/-
  STRUCTS by value: copied, compared. No condition but those that each theorem names.
-/
import Derived.Test.YtnbahmjimnhfbaaGreatDoorNum
namespace Go.Proofs.YtnbahmjimnhfbaaGreatDoor
open Go.RowKit
set_option linter.unusedVariables false













end Go.Proofs.YtnbahmjimnhfbaaGreatDoor
