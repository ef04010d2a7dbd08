/-
  CONTRACTS of the laws' helpers on a slice of readings: an argument read as a list. No condition but those that each theorem names.
-/
import Derived.Test.YtclfhegjfjcjeaaDoorOpen
import Derived.Test.YtclfhegjfjcjeaaDoorFamReading
namespace Go.Proofs.YtclfhegjfjcjeaaDoor
open Go.RowKit Go.ChangeShapes Go.WideShapes Go.Deep
set_option linter.unusedVariables false


end Go.Proofs.YtclfhegjfjcjeaaDoor
