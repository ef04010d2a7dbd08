/-
  THE GREATEST COMMON DIVISOR; a fraction in lowest terms. No condition but those that each theorem names.
-/
import Derived.Test.YtajjophmngabbaaGreatDoorNum
namespace Go.Proofs.YtajjophmngabbaaGreatDoor
open Go.RowKit
set_option linter.unusedVariables false

theorem gcd_step (x y : Nat) : Nat.gcd y (x % y) = Nat.gcd x y := by rw [Nat.gcd_comm x y, Nat.gcd_rec y x, Nat.gcd_comm]

end Go.Proofs.YtajjophmngabbaaGreatDoor
