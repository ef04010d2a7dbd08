/-
  VALID WORLDS: the program's and the reference's. No condition but those that each theorem names.
-/
import Derived.Test.YtnbahmjimnhfbaaDoorStructs
import Derived.Test.YtnbahmjimnhfbaaDoorTurn
namespace Go.Proofs.YtnbahmjimnhfbaaDoor
open Go.RowKit
set_option linter.unusedVariables false

def vWatch (m l : Int) : Bool := inR m 0 3 && inR l 0 1
def seenOk (l a s g : Int) : Bool := inR a 0 23 && inR s 0 23 && inR g 0 l && decide (siz (trn s a) ≤ g)
def validW (m l a b sa sb ga gb : Int) : Bool := vWatch m l && seenOk l a sa ga && seenOk l b sb gb

set_option maxHeartbeats 400000 in
theorem isDirection_any (n : Int) (w : World) : Calls Tryd.prog 42 #[.int .i64 n] w fun e w' => e = .returned (.bool (inR n 0 23)) ∧ w' = w := by
  go_enter Tryd.func42, Tryd.ntmps42
  go_wp2_with (go_at_call 23; refine (within_any _ _ _ _).mono ?_; rintro e w' ⟨rfl, hw⟩; obtain rfl := hw.symm)
  go_ret
  exact ⟨rfl, rfl⟩

set_option maxHeartbeats 400000 in
theorem l02Dir_any (n : Int) (w : World) : Calls Tryd.prog 48 #[.int .i64 n] w fun e w' => e = .returned (.bool (inR n 0 23)) ∧ w' = w := by
  go_enter Tryd.func48, Tryd.ntmps48
  go_wp2_with (go_at_call 59; refine (l00In_any _ _ _ _).mono ?_; rintro e w' ⟨rfl, hw⟩; obtain rfl := hw.symm)
  go_ret
  exact ⟨rfl, rfl⟩

end Go.Proofs.YtnbahmjimnhfbaaDoor
