/-
  VALID WORLDS: the program's and the reference's. No condition but those that each theorem names.
-/
import Derived.Test.YtoklcjpokffocaaStructs
import Derived.Test.YtoklcjpokffocaaTurn
namespace Go.Proofs.Ytoklcjpokffocaa
open Go.RowKit
set_option linter.unusedVariables false

def vWatch (m l : Int) : Bool := inR m 0 3 && inR l 0 1
def seenOk (l a s g : Int) : Bool := inR a 0 23 && inR s 0 23 && inR g 0 l && decide (siz (trn s a) ≤ g)
def validW (m l a b sa sb ga gb : Int) : Bool := vWatch m l && seenOk l a sa ga && seenOk l b sb gb

set_option maxHeartbeats 400000 in
theorem isDirection_any (n : Int) (w : World) : Calls Try.prog 53 #[.int .i64 n] w fun e w' => e = .returned (.bool (inR n 0 23)) ∧ w' = w := by
  go_enter Try.func53, Try.ntmps53
  go_wp2_with (go_at_call 29; refine (within_any _ _ _ _).mono ?_; rintro e w' ⟨rfl, hw⟩; obtain rfl := hw.symm)
  go_ret
  exact ⟨rfl, rfl⟩

set_option maxHeartbeats 400000 in
theorem l02Dir_any (n : Int) (w : World) : Calls Try.prog 55 #[.int .i64 n] w fun e w' => e = .returned (.bool (inR n 0 23)) ∧ w' = w := by
  go_enter Try.func55, Try.ntmps55
  go_wp2_with (go_at_call 33; refine (l00In_any _ _ _ _).mono ?_; rintro e w' ⟨rfl, hw⟩; obtain rfl := hw.symm)
  go_ret
  exact ⟨rfl, rfl⟩

end Go.Proofs.Ytoklcjpokffocaa
