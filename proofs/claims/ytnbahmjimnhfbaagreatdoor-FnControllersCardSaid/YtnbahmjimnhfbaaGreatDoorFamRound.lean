/-
  CONTRACTS of the laws' helpers on a slice of rounds: copying, comparing, marking. No condition but those that each theorem names.
-/
import Derived.Test.YtnbahmjimnhfbaaGreatDoorMem
namespace Go.Proofs.YtnbahmjimnhfbaaGreatDoor
open Go.RowKit
set_option linter.unusedVariables false

/-- The cells of one element, and of a list of elements. -/
def cRound (p : Bool × Bool) : List Value := [.bool p.1, .bool p.2]
def rRound (l : List (Bool × Bool)) : List Value := rows cRound l
theorem rRound_length (l : List (Bool × Bool)) : (rRound l).length = l.length * 2 := rows_length (f := cRound) (fun _ => rfl) l
theorem rRound_at (l : List (Bool × Bool)) (k : Nat) (h : k < l.length) : (rRound l)[k * 2]? = some (.bool l[k].1) ∧ (rRound l)[k * 2 + 1]? = some (.bool l[k].2) := by
  have h0 := fun j (hj : j < 2) => rows_at (f := cRound) (m := 2) (fun _ => rfl) l k h j hj
  exact ⟨h0 0 (by omega), h0 1 (by omega)⟩
theorem infoRound : (Tryz.prog.info? 55).map (fun i => (i.zero, i.size, i.bytes)) = some (some (.agg #[.bool false, .bool false]), 2, 2) := by kernel_rfl

end Go.Proofs.YtnbahmjimnhfbaaGreatDoor
