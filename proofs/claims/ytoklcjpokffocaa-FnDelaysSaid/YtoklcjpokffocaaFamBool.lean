/-
  CONTRACTS of the laws' helpers on a slice of bools: copying, comparing, marking. No condition but those that each theorem names.
-/
import Derived.Test.YtoklcjpokffocaaMem
namespace Go.Proofs.Ytoklcjpokffocaa
open Go.RowKit
set_option linter.unusedVariables false

/-- The cells of one element, and of a list of elements. -/
def cBool (p : Bool) : List Value := [.bool p]
def rBool (l : List (Bool)) : List Value := rows cBool l
theorem rBool_length (l : List (Bool)) : (rBool l).length = l.length * 1 := rows_length (f := cBool) (fun _ => rfl) l
theorem rBool_at (l : List (Bool)) (k : Nat) (h : k < l.length) : (rBool l)[k * 1]? = some (.bool l[k]) := by
  have h0 := fun j (hj : j < 1) => rows_at (f := cBool) (m := 1) (fun _ => rfl) l k h j hj
  exact h0 0 (by omega)
theorem infoBool : (Try.prog.info? 4).map (fun i => (i.zero, i.size, i.bytes)) = some (some (.bool false), 1, 1) := by kernel_rfl

end Go.Proofs.Ytoklcjpokffocaa
