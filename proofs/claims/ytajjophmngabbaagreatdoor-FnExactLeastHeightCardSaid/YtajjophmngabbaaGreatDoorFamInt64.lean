/-
  CONTRACTS of the laws' helpers on a slice of numbers: copying, comparing, marking. No condition but those that each theorem names.
-/
import Derived.Test.YtajjophmngabbaaGreatDoorMem
namespace Go.Proofs.YtajjophmngabbaaGreatDoor
open Go.RowKit
set_option linter.unusedVariables false

/-- The cells of one element, and of a list of elements. -/
def cInt64 (p : Int) : List Value := [.int .i64 p]
def rInt64 (l : List (Int)) : List Value := rows cInt64 l
theorem rInt64_length (l : List (Int)) : (rInt64 l).length = l.length * 1 := rows_length (f := cInt64) (fun _ => rfl) l
theorem rInt64_at (l : List (Int)) (k : Nat) (h : k < l.length) : (rInt64 l)[k * 1]? = some (.int .i64 l[k]) := by
  have h0 := fun j (hj : j < 1) => rows_at (f := cInt64) (m := 1) (fun _ => rfl) l k h j hj
  exact h0 0 (by omega)
theorem infoInt64 : (Tryz.prog.info? 2).map (fun i => (i.zero, i.size, i.bytes)) = some (some (.int .i64 0), 1, 8) := by kernel_rfl

end Go.Proofs.YtajjophmngabbaaGreatDoor
