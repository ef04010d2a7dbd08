/-
  CONTRACTS of the laws' helpers on a slice of slices: copying, comparing, marking. No condition but those that each theorem names.
-/
import Derived.Test.YtoklcjpokffocaaRows2
import Derived.Test.YtoklcjpokffocaaFamBool
namespace Go.Proofs.Ytoklcjpokffocaa
open Go.RowKit
set_option linter.unusedVariables false

/-- The rows of a list of lists. -/
def rrBool (l : List (List Bool)) : List (List Value) := l.map rBool
theorem rrBool_at (l : List (List Bool)) (k : Nat) : (rrBool l).getD k [] = rBool (l.getD k []) := by
  unfold rrBool
  rcases Nat.lt_or_ge k l.length with h | h
  · simp [List.getD, h]
  · simp [List.getD, h]; rfl
theorem rrBool_len (l : List (List Bool)) : (rrBool l).length = l.length := by simp [rrBool]
theorem rBool_len1 (l : List Bool) : (rBool l).length = l.length := by rw [rBool_length]; omega
theorem infoSBool : (Try.prog.info? 60).map (fun i => (i.zero, i.size, i.bytes)) = some (some (.slice none 0 0), 1, 24) := by kernel_rfl

end Go.Proofs.Ytoklcjpokffocaa
