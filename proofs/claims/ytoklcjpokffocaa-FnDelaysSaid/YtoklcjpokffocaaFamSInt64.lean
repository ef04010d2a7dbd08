/-
  CONTRACTS of the laws' helpers on a slice of slices: copying, comparing, marking. No condition but those that each theorem names.
-/
import Derived.Test.YtoklcjpokffocaaRows2
import Derived.Test.YtoklcjpokffocaaFamInt64
namespace Go.Proofs.Ytoklcjpokffocaa
open Go.RowKit
set_option linter.unusedVariables false

/-- The rows of a list of lists. -/
def rrInt64 (l : List (List Int)) : List (List Value) := l.map rInt64
theorem rrInt64_at (l : List (List Int)) (k : Nat) : (rrInt64 l).getD k [] = rInt64 (l.getD k []) := by
  unfold rrInt64
  rcases Nat.lt_or_ge k l.length with h | h
  · simp [List.getD, h]
  · simp [List.getD, h]; rfl
theorem rrInt64_len (l : List (List Int)) : (rrInt64 l).length = l.length := by simp [rrInt64]
theorem rInt64_len1 (l : List Int) : (rInt64 l).length = l.length := by rw [rInt64_length]; omega
theorem infoSInt64 : (Try.prog.info? 25).map (fun i => (i.zero, i.size, i.bytes)) = some (some (.slice none 0 0), 1, 24) := by kernel_rfl

end Go.Proofs.Ytoklcjpokffocaa
