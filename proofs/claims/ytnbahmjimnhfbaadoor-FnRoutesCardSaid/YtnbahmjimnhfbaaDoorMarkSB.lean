/-
  CONTRACTS of the laws' helper that marks a slice of slices of bools: what it counts, and that it touches the slice's own blocks alone. No condition but those that each theorem names.
-/
import Derived.Test.YtnbahmjimnhfbaaDoorFamSBool
import Derived.Test.YtnbahmjimnhfbaaDoorMarkSS
namespace Go.Proofs.YtnbahmjimnhfbaaDoor
open Go.RowKit
set_option linter.unusedVariables false

theorem rrI_row {L : List (List Int)} {q : Nat} (h : ∀ r ∈ L, r.length ≤ q) (k : Nat) : ((rrInt64 L).getD k []).length ≤ q := by
  rw [rrInt64_at, rInt64_len1]
  rcases Nat.lt_or_ge k L.length with hk | hk
  · rw [show L.getD k [] = L[k] by simp [List.getD, hk]]; exact h _ (List.getElem_mem hk)
  · simp [List.getD, hk]
theorem totI_bd (rs : List (List Value)) (q : Nat) (h : ∀ k, (rs.getD k []).length ≤ q) (n : Nat) (hn : n ≤ rs.length) : tot rs n ≤ n * q := by
  induction n with
  | zero => simp [tot_zero]
  | succ n ih =>
    rw [tot_succ rs n (by omega)]
    have := ih (by omega)
    have := h n
    rw [Nat.add_mul]; omega
end Go.Proofs.YtnbahmjimnhfbaaDoor
