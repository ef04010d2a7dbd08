/-
  LengthsFrom and CountReached: the reference's and the program's. No condition but those that each theorem names.
-/
import Derived.Test.YtnbahmjimnhfbaaStC
import Derived.Test.YtnbahmjimnhfbaaLenS
import Derived.Test.YtnbahmjimnhfbaaLenI
namespace Go.Proofs.Ytnbahmjimnhfbaa
open Go.RowKit
set_option linter.unusedVariables false

/-- The lengths that LengthsFrom answers. -/
def lnL (T : List (List Bool)) (l : List Int) : List (List Int) := if codeL T [l] = 0 then lens T (l.getD 0 0, l.getD 1 0) else []
theorem codeL_one {T : List (List Bool)} {l : List Int} (h : codeL T [l] = 0) : okT T = true ∧ ∃ x y, l = [x, y] ∧ 0 ≤ x ∧ x ≤ 23 ∧ 0 ≤ y ∧ y ≤ 23 := by
  obtain ⟨h1, h2⟩ := codeL_zero h
  exact ⟨h1, stV_two (h2 l (by simp)).1⟩
theorem lnL_len (T : List (List Bool)) (l : List Int) : (lnL T l).length ≤ 24 := by
  unfold lnL; split
  · rename_i h
    obtain ⟨_, x, y, rfl, a, b, c, d⟩ := codeL_one h
    exact Nat.le_of_eq (lens_ok T (p := (x, y)) ⟨⟨a, b⟩, c, d⟩).1
  · simp
theorem rows_okD {D : List (List Int)} (ok : OkD D) {r : List Int} (h : r ∈ D) : r.length = 24 := by
  obtain ⟨i, hi, rfl⟩ := List.mem_iff_getElem.1 h
  have := ok.2 i (by have := ok.1; omega)
  rwa [show D.getD i [] = D[i] by simp [List.getD, hi]] at this
theorem lnL_row {T : List (List Bool)} {l : List Int} {r : List Int} (h : r ∈ lnL T l) : r.length ≤ 24 := by
  unfold lnL at h; split at h
  · rename_i h0
    obtain ⟨_, x, y, rfl, a, b, c, d⟩ := codeL_one h0
    exact Nat.le_of_eq (rows_okD (lens_ok T (p := ([x, y].getD 0 0, [x, y].getD 1 0)) ⟨⟨a, b⟩, c, d⟩) h)
  · cases h
theorem OwnSS.cast {w : World} {lo hi n m : Nat} {T E : TypeId} {v : Value} {rs : List (List Value)} (h : OwnSS w lo hi T E v n rs) (e : n = m) : OwnSS w lo hi T E v m rs := e ▸ h
/-- How many of the first j entries of a row are known. -/
def cntIn (D : List (List Int)) (a : Nat) : Nat → Nat
  | 0 => 0
  | j + 1 => cntIn D a j + (if dget D a j < 0 then 0 else 1)
def cntTo (D : List (List Int)) : Nat → Nat
  | 0 => 0
  | k + 1 => cntTo D k + cntIn D k 24
theorem cntIn_le (D : List (List Int)) (a j : Nat) : cntIn D a j ≤ j := by
  induction j with
  | zero => exact Nat.le_refl _
  | succ j ih => unfold cntIn; split <;> omega
theorem cntTo_le (D : List (List Int)) (k : Nat) : cntTo D k ≤ k * 24 := by
  induction k with
  | zero => exact Nat.le_refl _
  | succ k ih => unfold cntTo; have := cntIn_le D k 24; omega
/-- What CountReached answers. -/
def crcP (T : List (List Bool)) (l : List Int) : Int × Int := if codeL T [l] = 0 then (cntTo (lens T (l.getD 0 0, l.getD 1 0)) 24, 0) else (0, codeL T [l])
theorem ret_pr3 {a b : Int} {p : Int × Int} (h : p = (a, b)) : Ending.returned (.tuple #[.int .i64 a, .int .i64 b]) = .returned (.tuple #[.int .i64 p.1, .int .i64 p.2]) := by rw [h]

end Go.Proofs.Ytnbahmjimnhfbaa
