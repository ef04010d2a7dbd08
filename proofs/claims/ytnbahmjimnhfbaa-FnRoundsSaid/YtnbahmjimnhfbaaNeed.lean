/-
  RoundsNeeded: the reference's and the program's. No condition but those that each theorem names.
-/
import Derived.Test.YtnbahmjimnhfbaaRound
namespace Go.Proofs.Ytnbahmjimnhfbaa
open Go.RowKit
set_option linter.unusedVariables false

def doneC (p : Ctl × Ctl) : Bool := (p.1.1 == p.1.2.1) && (p.2.1 == p.2.2.1)
def rnFrom (T : List (List Bool)) (mg st : Int) : Nat → Int → Ctl × Ctl → Int × Int
  | 0, _, _ => (0, 3)
  | n + 1, k, p => if doneC p = true then (k, 0) else rnFrom T mg st n (k + 1) (roundC T mg st true true p)
def rnV (T : List (List Bool)) (mg st : Int) (a b : Ctl) : Int × Int := if codeC T mg st [a, b] = 0 then rnFrom T mg st 201 0 (a, b) else (0, codeC T mg st [a, b])
theorem rnV_bad {T : List (List Bool)} {mg st : Int} {a b : Ctl} {c : Int} (h : codeC T mg st [a, b] = c) (hc : c ≠ 0) : rnV T mg st a b = (0, c) := by simp [rnV, h, hc]
theorem rnV_ok {T : List (List Bool)} {mg st : Int} {a b : Ctl} (h : codeC T mg st [a, b] = 0) : rnV T mg st a b = rnFrom T mg st 201 0 (a, b) := by simp [rnV, h]
theorem rnFrom_done {T : List (List Bool)} {mg st : Int} {n k : Nat} {p : Ctl × Ctl} (hk : k < 201) (hn : n = 201 - k) (h : doneC p = true) : rnFrom T mg st n k p = ((k : Int), 0) := by
  obtain ⟨m, rfl⟩ : ∃ m, n = m + 1 := ⟨n - 1, by omega⟩
  simp [rnFrom, h]
theorem rnFrom_next {T : List (List Bool)} {mg st : Int} {n k : Nat} {p : Ctl × Ctl} (hk : k < 201) (hn : n = 201 - k) (h : doneC p = false) : rnFrom T mg st n k p = rnFrom T mg st (201 - (k + 1)) ((k + 1 : Nat) : Int) (roundC T mg st true true p) := by
  obtain ⟨m, rfl⟩ : ∃ m, n = m + 1 := ⟨n - 1, by omega⟩
  rw [show 201 - (k + 1) = m by omega]
  simp [rnFrom, h]
/-- What holds of the state behind k rounds. -/
def RnInv (T : List (List Bool)) (mg st : Int) (a b : Ctl) (k : Nat) (q : Ctl × Ctl) : Prop := rnV T mg st a b = rnFrom T mg st (201 - k) k q
theorem rn_start {T : List (List Bool)} {mg st : Int} {a b : Ctl} (h : codeC T mg st [a, b] = 0) : RnInv T mg st a b 0 (a, b) := by
  unfold RnInv; rw [rnV_ok h]; rfl
theorem rn_done {T : List (List Bool)} {mg st : Int} {a b : Ctl} {k : Nat} {q : Ctl × Ctl} (h : RnInv T mg st a b k q) (hk : k < 201) (hd : doneC q = true) : rnV T mg st a b = ((k : Int), 0) := by
  unfold RnInv at h; rw [h]; exact rnFrom_done hk rfl hd
theorem rn_next {T : List (List Bool)} {mg st : Int} {a b : Ctl} {k : Nat} {q : Ctl × Ctl} (h : RnInv T mg st a b k q) (hk : k < 201) (hd : doneC q = false) : RnInv T mg st a b (k + 1) (roundC T mg st true true q) := by
  unfold RnInv at h ⊢; rw [h]; exact rnFrom_next hk rfl hd
theorem rn_end {T : List (List Bool)} {mg st : Int} {a b : Ctl} {q : Ctl × Ctl} (h : RnInv T mg st a b 201 q) : rnV T mg st a b = (0, 3) := by
  unfold RnInv at h; rw [h]; rfl
theorem ret_pair {a b : Int} {p : Int × Int} (h : p = (a, b)) : Ending.returned (.tuple #[.int .i64 a, .int .i64 b]) = .returned (.tuple #[.int .i64 p.1, .int .i64 p.2]) := by rw [h]

end Go.Proofs.Ytnbahmjimnhfbaa
