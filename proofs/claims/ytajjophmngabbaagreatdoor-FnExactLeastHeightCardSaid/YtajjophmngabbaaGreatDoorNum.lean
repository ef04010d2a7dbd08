/-
  SMALL FUNCTIONS ON NUMBERS: ranges, turns between directions. No condition but those that each theorem names.
-/
import Derived.Test.YtajjophmngabbaaGreatDoorMem
namespace Go.Proofs.YtajjophmngabbaaGreatDoor
open Go.RowKit
set_option linter.unusedVariables false

/-- Is a number in a range? -/
def inR (n lo hi : Int) : Bool := decide (lo ≤ n) && decide (n ≤ hi)
theorem inR_true {n lo hi : Int} (h : inR n lo hi = true) : lo ≤ n ∧ n ≤ hi := by simpa [inR] using h
theorem inR_mk {n lo hi : Int} (h1 : lo ≤ n) (h2 : n ≤ hi) : inR n lo hi = true := by simp [inR, h1, h2]
theorem inR_false {n lo hi : Int} (h : inR n lo hi = false) : ¬ (lo ≤ n ∧ n ≤ hi) := by simpa [inR] using h
theorem inR_no {n lo hi : Int} (h : ¬ (lo ≤ n ∧ n ≤ hi)) : inR n lo hi = false := by
  cases e : inR n lo hi with
  | false => rfl
  | true => exact absurd (inR_true e) h
theorem ret_bool {a b : Bool} (h : a = b) : Ending.returned (.bool a) = .returned (.bool b) := by rw [h]
theorem ret_int {a b : Int} (h : a = b) : Ending.returned (.int .i64 a) = .returned (.int .i64 b) := by rw [h]

/-- The shorter turn between two directions. -/
def trn (a b : Int) : Int := if 12 < (b - a) % 24 then (b - a) % 24 - 24 else (b - a) % 24
theorem trn_bd (a b : Int) : -11 ≤ trn a b ∧ trn a b ≤ 12 := by unfold trn; split <;> omega
/-- A number's size. -/
def siz (n : Int) : Int := if n < 0 then -n else n
theorem siz_bd (a b : Int) : 0 ≤ siz (trn a b) ∧ siz (trn a b) ≤ 12 := by have := trn_bd a b; unfold siz; split <;> omega
theorem tmod_bd (x : Int) : -23 ≤ x.tmod 24 ∧ x.tmod 24 ≤ 23 := by
  rw [Int.tmod_eq_emod]; split <;> simp <;> omega
theorem tmod_mod (x : Int) : (x.tmod 24 + 24) % 24 = x % 24 := by
  rw [Int.tmod_eq_emod]; split <;> simp <;> omega
/-- A direction after a turn. -/
def tur (d b : Int) : Int := (d + b) % 24
theorem tur_bd (d b : Int) : 0 ≤ tur d b ∧ tur d b ≤ 23 := by unfold tur; omega

set_option maxHeartbeats 400000 in
theorem within_any (n lo hi : Int) (w : World) : Calls Tryz.prog 29 #[.int .i64 n, .int .i64 lo, .int .i64 hi] w fun e w' => e = .returned (.bool (inR n lo hi)) ∧ w' = w := by
  unfold inR
  by_cases h1 : lo ≤ n
  all_goals
    go_enter Tryz.func29, Tryz.ntmps29
    go_wp2
    all_goals (go_ret; exact ⟨ret_bool (by simp [*]; try omega), rfl⟩)

set_option maxHeartbeats 400000 in
theorem l00In_any (n lo hi : Int) (w : World) : Calls Tryz.prog 13 #[.int .i64 n, .int .i64 lo, .int .i64 hi] w fun e w' => e = .returned (.bool (inR n lo hi)) ∧ w' = w := by
  unfold inR
  by_cases h1 : lo ≤ n
  all_goals
    go_enter Tryz.func13, Tryz.ntmps13
    go_wp2
    all_goals (go_ret; exact ⟨ret_bool (by simp [*]; try omega), rfl⟩)

end Go.Proofs.YtajjophmngabbaaGreatDoor
