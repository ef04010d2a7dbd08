/-
  TURNS: the program's and the reference's. No condition but those that each theorem names.
-/
import Derived.Test.YtajjophmngabbaaGreatDoorNum
namespace Go.Proofs.YtajjophmngabbaaGreatDoor
open Go.RowKit
set_option linter.unusedVariables false

set_option maxHeartbeats 400000 in
theorem abs_any (a : Int) (h1 : -1000000000000000000 ≤ a) (h2 : a ≤ 1000000000000000000) (w : World) : Calls Tryz.prog 33 #[.int .i64 a] w fun e w' => e = .returned (.int .i64 (siz a)) ∧ w' = w := by
  unfold siz
  by_cases h : a < 0
  all_goals
    go_enter Tryz.func33, Tryz.ntmps33
    go_wp2
    all_goals (go_ret; exact ⟨ret_int (by first | omega | (simp [*]; done) | (simp [*]; omega) | (split <;> omega)), rfl⟩)

set_option maxHeartbeats 400000 in
theorem l10Size_any (a : Int) (h1 : -1000000000000000000 ≤ a) (h2 : a ≤ 1000000000000000000) (w : World) : Calls Tryz.prog 51 #[.int .i64 a] w fun e w' => e = .returned (.int .i64 (siz a)) ∧ w' = w := by
  unfold siz
  by_cases h : a < 0
  all_goals
    go_enter Tryz.func51, Tryz.ntmps51
    go_wp2
    all_goals (go_ret; exact ⟨ret_int (by first | omega | (simp [*]; done) | (simp [*]; omega) | (split <;> omega)), rfl⟩)

set_option maxHeartbeats 400000 in
theorem turned_any (a b : Int) (h1 : -100000 ≤ a) (h2 : a ≤ 100000) (h3 : -100000 ≤ b) (h4 : b ≤ 100000) (w : World) : Calls Tryz.prog 79 #[.int .i64 a, .int .i64 b] w fun e w' => e = .returned (.int .i64 (tur a b)) ∧ w' = w := by
  unfold tur
  obtain ⟨b1, b2⟩ := tmod_bd (a + b)
  go_enter Tryz.func79, Tryz.ntmps79
  go_wp2
  go_ret
  exact ⟨ret_int (tmod_mod _), rfl⟩

set_option maxHeartbeats 400000 in
theorem l02Mod_any (a : Int) (h1 : -100000 ≤ a) (h2 : a ≤ 100000) (w : World) : Calls Tryz.prog 93 #[.int .i64 a] w fun e w' => e = .returned (.int .i64 (a % 24)) ∧ w' = w := by
  obtain ⟨b1, b2⟩ := tmod_bd a
  go_enter Tryz.func93, Tryz.ntmps93
  go_wp2
  go_ret
  exact ⟨ret_int (tmod_mod _), rfl⟩

set_option maxHeartbeats 400000 in
theorem turnBetween_any (a b : Int) (h1 : -1000 ≤ a) (h2 : a ≤ 1000) (h3 : -1000 ≤ b) (h4 : b ≤ 1000) (w : World) : Calls Tryz.prog 58 #[.int .i64 a, .int .i64 b] w fun e w' => e = .returned (.int .i64 (trn a b)) ∧ w' = w := by
  unfold trn
  by_cases h : 12 < (b - a) % 24
  all_goals
    obtain ⟨hb1, hb2⟩ := tur_bd b (-a)
    go_enter Tryz.func58, Tryz.ntmps58
    go_wp2_with (go_at_call 79; refine (turned_any _ _ (by omega) (by omega) (by omega) (by omega) _).mono ?_; rintro e w' ⟨rfl, rfl⟩)
    all_goals first
      | (exfalso; first | omega | (unfold tur at *; omega))
      | (go_ret; exact ⟨ret_int (by first | rfl | omega | (unfold tur at *; omega)), rfl⟩)

end Go.Proofs.YtajjophmngabbaaGreatDoor
