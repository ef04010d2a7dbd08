/-
  THE GREATEST COMMON DIVISOR; a fraction in lowest terms. No condition but those that each theorem names.
-/
import Derived.Test.YtjepeibajnlgeaaNum
namespace Go.Proofs.Ytjepeibajnlgeaa
open Go.RowKit
set_option linter.unusedVariables false

theorem gcd_step (x y : Nat) : Nat.gcd y (x % y) = Nat.gcd x y := by rw [Nat.gcd_comm x y, Nat.gcd_rec y x, Nat.gcd_comm]

set_option maxHeartbeats 400000 in
theorem l06Gcd_any (x0 y0 : Nat) (hx : x0 ≤ 1000000000000000000) (hy : y0 ≤ 1000000000000000000) (w : World) :
    Calls Try.prog 57 #[.int .i64 x0, .int .i64 y0] w fun e w' => e = .returned (.int .i64 (Nat.gcd x0 y0 : Nat)) ∧ Below w.heap.size w w' := by
  go_enter Try.func57, Try.ntmps57
  go_wp2
  go_loopw [0, 1] (fun a b wr => ∃ x y : Nat, x ≤ 1000000000000000000 ∧ y ≤ 1000000000000000000 ∧ a = .int .i64 x ∧ b = .int .i64 y ∧ Hid (Nat.gcd x y = Nat.gcd x0 y0) ∧ Below w.heap.size w wr) (fun _ b _ => (intOf b).toNat)
  case atStart => exact ⟨x0, y0, hx, hy, rfl, rfl, rfl, Below.refl _ _⟩
  case round =>
    obtain ⟨x, y, hx1, hy1, rfl, rfl, hg, hbr⟩ := hrel
    by_cases hz : y = 0
    · subst hz
      go_wp2
      go_ret
      have h := hg.out
      rw [Nat.gcd_zero_right] at h
      exact ⟨ret_int (by rw [← h]), hbr⟩
    · have hpos : 0 < y := Nat.pos_of_ne_zero hz
      have hne : ((y : Int) == 0) = false := by simpa using hz
      have hne2 : ((y : Int) != 0) = true := by simpa using hz
      have hml := Nat.mod_lt x hpos
      clear hz
      go_wp2_with fail
      go_quiet (fail)
      go_wp2_with fail
      go_roundw
      case rel =>
        exact ⟨y, x % y, hy1, by omega, rfl, by first | rfl | exact vint (by omega), (gcd_step x y).trans hg.out, hbr.trans (Joins.below_draws _ _ _)⟩
      case measure => simp [intOf]; omega

end Go.Proofs.Ytjepeibajnlgeaa
