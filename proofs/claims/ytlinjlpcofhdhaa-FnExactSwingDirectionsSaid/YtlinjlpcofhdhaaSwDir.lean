/-
  SwingDirections, the program's and the reference's: the list, and the code. No condition but those that each theorem names.
-/
import Derived.Test.YtlinjlpcofhdhaaSwing
namespace Go.Proofs.Ytlinjlpcofhdhaa
open Go.RowKit
set_option linter.unusedVariables false

def swOk (wind swing : Int) : Bool := inR wind 0 23 && inR swing 0 6
def swRes (wind swing : Int) : List Int := if swOk wind swing then swl wind swing 24 else []
def swCode (wind swing : Int) : Int := if swOk wind swing then 0 else 2
theorem swRes_len (wind swing : Int) : (swRes wind swing).length ≤ 24 := by
  unfold swRes; split
  · exact swl_le _ _ _
  · exact Nat.zero_le _

set_option maxHeartbeats 400000 in
theorem specSwingDirections_any (x0 x1 : Int) (w : World) :
    Calls Try.prog 23 #[.int .i64 x0, .int .i64 x1] w fun e w' => ∃ v, e = .returned (.tuple #[v, .int .i64 (swCode x0 x1)]) ∧ Own w' w.heap.size w'.heap.size 2 1 v (swRes x0 x1).length (rInt64 (swRes x0 x1)) ∧ Below w.heap.size w w' := by
  cases e1 : swOk x0 x1 with
  | false =>
    have E1 : swRes x0 x1 = [] := by unfold swRes; rw [e1]; rfl
    have E2 : swCode x0 x1 = 2 := by unfold swCode; rw [e1]; rfl
    rw [E1, E2]
    have Hb : ¬ (0 ≤ x0 ∧ x0 ≤ 23 ∧ 0 ≤ x1 ∧ x1 ≤ 6) := by
      rintro ⟨a, b, c, d⟩
      rw [swOk, inR_mk a b, inR_mk c d] at e1
      cases e1
    clear e1 E1 E2
    go_enter Try.func23, Try.ntmps23
    go_wp2_with (first | (go_at_call 61; exfalso; simp only [Bool.not_eq_false', decide_eq_true_eq] at *; omega) | go_in)
    all_goals first
      | (exfalso; simp only [Bool.not_eq_false', decide_eq_true_eq] at *; omega)
      | (go_ret2; exact ⟨_, rfl, Own.of_owns (World.ownsRow_nil _ _ _ _), Below.refl _ _⟩)
  | true =>
    have E1 : swRes x0 x1 = swl x0 x1 24 := by unfold swRes; rw [e1]; rfl
    have E2 : swCode x0 x1 = 0 := by unfold swCode; rw [e1]; rfl
    rw [E1, E2]
    unfold swOk at e1
    rw [Bool.and_eq_true] at e1
    obtain ⟨a, b⟩ := inR_true e1.1
    obtain ⟨c, d⟩ := inR_true e1.2
    clear e1 E1 E2
    go_enter Try.func23, Try.ntmps23
    go_wp2_with (first | (go_at_call 61; refine (l22Swing_any _ _ a b c (by omega) _).mono ?_; rintro e w1 ⟨v, rfl, ho, hb⟩) | go_in)
    go_ret2
    exact ⟨_, rfl, ho, hb⟩

set_option maxHeartbeats 400000 in
theorem implSwingDirections_any (x0 x1 : Int) (w : World) :
    Calls Try.prog 24 #[.int .i64 x0, .int .i64 x1] w fun e w' => ∃ v, e = .returned (.tuple #[v, .int .i64 (swCode x0 x1)]) ∧ Own w' w.heap.size w'.heap.size 2 1 v (swRes x0 x1).length (rInt64 (swRes x0 x1)) ∧ Below w.heap.size w w' := by
  cases e1 : swOk x0 x1 with
  | false =>
    have E1 : swRes x0 x1 = [] := by unfold swRes; rw [e1]; rfl
    have E2 : swCode x0 x1 = 2 := by unfold swCode; rw [e1]; rfl
    rw [E1, E2]
    have Hb : ¬ (0 ≤ x0 ∧ x0 ≤ 23 ∧ 0 ≤ x1 ∧ x1 ≤ 6) := by
      rintro ⟨a, b, c, d⟩
      rw [swOk, inR_mk a b, inR_mk c d] at e1
      cases e1
    clear e1 E1 E2
    go_enter Try.func24, Try.ntmps24
    go_wp2_with (first | (go_at_call 63; exfalso; simp only [Bool.not_eq_false', decide_eq_true_eq] at *; omega) | go_in)
    all_goals first
      | (exfalso; simp only [Bool.not_eq_false', decide_eq_true_eq] at *; omega)
      | (go_ret2; exact ⟨_, rfl, Own.of_owns (World.ownsRow_nil _ _ _ _), Below.refl _ _⟩)
  | true =>
    have E1 : swRes x0 x1 = swl x0 x1 24 := by unfold swRes; rw [e1]; rfl
    have E2 : swCode x0 x1 = 0 := by unfold swCode; rw [e1]; rfl
    rw [E1, E2]
    unfold swOk at e1
    rw [Bool.and_eq_true] at e1
    obtain ⟨a, b⟩ := inR_true e1.1
    obtain ⟨c, d⟩ := inR_true e1.2
    clear e1 E1 E2
    go_enter Try.func24, Try.ntmps24
    go_wp2_with (first | (go_at_call 63; refine (swings_any _ _ a b c (by omega) _).mono ?_; rintro e w1 ⟨v, rfl, ho, hb⟩) | go_in)
    go_ret2
    exact ⟨_, rfl, ho, hb⟩

end Go.Proofs.Ytlinjlpcofhdhaa
