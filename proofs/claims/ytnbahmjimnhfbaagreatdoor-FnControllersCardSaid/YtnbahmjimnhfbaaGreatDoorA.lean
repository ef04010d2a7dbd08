/-
  Contracts of seat A: what each function computes; new blocks alone are laid. No condition but those that each theorem names.
-/
import Derived.Test.YtnbahmjimnhfbaaGreatDoorFrame
import Derived.WalkKit
import Derived.WalkSpells
import Derived.WalkLawsBesides
namespace Go.Proofs.YtnbahmjimnhfbaaGreatDoor
open Go.RowKit

set_option maxHeartbeats 400000 in
theorem specNewControl_ok_eq (b c : Int) (hb : 0 ≤ b) (hb2 : b ≤ 23) (hc : 0 ≤ c) (hc2 : c ≤ 23) (w : World) :
    Calls Tryz.prog 13 #[.int .i64 b, .int .i64 b, .int .i64 c] w fun e w' => e = .returned (.tuple #[.agg #[.int .i64 b, .int .i64 b, .int .i64 c, .int .i64 0, .int .i64 1], .int .i64 0]) ∧ Below w.heap.size w w' := by
  skip
  go_enter Tryz.func13, Tryz.ntmps13
  go_wp2
  all_goals first
    | (exfalso; simp only [Bool.not_eq_false', decide_eq_true_eq] at *; omega)
    | (refine bodyPost_ret (v := .tuple #[.agg #[.int .i64 b, .int .i64 b, .int .i64 c, .int .i64 0, .int .i64 1], .int .i64 0]) (by simp [results, Tryz.results13, go_sem]) rfl ⟨rfl, ?_⟩
       repeat (first | exact Below.refl _ _ | refine Below.drew ?_ | refine Below.alloc ?_ (by simp; try omega) _ | refine Below.setCell ?_ (by simp; try omega) _))

set_option maxHeartbeats 400000 in
theorem specNewControl_ok_ne (a b c : Int) (ha : 0 ≤ a) (ha2 : a ≤ 23) (hb : 0 ≤ b) (hb2 : b ≤ 23) (hc : 0 ≤ c) (hc2 : c ≤ 23) (hne : (a == b) = false) (w : World) :
    Calls Tryz.prog 13 #[.int .i64 a, .int .i64 b, .int .i64 c] w fun e w' => e = .returned (.tuple #[.agg #[.int .i64 a, .int .i64 b, .int .i64 c, .int .i64 0, .int .i64 3], .int .i64 0]) ∧ Below w.heap.size w w' := by
  skip
  go_enter Tryz.func13, Tryz.ntmps13
  go_wp2
  all_goals first
    | (exfalso; simp only [Bool.not_eq_false', decide_eq_true_eq] at *; omega)
    | (refine bodyPost_ret (v := .tuple #[.agg #[.int .i64 a, .int .i64 b, .int .i64 c, .int .i64 0, .int .i64 3], .int .i64 0]) (by simp [results, Tryz.results13, go_sem]) rfl ⟨rfl, ?_⟩
       repeat (first | exact Below.refl _ _ | refine Below.drew ?_ | refine Below.alloc ?_ (by simp; try omega) _ | refine Below.setCell ?_ (by simp; try omega) _))

set_option maxHeartbeats 400000 in
theorem specNewControl_bad (a b c : Int) (hbad : ¬ (0 ≤ a ∧ a ≤ 23 ∧ 0 ≤ b ∧ b ≤ 23 ∧ 0 ≤ c ∧ c ≤ 23)) (w : World) :
    Calls Tryz.prog 13 #[.int .i64 a, .int .i64 b, .int .i64 c] w fun e w' => e = .returned (.tuple #[.agg #[.int .i64 0, .int .i64 0, .int .i64 0, .int .i64 0, .int .i64 0], .int .i64 2]) ∧ Below w.heap.size w w' := by
  have Hb := hbad; clear hbad
  go_enter Tryz.func13, Tryz.ntmps13
  go_wp2
  all_goals first
    | (exfalso; simp only [Bool.not_eq_false', decide_eq_true_eq] at *; omega)
    | (refine bodyPost_ret (v := .tuple #[.agg #[.int .i64 0, .int .i64 0, .int .i64 0, .int .i64 0, .int .i64 0], .int .i64 2]) (by simp [results, Tryz.results13, go_sem]) rfl ⟨rfl, ?_⟩
       repeat (first | exact Below.refl _ _ | refine Below.drew ?_ | refine Below.alloc ?_ (by simp; try omega) _ | refine Below.setCell ?_ (by simp; try omega) _))

set_option maxHeartbeats 400000 in
theorem implNewControl_ok_eq (b c : Int) (hb : 0 ≤ b) (hb2 : b ≤ 23) (hc : 0 ≤ c) (hc2 : c ≤ 23) (w : World) :
    Calls Tryz.prog 12 #[.int .i64 b, .int .i64 b, .int .i64 c] w fun e w' => e = .returned (.tuple #[.agg #[.int .i64 b, .int .i64 b, .int .i64 c, .int .i64 0, .int .i64 1], .int .i64 0]) ∧ Below w.heap.size w w' := by
  skip
  go_enter Tryz.func12, Tryz.ntmps12
  go_wp2
  all_goals first
    | (exfalso; simp only [Bool.not_eq_false', decide_eq_true_eq] at *; omega)
    | (refine bodyPost_ret (v := .tuple #[.agg #[.int .i64 b, .int .i64 b, .int .i64 c, .int .i64 0, .int .i64 1], .int .i64 0]) (by simp [results, Tryz.results12, go_sem]) rfl ⟨rfl, ?_⟩
       repeat (first | exact Below.refl _ _ | refine Below.drew ?_ | refine Below.alloc ?_ (by simp; try omega) _ | refine Below.setCell ?_ (by simp; try omega) _))

set_option maxHeartbeats 400000 in
theorem implNewControl_ok_ne (a b c : Int) (ha : 0 ≤ a) (ha2 : a ≤ 23) (hb : 0 ≤ b) (hb2 : b ≤ 23) (hc : 0 ≤ c) (hc2 : c ≤ 23) (hne : (a == b) = false) (w : World) :
    Calls Tryz.prog 12 #[.int .i64 a, .int .i64 b, .int .i64 c] w fun e w' => e = .returned (.tuple #[.agg #[.int .i64 a, .int .i64 b, .int .i64 c, .int .i64 0, .int .i64 3], .int .i64 0]) ∧ Below w.heap.size w w' := by
  skip
  go_enter Tryz.func12, Tryz.ntmps12
  go_wp2
  all_goals first
    | (exfalso; simp only [Bool.not_eq_false', decide_eq_true_eq] at *; omega)
    | (refine bodyPost_ret (v := .tuple #[.agg #[.int .i64 a, .int .i64 b, .int .i64 c, .int .i64 0, .int .i64 3], .int .i64 0]) (by simp [results, Tryz.results12, go_sem]) rfl ⟨rfl, ?_⟩
       repeat (first | exact Below.refl _ _ | refine Below.drew ?_ | refine Below.alloc ?_ (by simp; try omega) _ | refine Below.setCell ?_ (by simp; try omega) _))

set_option maxHeartbeats 400000 in
theorem implNewControl_bad (a b c : Int) (hbad : ¬ (0 ≤ a ∧ a ≤ 23 ∧ 0 ≤ b ∧ b ≤ 23 ∧ 0 ≤ c ∧ c ≤ 23)) (w : World) :
    Calls Tryz.prog 12 #[.int .i64 a, .int .i64 b, .int .i64 c] w fun e w' => e = .returned (.tuple #[.agg #[.int .i64 0, .int .i64 0, .int .i64 0, .int .i64 0, .int .i64 0], .int .i64 2]) ∧ Below w.heap.size w w' := by
  have Hb := hbad; clear hbad
  go_enter Tryz.func12, Tryz.ntmps12
  go_wp2
  all_goals first
    | (exfalso; simp only [Bool.not_eq_false', decide_eq_true_eq] at *; omega)
    | (refine bodyPost_ret (v := .tuple #[.agg #[.int .i64 0, .int .i64 0, .int .i64 0, .int .i64 0, .int .i64 0], .int .i64 2]) (by simp [results, Tryz.results12, go_sem]) rfl ⟨rfl, ?_⟩
       repeat (first | exact Below.refl _ _ | refine Below.drew ?_ | refine Below.alloc ?_ (by simp; try omega) _ | refine Below.setCell ?_ (by simp; try omega) _))

/-- How many of the twelve least speeds a speed reaches, of the first k. -/
def speeds : List Int := [3, 16, 34, 55, 80, 108, 139, 172, 208, 245, 285, 327]
def bft (s : Int) (k : Nat) : Nat := ((speeds.take k).filter fun x => decide (x ≤ s)).length
theorem bft_le (s : Int) (k : Nat) : bft s k ≤ k := Nat.le_trans (List.length_filter_le _ _) (by rw [List.length_take]; omega)
theorem bft_succ (s : Int) (k : Nat) (h : k < 12) : bft s (k + 1) = bft s k + if speeds.getD k 0 ≤ s then 1 else 0 := by
  unfold bft
  rw [List.take_succ_eq_append_getElem (by simpa [speeds] using h), List.filter_append, List.length_append]
  have e : speeds.getD k 0 = speeds[k]'(by simpa [speeds] using h) := by simp [List.getD, show k < speeds.length by simpa [speeds] using h]
  rw [e]
  by_cases hx : speeds[k]'(by simpa [speeds] using h) ≤ s <;> simp [hx]

end Go.Proofs.YtnbahmjimnhfbaaGreatDoor
