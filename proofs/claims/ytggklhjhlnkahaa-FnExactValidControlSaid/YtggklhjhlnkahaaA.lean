/-
  Contracts of seat A: what each function computes; new blocks alone are laid. No condition but those that each theorem names.
-/
import Derived.Test.YtggklhjhlnkahaaFrame
import Derived.WalkKit
import Derived.WalkSpells
import Derived.WalkLawsBesides
namespace Go.Proofs.Ytggklhjhlnkahaa
open Go.RowKit

set_option maxHeartbeats 400000 in
theorem toRules_any (a b : Int) (w : World) :
    Calls Try.prog 18 #[.agg #[.int .i64 a, .int .i64 b]] w fun e w' => e = .returned (.agg #[.int .i64 a, .int .i64 b]) ∧ Below w.heap.size w w' := by
  go_enter Try.func18, Try.ntmps18
  go_wp2
  refine bodyPost_ret (v := .agg #[.int .i64 a, .int .i64 b]) (by simp [results, Try.results18, go_sem]) rfl ⟨rfl, ?_⟩
  repeat (first | exact Below.refl _ _ | refine Below.drew ?_ | refine Below.alloc ?_ (by simp; try omega) _ | refine Below.setCell ?_ (by simp; try omega) _)

set_option maxHeartbeats 400000 in
theorem toControl_any (a b c d f : Int) (w : World) :
    Calls Try.prog 31 #[.agg #[.int .i64 a, .int .i64 b, .int .i64 c, .int .i64 d, .int .i64 f]] w fun e w' => e = .returned (.agg #[.int .i64 a, .int .i64 b, .int .i64 c, .int .i64 d, .int .i64 f]) ∧ Below w.heap.size w w' := by
  go_enter Try.func31, Try.ntmps31
  go_wp2
  refine bodyPost_ret (v := .agg #[.int .i64 a, .int .i64 b, .int .i64 c, .int .i64 d, .int .i64 f]) (by simp [results, Try.results31, go_sem]) rfl ⟨rfl, ?_⟩
  repeat (first | exact Below.refl _ _ | refine Below.drew ?_ | refine Below.alloc ?_ (by simp; try omega) _ | refine Below.setCell ?_ (by simp; try omega) _)

set_option maxHeartbeats 400000 in
theorem eqControl_same (a b c d f : Int) (w : World) :
    Calls Try.prog 42 #[.agg #[.int .i64 a, .int .i64 b, .int .i64 c, .int .i64 d, .int .i64 f], .agg #[.int .i64 a, .int .i64 b, .int .i64 c, .int .i64 d, .int .i64 f]] w fun e w' => e = .returned (.bool true) ∧ Below w.heap.size w w' := by
  go_enter Try.func42, Try.ntmps42
  go_wp2
  go_ret
  refine ⟨rfl, ?_⟩
  repeat (first | exact Below.refl _ _ | refine Below.drew ?_ | refine Below.alloc ?_ (by simp; try omega) _ | refine Below.setCell ?_ (by simp; try omega) _)

set_option maxHeartbeats 400000 in
theorem eqWorld_same (a b c d f g : Int) (w : World) :
    Calls Try.prog 39 #[.agg #[.int .i64 a, .int .i64 b, .int .i64 c, .int .i64 d, .int .i64 f, .int .i64 g], .agg #[.int .i64 a, .int .i64 b, .int .i64 c, .int .i64 d, .int .i64 f, .int .i64 g]] w fun e w' => e = .returned (.bool true) ∧ Below w.heap.size w w' := by
  go_enter Try.func39, Try.ntmps39
  go_wp2
  go_ret
  refine ⟨rfl, ?_⟩
  repeat (first | exact Below.refl _ _ | refine Below.drew ?_ | refine Below.alloc ?_ (by simp; try omega) _ | refine Below.setCell ?_ (by simp; try omega) _)

set_option maxHeartbeats 400000 in
theorem specNewControl_ok_eq (b c : Int) (hb : 0 ≤ b) (hb2 : b ≤ 23) (hc : 0 ≤ c) (hc2 : c ≤ 23) (w : World) :
    Calls Try.prog 40 #[.int .i64 b, .int .i64 b, .int .i64 c] w fun e w' => e = .returned (.tuple #[.agg #[.int .i64 b, .int .i64 b, .int .i64 c, .int .i64 0, .int .i64 1], .int .i64 0]) ∧ Below w.heap.size w w' := by
  skip
  go_enter Try.func40, Try.ntmps40
  go_wp2
  all_goals first
    | (exfalso; simp only [Bool.not_eq_false', decide_eq_true_eq] at *; omega)
    | (refine bodyPost_ret (v := .tuple #[.agg #[.int .i64 b, .int .i64 b, .int .i64 c, .int .i64 0, .int .i64 1], .int .i64 0]) (by simp [results, Try.results40, go_sem]) rfl ⟨rfl, ?_⟩
       repeat (first | exact Below.refl _ _ | refine Below.drew ?_ | refine Below.alloc ?_ (by simp; try omega) _ | refine Below.setCell ?_ (by simp; try omega) _))

set_option maxHeartbeats 400000 in
theorem specNewControl_ok_ne (a b c : Int) (ha : 0 ≤ a) (ha2 : a ≤ 23) (hb : 0 ≤ b) (hb2 : b ≤ 23) (hc : 0 ≤ c) (hc2 : c ≤ 23) (hne : (a == b) = false) (w : World) :
    Calls Try.prog 40 #[.int .i64 a, .int .i64 b, .int .i64 c] w fun e w' => e = .returned (.tuple #[.agg #[.int .i64 a, .int .i64 b, .int .i64 c, .int .i64 0, .int .i64 3], .int .i64 0]) ∧ Below w.heap.size w w' := by
  skip
  go_enter Try.func40, Try.ntmps40
  go_wp2
  all_goals first
    | (exfalso; simp only [Bool.not_eq_false', decide_eq_true_eq] at *; omega)
    | (refine bodyPost_ret (v := .tuple #[.agg #[.int .i64 a, .int .i64 b, .int .i64 c, .int .i64 0, .int .i64 3], .int .i64 0]) (by simp [results, Try.results40, go_sem]) rfl ⟨rfl, ?_⟩
       repeat (first | exact Below.refl _ _ | refine Below.drew ?_ | refine Below.alloc ?_ (by simp; try omega) _ | refine Below.setCell ?_ (by simp; try omega) _))

set_option maxHeartbeats 400000 in
theorem specNewControl_bad (a b c : Int) (hbad : ¬ (0 ≤ a ∧ a ≤ 23 ∧ 0 ≤ b ∧ b ≤ 23 ∧ 0 ≤ c ∧ c ≤ 23)) (w : World) :
    Calls Try.prog 40 #[.int .i64 a, .int .i64 b, .int .i64 c] w fun e w' => e = .returned (.tuple #[.agg #[.int .i64 0, .int .i64 0, .int .i64 0, .int .i64 0, .int .i64 0], .int .i64 2]) ∧ Below w.heap.size w w' := by
  have Hb := hbad; clear hbad
  go_enter Try.func40, Try.ntmps40
  go_wp2
  all_goals first
    | (exfalso; simp only [Bool.not_eq_false', decide_eq_true_eq] at *; omega)
    | (refine bodyPost_ret (v := .tuple #[.agg #[.int .i64 0, .int .i64 0, .int .i64 0, .int .i64 0, .int .i64 0], .int .i64 2]) (by simp [results, Try.results40, go_sem]) rfl ⟨rfl, ?_⟩
       repeat (first | exact Below.refl _ _ | refine Below.drew ?_ | refine Below.alloc ?_ (by simp; try omega) _ | refine Below.setCell ?_ (by simp; try omega) _))

set_option maxHeartbeats 400000 in
theorem specFreshWorld_ok (a b : Int) (ha : 0 ≤ a) (ha2 : a ≤ 23) (hb : 0 ≤ b) (hb2 : b ≤ 23) (w : World) :
    Calls Try.prog 37 #[.int .i64 a, .int .i64 b] w fun e w' => e = .returned (.tuple #[.agg #[.int .i64 a, .int .i64 b, .int .i64 a, .int .i64 b, .int .i64 0, .int .i64 0], .int .i64 0]) ∧ Below w.heap.size w w' := by
  go_enter Try.func37, Try.ntmps37
  go_wp2
  all_goals first
    | (exfalso; simp only [Bool.not_eq_false', decide_eq_true_eq] at *; omega)
    | (refine bodyPost_ret (v := .tuple #[.agg #[.int .i64 a, .int .i64 b, .int .i64 a, .int .i64 b, .int .i64 0, .int .i64 0], .int .i64 0]) (by simp [results, Try.results37, go_sem]) rfl ⟨rfl, ?_⟩
       repeat (first | exact Below.refl _ _ | refine Below.drew ?_ | refine Below.alloc ?_ (by simp; try omega) _ | refine Below.setCell ?_ (by simp; try omega) _))

set_option maxHeartbeats 400000 in
theorem specFreshWorld_bad (a b : Int) (hbad : ¬ (0 ≤ a ∧ a ≤ 23 ∧ 0 ≤ b ∧ b ≤ 23)) (w : World) :
    Calls Try.prog 37 #[.int .i64 a, .int .i64 b] w fun e w' => e = .returned (.tuple #[.agg #[.int .i64 0, .int .i64 0, .int .i64 0, .int .i64 0, .int .i64 0, .int .i64 0], .int .i64 2]) ∧ Below w.heap.size w w' := by
  go_enter Try.func37, Try.ntmps37
  go_wp2
  all_goals first
    | (exfalso; simp only [Bool.not_eq_false', decide_eq_true_eq] at *; omega)
    | (refine bodyPost_ret (v := .tuple #[.agg #[.int .i64 0, .int .i64 0, .int .i64 0, .int .i64 0, .int .i64 0, .int .i64 0], .int .i64 2]) (by simp [results, Try.results37, go_sem]) rfl ⟨rfl, ?_⟩
       repeat (first | exact Below.refl _ _ | refine Below.drew ?_ | refine Below.alloc ?_ (by simp; try omega) _ | refine Below.setCell ?_ (by simp; try omega) _))

set_option maxHeartbeats 400000 in
theorem implNewControl_ok_eq (b c : Int) (hb : 0 ≤ b) (hb2 : b ≤ 23) (hc : 0 ≤ c) (hc2 : c ≤ 23) (w : World) :
    Calls Try.prog 41 #[.int .i64 b, .int .i64 b, .int .i64 c] w fun e w' => e = .returned (.tuple #[.agg #[.int .i64 b, .int .i64 b, .int .i64 c, .int .i64 0, .int .i64 1], .int .i64 0]) ∧ Below w.heap.size w w' := by
  skip
  go_enter Try.func41, Try.ntmps41
  go_wp2
  all_goals first
    | (exfalso; simp only [Bool.not_eq_false', decide_eq_true_eq] at *; omega)
    | (refine bodyPost_ret (v := .tuple #[.agg #[.int .i64 b, .int .i64 b, .int .i64 c, .int .i64 0, .int .i64 1], .int .i64 0]) (by simp [results, Try.results41, go_sem]) rfl ⟨rfl, ?_⟩
       repeat (first | exact Below.refl _ _ | refine Below.drew ?_ | refine Below.alloc ?_ (by simp; try omega) _ | refine Below.setCell ?_ (by simp; try omega) _))

set_option maxHeartbeats 400000 in
theorem implNewControl_ok_ne (a b c : Int) (ha : 0 ≤ a) (ha2 : a ≤ 23) (hb : 0 ≤ b) (hb2 : b ≤ 23) (hc : 0 ≤ c) (hc2 : c ≤ 23) (hne : (a == b) = false) (w : World) :
    Calls Try.prog 41 #[.int .i64 a, .int .i64 b, .int .i64 c] w fun e w' => e = .returned (.tuple #[.agg #[.int .i64 a, .int .i64 b, .int .i64 c, .int .i64 0, .int .i64 3], .int .i64 0]) ∧ Below w.heap.size w w' := by
  skip
  go_enter Try.func41, Try.ntmps41
  go_wp2
  all_goals first
    | (exfalso; simp only [Bool.not_eq_false', decide_eq_true_eq] at *; omega)
    | (refine bodyPost_ret (v := .tuple #[.agg #[.int .i64 a, .int .i64 b, .int .i64 c, .int .i64 0, .int .i64 3], .int .i64 0]) (by simp [results, Try.results41, go_sem]) rfl ⟨rfl, ?_⟩
       repeat (first | exact Below.refl _ _ | refine Below.drew ?_ | refine Below.alloc ?_ (by simp; try omega) _ | refine Below.setCell ?_ (by simp; try omega) _))

set_option maxHeartbeats 400000 in
theorem implNewControl_bad (a b c : Int) (hbad : ¬ (0 ≤ a ∧ a ≤ 23 ∧ 0 ≤ b ∧ b ≤ 23 ∧ 0 ≤ c ∧ c ≤ 23)) (w : World) :
    Calls Try.prog 41 #[.int .i64 a, .int .i64 b, .int .i64 c] w fun e w' => e = .returned (.tuple #[.agg #[.int .i64 0, .int .i64 0, .int .i64 0, .int .i64 0, .int .i64 0], .int .i64 2]) ∧ Below w.heap.size w w' := by
  have Hb := hbad; clear hbad
  go_enter Try.func41, Try.ntmps41
  go_wp2
  all_goals first
    | (exfalso; simp only [Bool.not_eq_false', decide_eq_true_eq] at *; omega)
    | (refine bodyPost_ret (v := .tuple #[.agg #[.int .i64 0, .int .i64 0, .int .i64 0, .int .i64 0, .int .i64 0], .int .i64 2]) (by simp [results, Try.results41, go_sem]) rfl ⟨rfl, ?_⟩
       repeat (first | exact Below.refl _ _ | refine Below.drew ?_ | refine Below.alloc ?_ (by simp; try omega) _ | refine Below.setCell ?_ (by simp; try omega) _))

set_option maxHeartbeats 400000 in
theorem implFreshWorld_ok (a b : Int) (ha : 0 ≤ a) (ha2 : a ≤ 23) (hb : 0 ≤ b) (hb2 : b ≤ 23) (w : World) :
    Calls Try.prog 38 #[.int .i64 a, .int .i64 b] w fun e w' => e = .returned (.tuple #[.agg #[.int .i64 a, .int .i64 b, .int .i64 a, .int .i64 b, .int .i64 0, .int .i64 0], .int .i64 0]) ∧ Below w.heap.size w w' := by
  go_enter Try.func38, Try.ntmps38
  go_wp2
  all_goals first
    | (exfalso; simp only [Bool.not_eq_false', decide_eq_true_eq] at *; omega)
    | (refine bodyPost_ret (v := .tuple #[.agg #[.int .i64 a, .int .i64 b, .int .i64 a, .int .i64 b, .int .i64 0, .int .i64 0], .int .i64 0]) (by simp [results, Try.results38, go_sem]) rfl ⟨rfl, ?_⟩
       repeat (first | exact Below.refl _ _ | refine Below.drew ?_ | refine Below.alloc ?_ (by simp; try omega) _ | refine Below.setCell ?_ (by simp; try omega) _))

set_option maxHeartbeats 400000 in
theorem implFreshWorld_bad (a b : Int) (hbad : ¬ (0 ≤ a ∧ a ≤ 23 ∧ 0 ≤ b ∧ b ≤ 23)) (w : World) :
    Calls Try.prog 38 #[.int .i64 a, .int .i64 b] w fun e w' => e = .returned (.tuple #[.agg #[.int .i64 0, .int .i64 0, .int .i64 0, .int .i64 0, .int .i64 0, .int .i64 0], .int .i64 2]) ∧ Below w.heap.size w w' := by
  go_enter Try.func38, Try.ntmps38
  go_wp2
  all_goals first
    | (exfalso; simp only [Bool.not_eq_false', decide_eq_true_eq] at *; omega)
    | (refine bodyPost_ret (v := .tuple #[.agg #[.int .i64 0, .int .i64 0, .int .i64 0, .int .i64 0, .int .i64 0, .int .i64 0], .int .i64 2]) (by simp [results, Try.results38, go_sem]) rfl ⟨rfl, ?_⟩
       repeat (first | exact Below.refl _ _ | refine Below.drew ?_ | refine Below.alloc ?_ (by simp; try omega) _ | refine Below.setCell ?_ (by simp; try omega) _))

/-- How many of the twelve least speeds a speed reaches, of the first k. -/
def speeds : List Int := [3, 16, 34, 55, 80, 108, 139, 172, 208, 245, 285, 327]
def bft (s : Int) (k : Nat) : Nat := ((speeds.take k).filter fun x => decide (x ≤ s)).length
theorem bft_le (s : Int) (k : Nat) : bft s k ≤ k := Nat.le_trans (List.length_filter_le _ _) (by rw [List.length_take]; omega)
theorem bft_succ (s : Int) (k : Nat) (h : k < 12) : bft s (k + 1) = bft s k + if speeds.getD k 0 ≤ s then 1 else 0 := by
  unfold bft
  rw [List.take_succ_eq_append_getElem (by simpa [speeds] using h), List.filter_append, List.length_append]
  have e : speeds.getD k 0 = speeds[k]'(by simpa [speeds] using h) := by simp [List.getD, show k < speeds.length by simpa [speeds] using h]
  rw [e]
  by_cases hx : speeds[k]'(by simpa [speeds] using h) ≤ s <;> simp [hx]

set_option maxHeartbeats 400000 in
theorem specBeaufortOf_bad (a : Int) (hbad : ¬ (0 ≤ a ∧ a ≤ 600)) (w : World) :
    Calls Try.prog 35 #[.int .i64 a] w fun e w' => e = .returned (.tuple #[.int .i64 0, .int .i64 2]) ∧ Below w.heap.size w w' := by
  by_cases h : 0 ≤ a
  all_goals
    go_enter Try.func35, Try.ntmps35
    go_wp2
    all_goals first
      | (exfalso; simp only [Bool.not_eq_false', decide_eq_true_eq] at *; omega)
      | (go_ret2; exact ⟨rfl, Below.refl _ _⟩)

set_option maxHeartbeats 400000 in
theorem implBeaufortOf_bad (a : Int) (hbad : ¬ (0 ≤ a ∧ a ≤ 600)) (w : World) :
    Calls Try.prog 36 #[.int .i64 a] w fun e w' => e = .returned (.tuple #[.int .i64 0, .int .i64 2]) ∧ Below w.heap.size w w' := by
  by_cases h : 0 ≤ a
  all_goals
    go_enter Try.func36, Try.ntmps36
    go_wp2
    all_goals first
      | (exfalso; simp only [Bool.not_eq_false', decide_eq_true_eq] at *; omega)
      | (go_ret2; exact ⟨rfl, Below.refl _ _⟩)

end Go.Proofs.Ytggklhjhlnkahaa
