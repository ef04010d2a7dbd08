/-
  CONTROLLERS by value: valid, hear. No condition but those that each theorem names.
-/
import Derived.Test.YtnbahmjimnhfbaaGreatDoorStructs
import Derived.Test.YtnbahmjimnhfbaaGreatDoorVWorld
namespace Go.Proofs.YtnbahmjimnhfbaaGreatDoor
open Go.RowKit
set_option linter.unusedVariables false

def ctlOk (a b c d e : Int) : Bool := inR a 0 23 && inR b 0 23 && inR c 0 23 && inR d 0 200 && inR e 1 4
def hSeen (arr : Bool) (s o : Int) : Int := if arr then o else s
def hAge (arr : Bool) (a : Int) : Int := if arr then 0 else min a 199 + 1

theorem ctlOk_true {a b c d e : Int} (h : ctlOk a b c d e = true) : (0 ≤ a ∧ a ≤ 23) ∧ (0 ≤ b ∧ b ≤ 23) ∧ (0 ≤ c ∧ c ≤ 23) ∧ (0 ≤ d ∧ d ≤ 200) ∧ (1 ≤ e ∧ e ≤ 4) := by
  simpa [ctlOk, inR, and_assoc] using h

set_option maxHeartbeats 400000 in
theorem l00Min_any (a b : Int) (w : World) : Calls Tryz.prog 66 #[.int .i64 a, .int .i64 b] w fun e w' => e = .returned (.int .i64 (min a b)) ∧ w' = w := by
  by_cases h : a < b
  · have hd : decide (a < b) = true := by simpa using h
    go_enter Tryz.func66, Tryz.ntmps66
    go_wp2_with fail
    go_ret
    exact ⟨ret_int (by omega), rfl⟩
  · have hd : decide (a < b) = false := by simpa using h
    go_enter Tryz.func66, Tryz.ntmps66
    go_wp2_with fail
    go_ret
    exact ⟨ret_int (by omega), rfl⟩

set_option maxHeartbeats 1000000 in
theorem l18Ok_any (x0 x1 x2 x3 x4 : Int) (w : World) : Calls Tryz.prog 43 #[.agg #[.int .i64 x0, .int .i64 x1, .int .i64 x2, .int .i64 x3, .int .i64 x4]] w fun e w' => e = .returned (.bool (ctlOk x0 x1 x2 x3 x4)) ∧ Below w.heap.size w w' := by
  unfold ctlOk
  cases e0 : inR x0 0 23
  · skip
    go_enter Tryz.func43, Tryz.ntmps43
    go_wp2_with (first | (go_at_call 36; refine (l02Dir_any _ _).mono ?_; rintro e w' ⟨rfl, hw⟩; obtain rfl := hw.symm) | (go_at_call 40; refine (l00In_any _ _ _ _).mono ?_; rintro e w' ⟨rfl, hw⟩; obtain rfl := hw.symm))
    go_ret
    refine ⟨rfl, ?_⟩
    repeat (first | exact Below.refl _ _ | refine Below.drew ?_ | refine Below.alloc ?_ (by first | omega | (simp; done) | (simp; omega) | (simp at *; omega)) _ | refine Below.setCell ?_ (by first | omega | (simp; done) | (simp; omega) | (simp at *; omega)) _ | refine Below.trans ?_ (Below.mono (by assumption) (by first | omega | (simp; done) | (simp; omega) | (simp at *; omega))))
  cases e1 : inR x1 0 23
  · skip
    go_enter Tryz.func43, Tryz.ntmps43
    go_wp2_with (first | (go_at_call 36; refine (l02Dir_any _ _).mono ?_; rintro e w' ⟨rfl, hw⟩; obtain rfl := hw.symm) | (go_at_call 40; refine (l00In_any _ _ _ _).mono ?_; rintro e w' ⟨rfl, hw⟩; obtain rfl := hw.symm))
    go_ret
    refine ⟨rfl, ?_⟩
    repeat (first | exact Below.refl _ _ | refine Below.drew ?_ | refine Below.alloc ?_ (by first | omega | (simp; done) | (simp; omega) | (simp at *; omega)) _ | refine Below.setCell ?_ (by first | omega | (simp; done) | (simp; omega) | (simp at *; omega)) _ | refine Below.trans ?_ (Below.mono (by assumption) (by first | omega | (simp; done) | (simp; omega) | (simp at *; omega))))
  cases e2 : inR x2 0 23
  · skip
    go_enter Tryz.func43, Tryz.ntmps43
    go_wp2_with (first | (go_at_call 36; refine (l02Dir_any _ _).mono ?_; rintro e w' ⟨rfl, hw⟩; obtain rfl := hw.symm) | (go_at_call 40; refine (l00In_any _ _ _ _).mono ?_; rintro e w' ⟨rfl, hw⟩; obtain rfl := hw.symm))
    go_ret
    refine ⟨rfl, ?_⟩
    repeat (first | exact Below.refl _ _ | refine Below.drew ?_ | refine Below.alloc ?_ (by first | omega | (simp; done) | (simp; omega) | (simp at *; omega)) _ | refine Below.setCell ?_ (by first | omega | (simp; done) | (simp; omega) | (simp at *; omega)) _ | refine Below.trans ?_ (Below.mono (by assumption) (by first | omega | (simp; done) | (simp; omega) | (simp at *; omega))))
  cases e3 : inR x3 0 200
  all_goals
    go_enter Tryz.func43, Tryz.ntmps43
    go_wp2_with (first | (go_at_call 36; refine (l02Dir_any _ _).mono ?_; rintro e w' ⟨rfl, hw⟩; obtain rfl := hw.symm) | (go_at_call 40; refine (l00In_any _ _ _ _).mono ?_; rintro e w' ⟨rfl, hw⟩; obtain rfl := hw.symm))
    go_ret
    refine ⟨rfl, ?_⟩
    repeat (first | exact Below.refl _ _ | refine Below.drew ?_ | refine Below.alloc ?_ (by first | omega | (simp; done) | (simp; omega) | (simp at *; omega)) _ | refine Below.setCell ?_ (by first | omega | (simp; done) | (simp; omega) | (simp at *; omega)) _ | refine Below.trans ?_ (Below.mono (by assumption) (by first | omega | (simp; done) | (simp; omega) | (simp at *; omega))))

set_option maxHeartbeats 1000000 in
theorem implValidControl_any (x0 x1 x2 x3 x4 : Int) (w : World) : Calls Tryz.prog 20 #[.agg #[.int .i64 x0, .int .i64 x1, .int .i64 x2, .int .i64 x3, .int .i64 x4]] w fun e w' => e = .returned (.bool (ctlOk x0 x1 x2 x3 x4)) ∧ Below w.heap.size w w' := by
  unfold ctlOk
  cases e0 : inR x0 0 23
  · skip
    go_enter Tryz.func20, Tryz.ntmps20
    go_wp2_with (first | (go_at_call 35; refine (isDirection_any _ _).mono ?_; rintro e w' ⟨rfl, hw⟩; obtain rfl := hw.symm) | (go_at_call 45; refine (within_any _ _ _ _).mono ?_; rintro e w' ⟨rfl, hw⟩; obtain rfl := hw.symm))
    go_ret
    refine ⟨rfl, ?_⟩
    repeat (first | exact Below.refl _ _ | refine Below.drew ?_ | refine Below.alloc ?_ (by first | omega | (simp; done) | (simp; omega) | (simp at *; omega)) _ | refine Below.setCell ?_ (by first | omega | (simp; done) | (simp; omega) | (simp at *; omega)) _ | refine Below.trans ?_ (Below.mono (by assumption) (by first | omega | (simp; done) | (simp; omega) | (simp at *; omega))))
  cases e1 : inR x1 0 23
  · skip
    go_enter Tryz.func20, Tryz.ntmps20
    go_wp2_with (first | (go_at_call 35; refine (isDirection_any _ _).mono ?_; rintro e w' ⟨rfl, hw⟩; obtain rfl := hw.symm) | (go_at_call 45; refine (within_any _ _ _ _).mono ?_; rintro e w' ⟨rfl, hw⟩; obtain rfl := hw.symm))
    go_ret
    refine ⟨rfl, ?_⟩
    repeat (first | exact Below.refl _ _ | refine Below.drew ?_ | refine Below.alloc ?_ (by first | omega | (simp; done) | (simp; omega) | (simp at *; omega)) _ | refine Below.setCell ?_ (by first | omega | (simp; done) | (simp; omega) | (simp at *; omega)) _ | refine Below.trans ?_ (Below.mono (by assumption) (by first | omega | (simp; done) | (simp; omega) | (simp at *; omega))))
  cases e2 : inR x2 0 23
  · skip
    go_enter Tryz.func20, Tryz.ntmps20
    go_wp2_with (first | (go_at_call 35; refine (isDirection_any _ _).mono ?_; rintro e w' ⟨rfl, hw⟩; obtain rfl := hw.symm) | (go_at_call 45; refine (within_any _ _ _ _).mono ?_; rintro e w' ⟨rfl, hw⟩; obtain rfl := hw.symm))
    go_ret
    refine ⟨rfl, ?_⟩
    repeat (first | exact Below.refl _ _ | refine Below.drew ?_ | refine Below.alloc ?_ (by first | omega | (simp; done) | (simp; omega) | (simp at *; omega)) _ | refine Below.setCell ?_ (by first | omega | (simp; done) | (simp; omega) | (simp at *; omega)) _ | refine Below.trans ?_ (Below.mono (by assumption) (by first | omega | (simp; done) | (simp; omega) | (simp at *; omega))))
  cases e3 : inR x3 0 200
  all_goals
    go_enter Tryz.func20, Tryz.ntmps20
    go_wp2_with (first | (go_at_call 35; refine (isDirection_any _ _).mono ?_; rintro e w' ⟨rfl, hw⟩; obtain rfl := hw.symm) | (go_at_call 45; refine (within_any _ _ _ _).mono ?_; rintro e w' ⟨rfl, hw⟩; obtain rfl := hw.symm))
    go_ret
    refine ⟨rfl, ?_⟩
    repeat (first | exact Below.refl _ _ | refine Below.drew ?_ | refine Below.alloc ?_ (by first | omega | (simp; done) | (simp; omega) | (simp at *; omega)) _ | refine Below.setCell ?_ (by first | omega | (simp; done) | (simp; omega) | (simp at *; omega)) _ | refine Below.trans ?_ (Below.mono (by assumption) (by first | omega | (simp; done) | (simp; omega) | (simp at *; omega))))

set_option maxHeartbeats 1000000 in
theorem l18Hear_any (x0 x1 x2 x3 x4 : Int) (arr : Bool) (o : Int) (h0 : 0 ≤ x3) (h1 : x3 ≤ 200) (w : World) : Calls Tryz.prog 54 #[.agg #[.int .i64 x0, .int .i64 x1, .int .i64 x2, .int .i64 x3, .int .i64 x4], .bool arr, .int .i64 o] w fun e w' => e = .returned (.agg #[.int .i64 x0, .int .i64 x1, .int .i64 (hSeen arr x2 o), .int .i64 (hAge arr x3), .int .i64 x4]) ∧ Below w.heap.size w w' := by
  unfold hSeen hAge
  cases arr
  all_goals
    go_enter Tryz.func54, Tryz.ntmps54
    go_wp2_with (go_at_call 66; refine (l00Min_any _ _ _).mono ?_; rintro e w' ⟨rfl, hw⟩; obtain rfl := hw.symm)
    all_goals refine bodyPost_ret (by simp [results, Tryz.results54, go_sem]; try rfl) rfl ⟨by simp; try omega, ?_⟩
    all_goals repeat (first | exact Below.refl _ _ | refine Below.drew ?_ | refine Below.alloc ?_ (by first | omega | (simp; done) | (simp; omega) | (simp at *; omega)) _ | refine Below.setCell ?_ (by first | omega | (simp; done) | (simp; omega) | (simp at *; omega)) _ | refine Below.trans ?_ (Below.mono (by assumption) (by first | omega | (simp; done) | (simp; omega) | (simp at *; omega))))

set_option maxHeartbeats 1000000 in
theorem implHear_any (x0 x1 x2 x3 x4 : Int) (arr : Bool) (o : Int) (h0 : 0 ≤ x3) (h1 : x3 ≤ 200) (w : World) : Calls Tryz.prog 51 #[.agg #[.int .i64 x0, .int .i64 x1, .int .i64 x2, .int .i64 x3, .int .i64 x4], .bool arr, .int .i64 o] w fun e w' => e = .returned (.agg #[.int .i64 x0, .int .i64 x1, .int .i64 (hSeen arr x2 o), .int .i64 (hAge arr x3), .int .i64 x4]) ∧ Below w.heap.size w w' := by
  unfold hSeen hAge
  cases arr
  all_goals
    go_enter Tryz.func51, Tryz.ntmps51
    go_wp2_with fail
    all_goals refine bodyPost_ret (by simp [results, Tryz.results51, go_sem]; try rfl) rfl ⟨by simp; try omega, ?_⟩
    all_goals repeat (first | exact Below.refl _ _ | refine Below.drew ?_ | refine Below.alloc ?_ (by first | omega | (simp; done) | (simp; omega) | (simp at *; omega)) _ | refine Below.setCell ?_ (by first | omega | (simp; done) | (simp; omega) | (simp at *; omega)) _ | refine Below.trans ?_ (Below.mono (by assumption) (by first | omega | (simp; done) | (simp; omega) | (simp at *; omega))))

def hOk (x0 x1 x2 x3 x4 o : Int) : Bool := ctlOk x0 x1 x2 x3 x4 && inR o 0 23
def hv (k : Bool) (x : Int) : Int := bif k then x else 0
def hCode (x0 x1 x2 x3 x4 o : Int) : Int := bif ctlOk x0 x1 x2 x3 x4 then bif inR o 0 23 then 0 else 2 else 1



end Go.Proofs.YtnbahmjimnhfbaaGreatDoor
