/-
  CONTROLLERS by value: valid, hear. No condition but those that each theorem names.
-/
import Derived.Test.YtijeefigfpcndaaDoorStructs
import Derived.Test.YtijeefigfpcndaaDoorVWorld
namespace Go.Proofs.YtijeefigfpcndaaDoor
open Go.RowKit
set_option linter.unusedVariables false

def ctlOk (a b c d e : Int) : Bool := inR a 0 23 && inR b 0 23 && inR c 0 23 && inR d 0 200 && inR e 1 4
def hSeen (arr : Bool) (s o : Int) : Int := if arr then o else s
def hAge (arr : Bool) (a : Int) : Int := if arr then 0 else min a 199 + 1

theorem ctlOk_true {a b c d e : Int} (h : ctlOk a b c d e = true) : (0 ≤ a ∧ a ≤ 23) ∧ (0 ≤ b ∧ b ≤ 23) ∧ (0 ≤ c ∧ c ≤ 23) ∧ (0 ≤ d ∧ d ≤ 200) ∧ (1 ≤ e ∧ e ≤ 4) := by
  simpa [ctlOk, inR, and_assoc] using h


set_option maxHeartbeats 1000000 in
theorem l18Ok_any (x0 x1 x2 x3 x4 : Int) (w : World) : Calls Tryd.prog 24 #[.agg #[.int .i64 x0, .int .i64 x1, .int .i64 x2, .int .i64 x3, .int .i64 x4]] w fun e w' => e = .returned (.bool (ctlOk x0 x1 x2 x3 x4)) ∧ Below w.heap.size w w' := by
  unfold ctlOk
  cases e0 : inR x0 0 23
  · skip
    go_enter Tryd.func24, Tryd.ntmps24
    go_wp2_with (first | (go_at_call 44; refine (l02Dir_any _ _).mono ?_; rintro e w' ⟨rfl, hw⟩; obtain rfl := hw.symm) | (go_at_call 45; refine (l00In_any _ _ _ _).mono ?_; rintro e w' ⟨rfl, hw⟩; obtain rfl := hw.symm))
    go_ret
    refine ⟨rfl, ?_⟩
    repeat (first | exact Below.refl _ _ | refine Below.drew ?_ | refine Below.alloc ?_ (by first | omega | (simp; done) | (simp; omega) | (simp at *; omega)) _ | refine Below.setCell ?_ (by first | omega | (simp; done) | (simp; omega) | (simp at *; omega)) _ | refine Below.trans ?_ (Below.mono (by assumption) (by first | omega | (simp; done) | (simp; omega) | (simp at *; omega))))
  cases e1 : inR x1 0 23
  · skip
    go_enter Tryd.func24, Tryd.ntmps24
    go_wp2_with (first | (go_at_call 44; refine (l02Dir_any _ _).mono ?_; rintro e w' ⟨rfl, hw⟩; obtain rfl := hw.symm) | (go_at_call 45; refine (l00In_any _ _ _ _).mono ?_; rintro e w' ⟨rfl, hw⟩; obtain rfl := hw.symm))
    go_ret
    refine ⟨rfl, ?_⟩
    repeat (first | exact Below.refl _ _ | refine Below.drew ?_ | refine Below.alloc ?_ (by first | omega | (simp; done) | (simp; omega) | (simp at *; omega)) _ | refine Below.setCell ?_ (by first | omega | (simp; done) | (simp; omega) | (simp at *; omega)) _ | refine Below.trans ?_ (Below.mono (by assumption) (by first | omega | (simp; done) | (simp; omega) | (simp at *; omega))))
  cases e2 : inR x2 0 23
  · skip
    go_enter Tryd.func24, Tryd.ntmps24
    go_wp2_with (first | (go_at_call 44; refine (l02Dir_any _ _).mono ?_; rintro e w' ⟨rfl, hw⟩; obtain rfl := hw.symm) | (go_at_call 45; refine (l00In_any _ _ _ _).mono ?_; rintro e w' ⟨rfl, hw⟩; obtain rfl := hw.symm))
    go_ret
    refine ⟨rfl, ?_⟩
    repeat (first | exact Below.refl _ _ | refine Below.drew ?_ | refine Below.alloc ?_ (by first | omega | (simp; done) | (simp; omega) | (simp at *; omega)) _ | refine Below.setCell ?_ (by first | omega | (simp; done) | (simp; omega) | (simp at *; omega)) _ | refine Below.trans ?_ (Below.mono (by assumption) (by first | omega | (simp; done) | (simp; omega) | (simp at *; omega))))
  cases e3 : inR x3 0 200
  all_goals
    go_enter Tryd.func24, Tryd.ntmps24
    go_wp2_with (first | (go_at_call 44; refine (l02Dir_any _ _).mono ?_; rintro e w' ⟨rfl, hw⟩; obtain rfl := hw.symm) | (go_at_call 45; refine (l00In_any _ _ _ _).mono ?_; rintro e w' ⟨rfl, hw⟩; obtain rfl := hw.symm))
    go_ret
    refine ⟨rfl, ?_⟩
    repeat (first | exact Below.refl _ _ | refine Below.drew ?_ | refine Below.alloc ?_ (by first | omega | (simp; done) | (simp; omega) | (simp at *; omega)) _ | refine Below.setCell ?_ (by first | omega | (simp; done) | (simp; omega) | (simp at *; omega)) _ | refine Below.trans ?_ (Below.mono (by assumption) (by first | omega | (simp; done) | (simp; omega) | (simp at *; omega))))

set_option maxHeartbeats 1000000 in
theorem implValidControl_any (x0 x1 x2 x3 x4 : Int) (w : World) : Calls Tryd.prog 27 #[.agg #[.int .i64 x0, .int .i64 x1, .int .i64 x2, .int .i64 x3, .int .i64 x4]] w fun e w' => e = .returned (.bool (ctlOk x0 x1 x2 x3 x4)) ∧ Below w.heap.size w w' := by
  unfold ctlOk
  cases e0 : inR x0 0 23
  · skip
    go_enter Tryd.func27, Tryd.ntmps27
    go_wp2_with (first | (go_at_call 46; refine (isDirection_any _ _).mono ?_; rintro e w' ⟨rfl, hw⟩; obtain rfl := hw.symm) | (go_at_call 47; refine (within_any _ _ _ _).mono ?_; rintro e w' ⟨rfl, hw⟩; obtain rfl := hw.symm))
    go_ret
    refine ⟨rfl, ?_⟩
    repeat (first | exact Below.refl _ _ | refine Below.drew ?_ | refine Below.alloc ?_ (by first | omega | (simp; done) | (simp; omega) | (simp at *; omega)) _ | refine Below.setCell ?_ (by first | omega | (simp; done) | (simp; omega) | (simp at *; omega)) _ | refine Below.trans ?_ (Below.mono (by assumption) (by first | omega | (simp; done) | (simp; omega) | (simp at *; omega))))
  cases e1 : inR x1 0 23
  · skip
    go_enter Tryd.func27, Tryd.ntmps27
    go_wp2_with (first | (go_at_call 46; refine (isDirection_any _ _).mono ?_; rintro e w' ⟨rfl, hw⟩; obtain rfl := hw.symm) | (go_at_call 47; refine (within_any _ _ _ _).mono ?_; rintro e w' ⟨rfl, hw⟩; obtain rfl := hw.symm))
    go_ret
    refine ⟨rfl, ?_⟩
    repeat (first | exact Below.refl _ _ | refine Below.drew ?_ | refine Below.alloc ?_ (by first | omega | (simp; done) | (simp; omega) | (simp at *; omega)) _ | refine Below.setCell ?_ (by first | omega | (simp; done) | (simp; omega) | (simp at *; omega)) _ | refine Below.trans ?_ (Below.mono (by assumption) (by first | omega | (simp; done) | (simp; omega) | (simp at *; omega))))
  cases e2 : inR x2 0 23
  · skip
    go_enter Tryd.func27, Tryd.ntmps27
    go_wp2_with (first | (go_at_call 46; refine (isDirection_any _ _).mono ?_; rintro e w' ⟨rfl, hw⟩; obtain rfl := hw.symm) | (go_at_call 47; refine (within_any _ _ _ _).mono ?_; rintro e w' ⟨rfl, hw⟩; obtain rfl := hw.symm))
    go_ret
    refine ⟨rfl, ?_⟩
    repeat (first | exact Below.refl _ _ | refine Below.drew ?_ | refine Below.alloc ?_ (by first | omega | (simp; done) | (simp; omega) | (simp at *; omega)) _ | refine Below.setCell ?_ (by first | omega | (simp; done) | (simp; omega) | (simp at *; omega)) _ | refine Below.trans ?_ (Below.mono (by assumption) (by first | omega | (simp; done) | (simp; omega) | (simp at *; omega))))
  cases e3 : inR x3 0 200
  all_goals
    go_enter Tryd.func27, Tryd.ntmps27
    go_wp2_with (first | (go_at_call 46; refine (isDirection_any _ _).mono ?_; rintro e w' ⟨rfl, hw⟩; obtain rfl := hw.symm) | (go_at_call 47; refine (within_any _ _ _ _).mono ?_; rintro e w' ⟨rfl, hw⟩; obtain rfl := hw.symm))
    go_ret
    refine ⟨rfl, ?_⟩
    repeat (first | exact Below.refl _ _ | refine Below.drew ?_ | refine Below.alloc ?_ (by first | omega | (simp; done) | (simp; omega) | (simp at *; omega)) _ | refine Below.setCell ?_ (by first | omega | (simp; done) | (simp; omega) | (simp at *; omega)) _ | refine Below.trans ?_ (Below.mono (by assumption) (by first | omega | (simp; done) | (simp; omega) | (simp at *; omega))))



def hOk (x0 x1 x2 x3 x4 o : Int) : Bool := ctlOk x0 x1 x2 x3 x4 && inR o 0 23
def hv (k : Bool) (x : Int) : Int := bif k then x else 0
def hCode (x0 x1 x2 x3 x4 o : Int) : Int := bif ctlOk x0 x1 x2 x3 x4 then bif inR o 0 23 then 0 else 2 else 1



end Go.Proofs.YtijeefigfpcndaaDoor
