/-
  RunRound: the reference's and the program's. No condition but those that each theorem names.
-/
import Derived.Test.YtnbahmjimnhfbaaGreatDoorNeed
import Derived.Deep.DeepCutAuto
namespace Go.Proofs.YtnbahmjimnhfbaaGreatDoor
open Go.RowKit
set_option linter.unusedVariables false

/-- Both controllers behind RunRound. -/
def rrP (T : List (List Bool)) (mg st : Int) (x1 x2 : Bool) (a b : Ctl) : Ctl × Ctl := if codeC T mg st [a, b] = 0 then roundC T mg st x1 x2 (a, b) else ((0, 0, 0, 0, 0), (0, 0, 0, 0, 0))
theorem dcell_ (W : World) (p : Addr) : (World.drew W).cell? p = W.cell? p := rfl
theorem far5n {W : World} {b g i : Nat} {a0 a1 a2 a3 a4 : Value} (h : b ≠ g) : (((((W.setCell ⟨b, 0, none⟩ a0).setCell ⟨b, 1, none⟩ a1).setCell ⟨b, 2, none⟩ a2).setCell ⟨b, 3, none⟩ a3).setCell ⟨b, 4, none⟩ a4).cell? ⟨g, i, none⟩ = W.cell? ⟨g, i, none⟩ := by
  rw [World.cell?_setCell_far _ _ _ _ h, World.cell?_setCell_far _ _ _ _ h, World.cell?_setCell_far _ _ _ _ h, World.cell?_setCell_far _ _ _ _ h, World.cell?_setCell_far _ _ _ _ h]
theorem far5 {W : World} {b g i : Nat} {a0 a1 a2 a3 a4 : Value} (h : b ≠ g) : (World.drew (((((W.setCell ⟨b, 0, none⟩ a0).setCell ⟨b, 1, none⟩ a1).setCell ⟨b, 2, none⟩ a2).setCell ⟨b, 3, none⟩ a3).setCell ⟨b, 4, none⟩ a4)).cell? ⟨g, i, none⟩ = W.cell? ⟨g, i, none⟩ := (dcell_ _ _).trans (far5n h)
theorem rrP_bad {T : List (List Bool)} {mg st : Int} {x1 x2 : Bool} {a b : Ctl} {c : Int} (h : codeC T mg st [a, b] = c) (hc : c ≠ 0) : rrP T mg st x1 x2 a b = ((0, 0, 0, 0, 0), (0, 0, 0, 0, 0)) := by simp [rrP, h, hc]
theorem rrP_ok {T : List (List Bool)} {mg st : Int} {x1 x2 : Bool} {a b : Ctl} (h : codeC T mg st [a, b] = 0) : rrP T mg st x1 x2 a b = roundC T mg st x1 x2 (a, b) := by simp [rrP, h]

end Go.Proofs.YtnbahmjimnhfbaaGreatDoor
