/-
  StepControl: the reference's and the program's. No condition but those that each theorem names.
-/
import Derived.Test.YtnbahmjimnhfbaaGreatDoorCode
namespace Go.Proofs.YtnbahmjimnhfbaaGreatDoor
open Go.RowKit
set_option linter.unusedVariables false

theorem codeC_zero {T : List (List Bool)} {mg st : Int} {l : List Ctl} (h : codeC T mg st l = 0) : okT T = true ∧ ruOk mg st = true ∧ ∀ p ∈ l, ctlOkP p = true := by
  unfold codeC at h
  split at h
  · rename_i h1
    split at h
    · rename_i h2
      split at h
      · rename_i h3
        exact ⟨h1, h2, List.all_eq_true.1 h3⟩
      · omega
    · omega
  · omega
theorem rd_new (w : World) (cs : Array Value) (T : TypeId) (n size : Nat) (hn : cs.size = n * size) (l : List Value) (hl : cs.toList = l) (b : Nat) (hb : b = w.heap.size) : Rd (w.alloc (.cells cs T)) b (b + 1) size (some ⟨b, 0, none⟩) n l := by
  subst hl; subst hb
  exact ⟨by simpa using hn, fun _ => ⟨w.heap.size, 0, rfl, Nat.le_refl _, Nat.lt_succ_self _, fun j u hu => by rw [Nat.zero_add, new_cell]; simpa using hu⟩⟩
/-- The result's part: the value if the code is 0. -/
def zv (c x : Int) : Int := if c = 0 then x else 0
theorem zv_bad {c : Int} (h : c ≠ 0) (x : Int) : zv c x = 0 := by simp [zv, h]
theorem zv_ok (x : Int) : zv 0 x = x := by simp [zv]

end Go.Proofs.YtnbahmjimnhfbaaGreatDoor
