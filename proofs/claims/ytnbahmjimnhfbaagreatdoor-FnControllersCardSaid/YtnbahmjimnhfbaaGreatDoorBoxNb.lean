/-
  A BOX that was laid just ahead of a call. No condition.
-/
import Derived.Test.YtnbahmjimnhfbaaGreatDoorBox
import Derived.Deep.DeepCutAuto
namespace Go.Proofs.YtnbahmjimnhfbaaGreatDoor
open Go.RowKit
set_option linter.unusedVariables false

/-- A block that was laid just ahead of a call stands behind it, and may be written. -/
theorem box_nb {P W : World} {cs : Array Value} {T : TypeId} (h : Below (P.alloc (.cells cs T)).heap.size (P.alloc (.cells cs T)) W) : Box W P.heap.size cs.toList ∧ Fz W P.heap.size ∧ P.heap.size < W.heap.size :=
  ⟨(box_new P cs T).below h (by simp), (fz_at P cs T _ rfl).below h (by simp), by have := h.size; simp at this; omega⟩
theorem box_nd {P W : World} {cs : Array Value} {T : TypeId} (h : Below (World.drew (P.alloc (.cells cs T))).heap.size (World.drew (P.alloc (.cells cs T))) W) : Box W P.heap.size cs.toList ∧ Fz W P.heap.size ∧ P.heap.size < W.heap.size :=
  have hl : P.heap.size < (World.drew (P.alloc (.cells cs T))).heap.size := by show P.heap.size < (P.alloc (.cells cs T)).heap.size; simp
  ⟨Box.below (W := World.drew (P.alloc (.cells cs T))) (box_new P cs T) h hl, Fz.below (W := World.drew (P.alloc (.cells cs T))) (fz_at P cs T _ rfl) h hl, Nat.lt_of_lt_of_le hl h.size⟩
/-- Rows stay where a block is laid. -/
theorem RdSS.lay {w : World} {lo hi n : Nat} {A : Option Addr} {rs : List (List Value)} (h : RdSS w lo hi A n rs) (hh : hi ≤ w.heap.size) (o : Obj) : RdSS (w.alloc o) lo hi A n rs := h.below ((Below.refl _ _).alloc (Nat.le_refl _) _) hh
theorem le_lay {w : World} {n : Nat} {o : Obj} (h : n ≤ w.heap.size) : n ≤ (w.alloc o).heap.size := by simp; omega
/-- A new box of five cells, written behind the calls. -/
theorem fin5 {W W0 : World} {B g : Nat} {z : Array Value} {a b c d e : Value} (h : Box W g z.toList) (hz : z.size = 5) (hB : B ≤ g) (hg : g < W.heap.size) (hC : Below B W0 W) :
    ∃ g' : Nat, Value.pointer (some ⟨g, 0, none⟩) = .pointer (some ⟨g', 0, none⟩) ∧ Box (((((W.setCell ⟨g, 0, none⟩ a).setCell ⟨g, 1, none⟩ b).setCell ⟨g, 2, none⟩ c).setCell ⟨g, 3, none⟩ d).setCell ⟨g, 4, none⟩ e) g' [a, b, c, d, e] ∧ B ≤ g' ∧ g' < ((((((W.setCell ⟨g, 0, none⟩ a).setCell ⟨g, 1, none⟩ b).setCell ⟨g, 2, none⟩ c).setCell ⟨g, 3, none⟩ d).setCell ⟨g, 4, none⟩ e)).heap.size ∧ Below B W0 (((((W.setCell ⟨g, 0, none⟩ a).setCell ⟨g, 1, none⟩ b).setCell ⟨g, 2, none⟩ c).setCell ⟨g, 3, none⟩ d).setCell ⟨g, 4, none⟩ e) := by
  refine ⟨g, rfl, ?_, hB, ?_, ((((hC.setCell hB _).setCell hB _).setCell hB _).setCell hB _).setCell hB _⟩
  · obtain ⟨z⟩ := z
    match z, hz with
    | [_, _, _, _, _], _ => exact ((((h.put 0 a (by simp)).put 1 b (by simp)).put 2 c (by simp)).put 3 d (by simp)).put 4 e (by simp)
  · simpa using hg
/-- A new box laid behind the calls. -/
theorem fin5n {W W0 : World} {B : Nat} {a b c d e : Value} {T : TypeId} (hB : B ≤ W.heap.size) (hC : Below B W0 W) :
    ∃ g' : Nat, Value.pointer (some ⟨W.heap.size, 0, none⟩) = .pointer (some ⟨g', 0, none⟩) ∧ Box (W.alloc (.cells #[a, b, c, d, e] T)) g' [a, b, c, d, e] ∧ B ≤ g' ∧ g' < (W.alloc (.cells #[a, b, c, d, e] T)).heap.size ∧ Below B W0 (W.alloc (.cells #[a, b, c, d, e] T)) :=
  ⟨_, rfl, box_new W #[a, b, c, d, e] T, hB, by simp, hC.alloc hB _⟩
end Go.Proofs.YtnbahmjimnhfbaaGreatDoor
