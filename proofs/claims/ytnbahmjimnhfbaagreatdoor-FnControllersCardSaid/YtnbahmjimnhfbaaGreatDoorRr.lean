/-
  A region with two struct results: what its closing takes. No condition.
-/
import Derived.Test.YtnbahmjimnhfbaaGreatDoorRun
import Derived.Test.YtnbahmjimnhfbaaGreatDoorBoxNb
namespace Go.Proofs.YtnbahmjimnhfbaaGreatDoor
open Go.RowKit
set_option linter.unusedVariables false
set_option linter.unusedSimpArgs false

theorem box_n2 {P W : World} {cs ds : Array Value} {T U : TypeId} (h : Below ((P.alloc (.cells cs T)).alloc (.cells ds U)).heap.size ((P.alloc (.cells cs T)).alloc (.cells ds U)) W) : (Box W (P.alloc (.cells cs T)).heap.size ds.toList ∧ Fz W (P.alloc (.cells cs T)).heap.size ∧ (P.alloc (.cells cs T)).heap.size < W.heap.size) ∧ Box W P.heap.size cs.toList ∧ Fz W P.heap.size ∧ P.heap.size < W.heap.size :=
  ⟨box_nb h, ((box_new P cs T).alloc (by simp) _).below h (by simp; omega), ((fz_at P cs T _ rfl).alloc (by simp) _).below h (by simp; omega), by have := h.size; simp at this; omega⟩
theorem box_nd2 {P W : World} {cs ds : Array Value} {T U : TypeId} (h : Below (World.drew ((P.alloc (.cells cs T)).alloc (.cells ds U))).heap.size (World.drew ((P.alloc (.cells cs T)).alloc (.cells ds U))) W) : (Box W (P.alloc (.cells cs T)).heap.size ds.toList ∧ Fz W (P.alloc (.cells cs T)).heap.size ∧ (P.alloc (.cells cs T)).heap.size < W.heap.size) ∧ Box W P.heap.size cs.toList ∧ Fz W P.heap.size ∧ P.heap.size < W.heap.size :=
  have hl : P.heap.size < (World.drew ((P.alloc (.cells cs T)).alloc (.cells ds U))).heap.size := by show P.heap.size < ((P.alloc (.cells cs T)).alloc (.cells ds U)).heap.size; simp; omega
  ⟨box_nd h, Box.below (W := World.drew ((P.alloc (.cells cs T)).alloc (.cells ds U))) ((box_new P cs T).alloc (by simp) _) h hl, Fz.below (W := World.drew ((P.alloc (.cells cs T)).alloc (.cells ds U))) ((fz_at P cs T _ rfl).alloc (by simp) _) h hl, Nat.lt_of_lt_of_le hl h.size⟩
universe u
theorem y1 {α : Type u} {xs : List α} {i : Nat} (h : i < xs.toArray.size) : xs.toArray[i] = xs[i]'(by simpa using h) := List.getElem_toArray h
theorem y2 {α : Type u} (a : α) (l : List α) (i : Nat) (h : i + 1 < (a :: l).length) : (a :: l)[i + 1] = l[i]'(by simpa using h) := List.getElem_cons_succ a l i h
theorem y3 {α : Type u} (a : α) (l : List α) (h : 0 < (a :: l).length) : (a :: l)[0] = a := List.getElem_cons_zero a l h
theorem y4 {α : Type u} (l : List α) (i : Nat) (a : α) : l.toArray.setIfInBounds i a = (l.set i a).toArray := List.setIfInBounds_toArray l i a
theorem y5 {α : Type u} {x : α} {xs : List α} {i : Nat} {a : α} : (x :: xs).set (i + 1) a = x :: xs.set i a := List.set_cons_succ
theorem y6 {α : Type u} {x : α} {xs : List α} {a : α} : (x :: xs).set 0 a = a :: xs := List.set_cons_zero
theorem wpAnyH_cap {P : Program} {ops : Array Oper} {Q : Exit → Act → World → Prop} {md : Region.Mode} {S : World → Prop} {fuel : Nat} {listed : Array Bool} {a : Act} {w : World} (h : ∀ (ops' : Array Oper) (Q' : Exit → Act → World → Prop) (a' : Act), Hid (ops' = ops) → Hid (Q' = Q) → Hid (a' = a) → wpAnyH P md ops' Q' S fuel listed a' w) : wpAnyH P md ops Q S fuel listed a w := h ops Q a (hide rfl) (hide rfl) (hide rfl)
theorem keepA {W : World} {p : Addr} {v : Value} (h : W.cell? p = some v) (o : Obj) : (W.alloc o).cell? p = some v := (World.cell?_alloc_some W p o (by rw [h]; rfl)).trans h
theorem Below.lay2 {B : Nat} {W W' : World} (h : Below B W W') (hB : B ≤ W'.heap.size) (o : Obj) : Below B W (W'.alloc o) := h.alloc hB _
theorem put5 {W : World} {g : Nat} {a b c d e : Value} {z : List Value} (h : Box W g z) (hz : z.length = 5) : Box (((((W.setCell ⟨g, 0, none⟩ a).setCell ⟨g, 1, none⟩ b).setCell ⟨g, 2, none⟩ c).setCell ⟨g, 3, none⟩ d).setCell ⟨g, 4, none⟩ e) g [a, b, c, d, e] := by
  match z, hz with
  | [_, _, _, _, _], _ => exact ((((h.put 0 a (by simp)).put 1 b (by simp)).put 2 c (by simp)).put 3 d (by simp)).put 4 e (by simp)
theorem far5B {W : World} {g k : Nat} {a b c d e : Value} {z : List Value} (h : Box W k z) (hk : g ≠ k) : Box (((((W.setCell ⟨g, 0, none⟩ a).setCell ⟨g, 1, none⟩ b).setCell ⟨g, 2, none⟩ c).setCell ⟨g, 3, none⟩ d).setCell ⟨g, 4, none⟩ e) k z := ((((h.far _ _ hk).far _ _ hk).far _ _ hk).far _ _ hk).far _ _ hk
theorem size5 {W : World} {g : Nat} {a b c d e : Value} : (((((W.setCell ⟨g, 0, none⟩ a).setCell ⟨g, 1, none⟩ b).setCell ⟨g, 2, none⟩ c).setCell ⟨g, 3, none⟩ d).setCell ⟨g, 4, none⟩ e).heap.size = W.heap.size := by simp
theorem below5 {B : Nat} {W0 W : World} {g : Nat} {a b c d e : Value} (hB : B ≤ g) (h : Below B W0 W) : Below B W0 (((((W.setCell ⟨g, 0, none⟩ a).setCell ⟨g, 1, none⟩ b).setCell ⟨g, 2, none⟩ c).setCell ⟨g, 3, none⟩ d).setCell ⟨g, 4, none⟩ e) := ((((h.setCell hB _).setCell hB _).setCell hB _).setCell hB _).setCell hB _
end Go.Proofs.YtnbahmjimnhfbaaGreatDoor
