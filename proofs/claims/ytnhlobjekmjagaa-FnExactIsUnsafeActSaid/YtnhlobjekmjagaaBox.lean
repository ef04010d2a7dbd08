/-
  BOXES of a law's parameters: the cells of a block, kept by what touches other blocks alone. No condition.
-/
import Derived.Test.YtnhlobjekmjagaaRows2
import Derived.Deep.RegionHeld3
namespace Go.Proofs.Ytnhlobjekmjagaa
open Go.RowKit
set_option linter.unusedVariables false

/-- Block b begins with these cells. -/
def Box (W : World) (b : Nat) (vs : List Value) : Prop := ∀ i v, vs[i]? = some v → W.cell? ⟨b, i, none⟩ = some v
theorem Box.below {W W' : World} {b B : Nat} {vs : List Value} (h : Box W b vs) (hb : Below B W W') (hB : b < B) : Box W' b vs := fun i v hv => (hb.cell (p := ⟨b, i, none⟩) hB).trans (h i v hv)
theorem Box.tch {W W' : World} {b lo hi : Nat} {vs : List Value} (h : Box W b vs) (hb : Tch lo hi W W') (hl : b < W.heap.size) (hB : b < lo ∨ hi ≤ b) : Box W' b vs := fun i v hv => (hb.cell (p := ⟨b, i, none⟩) hl hB).trans (h i v hv)
theorem Box.alloc {W : World} {b : Nat} {vs : List Value} (h : Box W b vs) (hl : b < W.heap.size) (o : Obj) : Box (W.alloc o) b vs := fun i v hv => (World.cell?_alloc_lt W o ⟨b, i, none⟩ hl).trans (h i v hv)
theorem box_new (W : World) (cs : Array Value) (T : TypeId) : Box (W.alloc (.cells cs T)) W.heap.size cs.toList := fun i v hv => by rw [new_cell]; simpa using hv
theorem box_at (W : World) (cs : Array Value) (T : TypeId) (b : Nat) (hb : b = W.heap.size) : Box (W.alloc (.cells cs T)) b cs.toList := by subst hb; exact box_new W cs T

/-- No row is longer than all rows together. -/
theorem rows_small {l : List (List Bool)} {n : Nat} {f : List (List Bool) → List (List Value)} (hf : ∀ k, ((f l).getD k []).length = (l.getD k []).length) (hl : (f l).length = n) (hll : l.length = n) {q : Int} (h : (n : Int) + (tot (f l) n : Nat) ≤ q) : ∀ r ∈ l, (r.length : Int) ≤ q := by
  intro r hr
  obtain ⟨i, hi, rfl⟩ := List.mem_iff_getElem.1 hr
  have h1 := tot_succ (f l) i (by omega)
  have h2 := tot_mono (f l) (show i + 1 ≤ n by omega)
  have h3 := hf i
  rw [show l.getD i [] = l[i] by simp [List.getD, hi]] at h3
  omega
end Go.Proofs.Ytnhlobjekmjagaa
