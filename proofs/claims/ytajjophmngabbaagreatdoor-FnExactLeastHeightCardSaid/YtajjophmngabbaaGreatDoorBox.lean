/-
  BOXES of a law's parameters: the cells of a block, kept by what touches other blocks alone. No condition.
-/
import Derived.Test.YtajjophmngabbaaGreatDoorRows2
import Derived.Deep.RegionHeld3
namespace Go.Proofs.YtajjophmngabbaaGreatDoor
open Go.RowKit
set_option linter.unusedVariables false

theorem RdSS.drew {w : World} {lo hi n : Nat} {A : Option Addr} {rs : List (List Value)} (h : RdSS w lo hi A n rs) : RdSS w.drew lo hi A n rs := h
theorem le_drew {w : World} {n : Nat} (h : n ≤ w.heap.size) : n ≤ w.drew.heap.size := h
/-- Block b begins with these cells. -/
def Box (W : World) (b : Nat) (vs : List Value) : Prop := ∀ i v, vs[i]? = some v → W.cell? ⟨b, i, none⟩ = some v
theorem Box.below {W W' : World} {b B : Nat} {vs : List Value} (h : Box W b vs) (hb : Below B W W') (hB : b < B) : Box W' b vs := fun i v hv => (hb.cell (p := ⟨b, i, none⟩) hB).trans (h i v hv)
theorem Box.tch {W W' : World} {b lo hi : Nat} {vs : List Value} (h : Box W b vs) (hb : Tch lo hi W W') (hl : b < W.heap.size) (hB : b < lo ∨ hi ≤ b) : Box W' b vs := fun i v hv => (hb.cell (p := ⟨b, i, none⟩) hl hB).trans (h i v hv)
theorem Box.alloc {W : World} {b : Nat} {vs : List Value} (h : Box W b vs) (hl : b < W.heap.size) (o : Obj) : Box (W.alloc o) b vs := fun i v hv => (World.cell?_alloc_lt W o ⟨b, i, none⟩ hl).trans (h i v hv)
theorem Box.more {W : World} {b : Nat} {vs : List Value} (h : Box W b vs) (o : Obj) : Box (W.alloc o) b vs := fun i v hv => (World.cell?_alloc_some W ⟨b, i, none⟩ o (by rw [h i v hv]; rfl)).trans (h i v hv)
theorem Box.moreAt {W : World} {b : Nat} {vs : List Value} (h : Box W b vs) (o : Obj) (i : Nat) (v : Value) (hv : vs[i]? = some v) : (W.alloc o).cell? ⟨b, i, none⟩ = some v := h.more o i v hv
theorem box_new (W : World) (cs : Array Value) (T : TypeId) : Box (W.alloc (.cells cs T)) W.heap.size cs.toList := fun i v hv => by rw [new_cell]; simpa using hv
theorem box_at (W : World) (cs : Array Value) (T : TypeId) (b : Nat) (hb : b = W.heap.size) : Box (W.alloc (.cells cs T)) b cs.toList := by subst hb; exact box_new W cs T

/-- No cell of block b is frozen. -/
def Fz (W : World) (b : Nat) : Prop := ∀ i, W.frozen? ⟨b, i, none⟩ = false
theorem Fz.below {W W' : World} {b B : Nat} (h : Fz W b) (hb : Below B W W') (hB : b < B) : Fz W' b := fun i => (hb.frozen (p := ⟨b, i, none⟩) hB).trans (h i)
theorem Fz.alloc {W : World} {b : Nat} (h : Fz W b) (hl : b < W.heap.size) (o : Obj) : Fz (W.alloc o) b := h.below ((Below.refl _ _).alloc (Nat.le_refl _) _) hl
theorem fz_at (W : World) (cs : Array Value) (T : TypeId) (b : Nat) (hb : b = W.heap.size) : Fz (W.alloc (.cells cs T)) b := by subst hb; exact fun i => new_frozen W cs T i

theorem Fz.set {W : World} {b : Nat} (h : Fz W b) (a : Addr) (v : Value) : Fz (W.setCell a v) b := fun i => by rw [World.frozen?_setCell]; exact h i
theorem Box.far {W : World} {b : Nat} {vs : List Value} (h : Box W b vs) (a : Addr) (v : Value) (hne : a.block ≠ b) : Box (W.setCell a v) b vs := fun i u hu => (World.cell?_setCell_far W a ⟨b, i, none⟩ v hne).trans (h i u hu)
theorem Box.put {W : World} {b : Nat} {vs : List Value} (h : Box W b vs) (i : Nat) (v : Value) (hi : i < vs.length) : Box (W.setCell ⟨b, i, none⟩ v) b (vs.set i v) := by
  intro j u hu
  by_cases e : i = j
  · subst e
    rw [List.getElem?_set_self hi] at hu
    obtain rfl := Option.some.inj hu
    exact World.cell?_setCell_same (w := W) (a := ⟨b, i, none⟩) (v := v) (h i _ (List.getElem?_eq_getElem hi))
  · rw [List.getElem?_set_ne e] at hu
    rw [World.cell?_setCell_other (w := W) (a := ⟨b, i, none⟩) (b := ⟨b, j, none⟩) (v := v) (by intro h2; injection h2 with _ h3; exact e h3)]
    exact h j u hu

/-- No row is longer than all rows together. -/
theorem rows_small {l : List (List Bool)} {n : Nat} {f : List (List Bool) → List (List Value)} (hf : ∀ k, ((f l).getD k []).length = (l.getD k []).length) (hl : (f l).length = n) (hll : l.length = n) {q : Int} (h : (n : Int) + (tot (f l) n : Nat) ≤ q) : ∀ r ∈ l, (r.length : Int) ≤ q := by
  intro r hr
  obtain ⟨i, hi, rfl⟩ := List.mem_iff_getElem.1 hr
  have h1 := tot_succ (f l) i (by omega)
  have h2 := tot_mono (f l) (show i + 1 ≤ n by omega)
  have h3 := hf i
  rw [show l.getD i [] = l[i] by simp [List.getD, hi]] at h3
  omega
end Go.Proofs.YtajjophmngabbaaGreatDoor
