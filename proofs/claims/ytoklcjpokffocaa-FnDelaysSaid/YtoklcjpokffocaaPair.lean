/-
  DRAWINGS of the reference: what the laws on controllers draw. What is drawn is left open. No condition but those that each theorem names.
-/
import Derived.Test.YtoklcjpokffocaaDrawC
namespace Go.Proofs.Ytoklcjpokffocaa
open Go.RowKit
set_option linter.unusedVariables false
set_option linter.unusedSimpArgs false

/-- Some list of lists, that lies in some blocks. -/
def TabR (w : World) (lo hi : Nat) (v : Value) : Prop := ∃ A n c T, v = .slice A n c ∧ n ≤ maxLen ∧ RdSS w lo hi A n (rrBool T)
section
variable {w w' : World} {lo hi : Nat} {v : Value}
theorem TabR.keep (h : TabR w lo hi v) (hk : ∀ p : Addr, lo ≤ p.block → p.block < hi → w'.cell? p = w.cell? p) : TabR w' lo hi v := by
  obtain ⟨A, n, c, T, e, h1, h2⟩ := h; exact ⟨A, n, c, T, e, h1, h2.keep hk⟩
theorem TabR.tch {l k : Nat} (h : TabR w lo hi v) (hb : Tch l k w w') (hw : hi ≤ w.heap.size) (hd : hi ≤ l ∨ k ≤ lo) : TabR w' lo hi v := h.keep fun _ h1 h2 => hb.cell (by omega) (by omega)
theorem TabR.below {B : Nat} (h : TabR w lo hi v) (hb : Below B w w') (hB : hi ≤ B) : TabR w' lo hi v := h.keep fun _ _ hp => hb.cell (by omega)
theorem TabR.alloc (h : TabR w lo hi v) (hw : hi ≤ w.heap.size) (o : Obj) : TabR (w.alloc o) lo hi v := h.below ((Below.refl _ _).alloc (Nat.le_refl _) _) hw
theorem TabR.set {g : Nat} (h : TabR w lo hi v) (hg : g < lo ∨ hi ≤ g) (j : Nat) (u : Value) : TabR (w.setCell ⟨g, j, none⟩ u) lo hi v := h.keep fun p h1 h2 => World.cell?_setCell_far _ _ _ _ (by show g ≠ p.block; omega)
theorem TabR.drew (h : TabR w lo hi v) : TabR w.drew lo hi v := h
theorem TabR.mono {lo' hi' : Nat} (h : TabR w lo hi v) (h1 : lo' ≤ lo) (h2 : hi ≤ hi') : TabR w lo' hi' v := by
  obtain ⟨A, n, c, T, e, k1, k2⟩ := h; exact ⟨A, n, c, T, e, k1, k2.mono h1 h2⟩
theorem TabA.reg (h : TabA w lo v) : TabR w lo w.heap.size v := h
theorem TabV.reg (h : TabV w lo w.heap.size v 24) : TabR w lo w.heap.size v := h.any
end
def Blw (w W : World) : Prop := Below w.heap.size w W
theorem Blw.setNew {w W : World} {g : Nat} (h : Blw w W) (hg : w.heap.size ≤ g) (j : Nat) (u : Value) : Blw w (W.setCell ⟨g, j, none⟩ u) := h.setCell hg u
theorem Blw.alloc_ {w W : World} (h : Blw w W) (o : Obj) : Blw w (W.alloc o) := h.alloc h.size _
theorem Blw.drew_ {w W : World} (h : Blw w W) : Blw w W.drew := h.trans (Joins.below_draws _ _ 1)
theorem Blw.thenT {w W W' : World} {b : Nat} (h : Blw w W) (t : Tch b (b + 1) W W') (hb : w.heap.size ≤ b) : Blw w W' := by
  refine ⟨t.os.trans h.os, t.tape.trans h.tape, t.output.trans h.output, Nat.le_trans h.size t.size, fun i hi => ?_⟩
  exact (t.block i (Nat.lt_of_lt_of_le hi h.size) (.inl (by omega))).trans (h.block i hi)

end Go.Proofs.Ytoklcjpokffocaa
