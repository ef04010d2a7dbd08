/-
  A STRUCT BY VALUE whose fields are one cell each, over any program: its cells, and what each reads as. No condition.
-/
import Derived.Test.YthpoapkdlcoikaaFrame
namespace Go.Proofs.Ythpoapkdlcoikaa
open Go.ChangeShapes Go.WideShapes Go.ChangeAt Go.RowKit
theorem listv2 {l : List Value} (h : l.length = 2) : ∃ a0 a1, l = [a0, a1] := by
  match l, h with
  | [a0, a1], _ => exact ⟨_, _, rfl⟩
theorem listv4 {l : List Value} (h : l.length = 4) : ∃ a0 a1 a2 a3, l = [a0, a1, a2, a3] := by
  match l, h with
  | [a0, a1, a2, a3], _ => exact ⟨_, _, _, _, rfl⟩
section
variable {H : Type} {enc : TypeId × Value → H} {P : Program}
theorem open_cells_struct {w : World} {base : Nat} {spare : Nat → Bool} {held : Bool} {r : Reach} {b0 : Nat} {t : TypeId} {fs : Array Field} {v : Value} {d : DataW H} {p : List MemPlace} (hs : P.underlying t = some (.struct fs))
    (hall : (List.range fs.size).all (fun i => (fs[i]?).any fun f => f.offset == i && P.cellsOf f.type == 1) = true) (hC : P.cellsOf t = fs.size)
    (hv : Value.okWide P w r b0 t v) (h : DataW.Trod enc P w base spare held t v d p) :
    ∃ l : List Value, l.length = fs.size ∧ v = .agg l.toArray ∧ ∀ (i : Nat) (f : Field), fs[i]? = some f → ∃ v0 n x, l[i]? = some v0 ∧ DataW.trod enc P w base spare held n f.type [v0] = some x := by
  obtain ⟨cs, rfl, hsz⟩ := okWide_struct hs hv
  obtain ⟨l⟩ := cs
  obtain ⟨fuel, hf⟩ := h
  obtain ⟨xs, n, _, _, hlen, hxl, hg⟩ := DataW.trod_struct hs hf
  have hcl : l.length = fs.size := by simpa [hC] using hsz
  refine ⟨l, hcl, rfl, fun i f hf1 => ?_⟩
  have hi : i < l.length := by rw [hcl]; exact (Array.getElem?_eq_some_iff.1 hf1).1
  have h1 := List.all_eq_true.1 hall i (by simp; omega)
  rw [hf1] at h1
  simp only [Option.any_some, Bool.and_eq_true, beq_iff_eq] at h1
  obtain ⟨ho, hc⟩ := h1
  have h2 := hg i f hf1
  simp only [Value.cells] at h2
  rw [ho, hc] at h2
  have hone : (l.drop i).take 1 = [l[i]] := by rw [List.drop_eq_getElem_cons hi]; rfl
  rw [hone] at h2
  have hxi : xs[i]? = some (xs[i]'(by omega)) := List.getElem?_eq_getElem (by omega)
  exact ⟨l[i], _, _, List.getElem?_eq_getElem hi, h2.trans hxi⟩
end
end Go.Proofs.Ythpoapkdlcoikaa
