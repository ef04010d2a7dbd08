/-
  CONTRACTS: an argument read as a list, or as a list of lists. No condition.
-/
import Derived.Test.YtijeefigfpcndaaDoorOpen
import Derived.Test.YtijeefigfpcndaaDoorFamSInt64
namespace Go.Proofs.YtijeefigfpcndaaDoor
open Go.RowKit Go.ChangeShapes Go.WideShapes Go.Deep
set_option linter.unusedVariables false

set_option maxRecDepth 100000 in
theorem open_Int64SS {H : Type} {enc : TypeId × Value → H} {w : World} {r : Reach} {b0 : Nat} {v : Value} {d : DataW H} {p : List MemPlace}
    (hv : Value.okWide Tryd.prog w r b0 28 v) (h : DataW.Trod enc Tryd.prog w 0 (fun _ => true) true 28 v d p) :
    ∃ (A : Option Addr) (n c : Nat) (l : List (List Int)), v = .slice A n c ∧ n ≤ c ∧ c ≤ maxLen ∧ RdSS w 0 w.heap.size A n (rrInt64 l) ∧ ∀ r ∈ l, ∀ p ∈ r, (Lit.int .i64 p).wf = true := by
  obtain ⟨A0, n0, c0, rfl⟩ := okWide_slice Tryd.underlying28 hv
  obtain ⟨fuel, hf⟩ := h
  obtain ⟨A, n, c, l, hcs, h1, h2, h3, h4⟩ := open2 (Value.int .i64) (fun p => (Lit.int .i64 p).wf = true) Tryd.underlying28 (by kernel_rfl) Tryd.underlying50 (by kernel_rfl) (fun v n y hy => by obtain ⟨m, e, _, hw⟩ := DataW.trod_int Tryd.underlying2 hy; exact ⟨m, by simpa using e, hw⟩) hf
  exact ⟨A, n, c, l, by simpa [Value.cells] using hcs, h1, h2, h3, h4⟩

end Go.Proofs.YtijeefigfpcndaaDoor
