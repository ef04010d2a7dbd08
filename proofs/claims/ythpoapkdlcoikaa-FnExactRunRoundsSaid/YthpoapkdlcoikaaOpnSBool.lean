/-
  CONTRACTS: an argument read as a list, or as a list of lists. No condition.
-/
import Derived.Test.YthpoapkdlcoikaaOpen
import Derived.Test.YthpoapkdlcoikaaFamSBool
namespace Go.Proofs.Ythpoapkdlcoikaa
open Go.RowKit Go.ChangeShapes Go.WideShapes Go.Deep
set_option linter.unusedVariables false

set_option maxRecDepth 100000 in
theorem open_BoolSS {H : Type} {enc : TypeId × Value → H} {w : World} {r : Reach} {b0 : Nat} {v : Value} {d : DataW H} {p : List MemPlace}
    (hv : Value.okWide Try.prog w r b0 22 v) (h : DataW.Trod enc Try.prog w 0 (fun _ => true) true 22 v d p) :
    ∃ (A : Option Addr) (n c : Nat) (l : List (List Bool)), v = .slice A n c ∧ n ≤ c ∧ c ≤ maxLen ∧ RdSS w 0 w.heap.size A n (rrBool l) ∧ ∀ r ∈ l, ∀ p ∈ r, True := by
  obtain ⟨A0, n0, c0, rfl⟩ := okWide_slice Try.underlying22 hv
  obtain ⟨fuel, hf⟩ := h
  obtain ⟨A, n, c, l, hcs, h1, h2, h3, h4⟩ := open2 (Value.bool) (fun p => True) Try.underlying22 (by kernel_rfl) Try.underlying73 (by kernel_rfl) (fun v n y hy => by obtain ⟨m, e, _⟩ := DataW.trod_bool Try.underlying4 hy; exact ⟨m, by simpa using e, trivial⟩) hf
  exact ⟨A, n, c, l, by simpa [Value.cells] using hcs, h1, h2, h3, h4⟩

end Go.Proofs.Ythpoapkdlcoikaa
