/-
  CONTRACTS: an argument read as a list, or as a list of lists. No condition.
-/
import Derived.Test.YthpoapkdlcoikaaOpen
import Derived.Test.YthpoapkdlcoikaaFamInt64
namespace Go.Proofs.Ythpoapkdlcoikaa
open Go.RowKit Go.ChangeShapes Go.WideShapes Go.Deep
set_option linter.unusedVariables false

set_option maxRecDepth 100000 in
theorem open_Int64S {H : Type} {enc : TypeId × Value → H} {w : World} {r : Reach} {b0 : Nat} {v : Value} {d : DataW H} {p : List MemPlace}
    (hv : Value.okWide Try.prog w r b0 23 v) (h : DataW.Trod enc Try.prog w 0 (fun _ => true) true 23 v d p) :
    ∃ (A : Option Addr) (n c : Nat) (l : List Int), v = .slice A n c ∧ n ≤ c ∧ c ≤ maxLen ∧ l.length = n ∧ Rd w 0 w.heap.size 1 A n (rInt64 l) ∧ ∀ p ∈ l, (Lit.int .i64 p).wf = true := by
  obtain ⟨A0, n0, c0, rfl⟩ := okWide_slice Try.underlying23 hv
  obtain ⟨fuel, hf⟩ := h
  obtain ⟨A, n, c, l, hcs, h1, h2, h3, h4, h5⟩ := open1 (Value.int .i64) (fun p => (Lit.int .i64 p).wf = true) Try.underlying23 (by kernel_rfl) (fun v n y hy => by obtain ⟨m, e, _, hw⟩ := DataW.trod_int Try.underlying2 hy; exact ⟨m, by simpa using e, hw⟩) hf
  exact ⟨A, n, c, l, by simpa [Value.cells] using hcs, h1, h2, h3, h4, h5⟩

end Go.Proofs.Ythpoapkdlcoikaa
