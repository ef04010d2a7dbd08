/-
  CONTRACTS of the laws' helpers on a slice of rounds: an argument read as a list. No condition but those that each theorem names.
-/
import Derived.Test.YthpoapkdlcoikaaOpen
import Derived.Test.YthpoapkdlcoikaaFamRound
namespace Go.Proofs.Ythpoapkdlcoikaa
open Go.RowKit Go.ChangeShapes Go.WideShapes Go.Deep
set_option linter.unusedVariables false


set_option maxRecDepth 100000 in
theorem open_RoundS {H : Type} {enc : TypeId × Value → H} {w : World} {r : Reach} {b0 : Nat} {v : Value} {d : DataW H} {p : List MemPlace}
    (hv : Value.okWide Try.prog w r b0 63 v) (h : DataW.Trod enc Try.prog w 0 (fun _ => true) true 63 v d p) :
    ∃ (A : Option Addr) (n c : Nat) (l : List (Bool × Bool)), v = .slice A n c ∧ n ≤ c ∧ c ≤ maxLen ∧ l.length = n ∧ Rd w 0 w.heap.size 2 A n (rRound l) ∧ ∀ p ∈ l, True := by
  obtain ⟨A, n, c, rfl⟩ := okWide_slice Try.underlying63 hv
  obtain ⟨fuel, hf0⟩ := h
  rcases open_slice_fields Try.underlying63 Try.underlying49 (by kernel_rfl) (by kernel_rfl) (by simpa [Value.cells] using hf0) with ⟨hcs, _⟩ | ⟨a, len, cap, mm, D, Pl, hcs, _, hlc, hcm, hmm, _, hel⟩
  · simp only [List.cons.injEq, Value.slice.injEq, and_true] at hcs
    obtain ⟨rfl, rfl, rfl⟩ := hcs
    exact ⟨none, 0, 0, [], rfl, Nat.le_refl _, Nat.zero_le _, rfl, Rd.nil _ _ _ _ _, fun p hp => by cases hp⟩
  · simp only [List.cons.injEq, Value.slice.injEq, and_true] at hcs
    obtain ⟨rfl, rfl, rfl⟩ := hcs
    simp only [if_true] at hmm
    subst hmm
    obtain ⟨l, hl, hr, hG⟩ := open_rows (f := cRound) (m := 2) (n := n) (fun _ => rfl) (by omega) (fun p => True) a (fun i hi => by
      obtain ⟨ys, nn, _, _, _, hf⟩ := hel i (by omega)
      simp only [Array.size] at hf
      obtain ⟨v0, y0, hc0, _, ht0⟩ := hf 0 _ rfl
      obtain ⟨x0, e0, _⟩ := DataW.trod_bool (by kernel_rfl) ht0
      obtain rfl : v0 = .bool x0 := by simpa using e0
      obtain ⟨v1, y1, hc1, _, ht1⟩ := hf 1 _ rfl
      obtain ⟨x1, e1, _⟩ := DataW.trod_bool (by kernel_rfl) ht1
      obtain rfl : v1 = .bool x1 := by simpa using e1
      refine ⟨(x0, x1), trivial, fun j u hu => ?_⟩
      match j, hu with
      | 0, hu => obtain rfl := Option.some.inj hu; exact hc0
      | 1, hu => obtain rfl := Option.some.inj hu; exact hc1
      | _ + 2, hu => simp [cRound] at hu)
    exact ⟨some a, n, _, l, rfl, hlc, hcm, hl, hr, hG⟩

end Go.Proofs.Ythpoapkdlcoikaa
