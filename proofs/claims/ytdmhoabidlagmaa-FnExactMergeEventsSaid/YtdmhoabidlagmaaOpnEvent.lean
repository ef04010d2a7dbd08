/-
  CONTRACTS of the laws' helpers on a slice of events: an argument read as a list. No condition but those that each theorem names.
-/
import Derived.Test.YtdmhoabidlagmaaOpen
import Derived.Test.YtdmhoabidlagmaaFamEvent
namespace Go.Proofs.Ytdmhoabidlagmaa
open Go.RowKit Go.ChangeShapes Go.WideShapes Go.Deep
set_option linter.unusedVariables false


set_option maxRecDepth 100000 in
theorem open_EventS {H : Type} {enc : TypeId × Value → H} {w : World} {r : Reach} {b0 : Nat} {v : Value} {d : DataW H} {p : List MemPlace}
    (hv : Value.okWide Try.prog w r b0 22 v) (h : DataW.Trod enc Try.prog w 0 (fun _ => true) true 22 v d p) :
    ∃ (A : Option Addr) (n c : Nat) (l : List (Int × Int × Int × Int)), v = .slice A n c ∧ n ≤ c ∧ c ≤ maxLen ∧ l.length = n ∧ Rd w 0 w.heap.size 4 A n (rEvent l) ∧ ∀ p ∈ l, (Lit.int .i64 p.1).wf = true ∧ (Lit.int .i64 p.2.1).wf = true ∧ (Lit.int .i64 p.2.2.1).wf = true ∧ (Lit.int .i64 p.2.2.2).wf = true := by
  obtain ⟨A, n, c, rfl⟩ := okWide_slice Try.underlying22 hv
  obtain ⟨fuel, hf0⟩ := h
  rcases open_slice_fields Try.underlying22 Try.underlying35 (by kernel_rfl) (by kernel_rfl) (by simpa [Value.cells] using hf0) with ⟨hcs, _⟩ | ⟨a, len, cap, mm, D, Pl, hcs, _, hlc, hcm, hmm, _, hel⟩
  · simp only [List.cons.injEq, Value.slice.injEq, and_true] at hcs
    obtain ⟨rfl, rfl, rfl⟩ := hcs
    exact ⟨none, 0, 0, [], rfl, Nat.le_refl _, Nat.zero_le _, rfl, Rd.nil _ _ _ _ _, fun p hp => by cases hp⟩
  · simp only [List.cons.injEq, Value.slice.injEq, and_true] at hcs
    obtain ⟨rfl, rfl, rfl⟩ := hcs
    simp only [if_true] at hmm
    subst hmm
    obtain ⟨l, hl, hr, hG⟩ := open_rows (f := cEvent) (m := 4) (n := n) (fun _ => rfl) (by omega) (fun p => (Lit.int .i64 p.1).wf = true ∧ (Lit.int .i64 p.2.1).wf = true ∧ (Lit.int .i64 p.2.2.1).wf = true ∧ (Lit.int .i64 p.2.2.2).wf = true) a (fun i hi => by
      obtain ⟨ys, nn, _, _, _, hf⟩ := hel i (by omega)
      simp only [Array.size] at hf
      obtain ⟨v0, y0, hc0, _, ht0⟩ := hf 0 _ rfl
      obtain ⟨x0, e0, _, wf0⟩ := DataW.trod_int (by kernel_rfl) ht0
      obtain rfl : v0 = .int .i64 x0 := by simpa using e0
      obtain ⟨v1, y1, hc1, _, ht1⟩ := hf 1 _ rfl
      obtain ⟨x1, e1, _, wf1⟩ := DataW.trod_int (by kernel_rfl) ht1
      obtain rfl : v1 = .int .i64 x1 := by simpa using e1
      obtain ⟨v2, y2, hc2, _, ht2⟩ := hf 2 _ rfl
      obtain ⟨x2, e2, _, wf2⟩ := DataW.trod_int (by kernel_rfl) ht2
      obtain rfl : v2 = .int .i64 x2 := by simpa using e2
      obtain ⟨v3, y3, hc3, _, ht3⟩ := hf 3 _ rfl
      obtain ⟨x3, e3, _, wf3⟩ := DataW.trod_int (by kernel_rfl) ht3
      obtain rfl : v3 = .int .i64 x3 := by simpa using e3
      refine ⟨(x0, x1, x2, x3), ⟨wf0, wf1, wf2, wf3⟩, fun j u hu => ?_⟩
      match j, hu with
      | 0, hu => obtain rfl := Option.some.inj hu; exact hc0
      | 1, hu => obtain rfl := Option.some.inj hu; exact hc1
      | 2, hu => obtain rfl := Option.some.inj hu; exact hc2
      | 3, hu => obtain rfl := Option.some.inj hu; exact hc3
      | _ + 4, hu => simp [cEvent] at hu)
    exact ⟨some a, n, _, l, rfl, hlc, hcm, hl, hr, hG⟩

end Go.Proofs.Ytdmhoabidlagmaa
