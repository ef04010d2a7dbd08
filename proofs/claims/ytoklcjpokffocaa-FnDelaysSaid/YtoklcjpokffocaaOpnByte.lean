/-
  CONTRACTS: a slice of bytes read as a list. No condition.
-/
import Derived.Test.YtoklcjpokffocaaOpen
namespace Go.Proofs.Ytoklcjpokffocaa
open Go.RowKit Go.ChangeShapes Go.WideShapes Go.Deep
set_option linter.unusedVariables false

def rByte (l : List Int) : List Value := rows (fun p => [Value.int .u8 p]) l
theorem rByte_u8 {l : List Int} (h : ∀ p ∈ l, (Lit.int .u8 p).wf = true) : ∀ v ∈ rByte l, ∃ x : Int, v = .int .u8 x ∧ 0 ≤ x ∧ x ≤ 255 := by
  intro v hv
  unfold rByte rows at hv
  rw [List.mem_flatMap] at hv
  obtain ⟨p, hp, hv⟩ := hv
  have hw := h p hp
  simp only [List.mem_singleton] at hv
  subst hv
  refine ⟨p, rfl, ?_⟩
  simp [Lit.wf, IntKind.min, IntKind.max, IntKind.bits, IntKind.signed] at hw
  omega
set_option maxRecDepth 100000 in
theorem open_ByteS {H : Type} {enc : TypeId × Value → H} {w : World} {r : Reach} {b0 : Nat} {v : Value} {d : DataW H} {p : List MemPlace}
    (hv : Value.okWide Try.prog w r b0 22 v) (h : DataW.Trod enc Try.prog w 0 (fun _ => true) true 22 v d p) :
    ∃ (A : Option Addr) (n c : Nat) (l : List Int), v = .slice A n c ∧ n ≤ c ∧ c ≤ maxLen ∧ l.length = n ∧ Rd w 0 w.heap.size 1 A n (rByte l) ∧ ∀ p ∈ l, (Lit.int .u8 p).wf = true := by
  obtain ⟨A0, n0, c0, rfl⟩ := okWide_slice Try.underlying22 hv
  obtain ⟨fuel, hf⟩ := h
  obtain ⟨A, n, c, l, hcs, h1, h2, h3, h4, h5⟩ := open1 (Value.int .u8) (fun p => (Lit.int .u8 p).wf = true) Try.underlying22 (by kernel_rfl) (fun v n y hy => by obtain ⟨m, e, _, hw⟩ := DataW.trod_int Try.underlying5 hy; exact ⟨m, by simpa using e, hw⟩) hf
  exact ⟨A, n, c, l, by simpa [Value.cells] using hcs, h1, h2, h3, h4, h5⟩

end Go.Proofs.Ytoklcjpokffocaa
