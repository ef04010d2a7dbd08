/-
  THE TABLE OF QUARTERS out of the row's condition: the variable's cells are these numbers. No condition but those that each theorem names.
-/
import Derived.Test.YtajjophmngabbaaGreatDoorGi6
import Derived.LaidLaws
import Derived.ChangeSame
import Derived.OpenShut
namespace Go.Proofs.YtajjophmngabbaaGreatDoor
open Go.ChangeShapes Go.RowKit
set_option linter.unusedVariables false

/-- The datum of an array of pairs of numbers. -/
def pairsD {H : Type} (ps : List (Int × Int)) : DataW H := .agg (ps.map fun q => .agg [.lit (.int .i64 q.1), .lit (.int .i64 q.2)])
theorem cellsPt : Tryz.prog.cellsOf 42 = 2 := by kernel_rfl
theorem cellsI : Tryz.prog.cellsOf 2 = 1 := by kernel_rfl
set_option maxRecDepth 100000 in
theorem pair_cells {H : Type} {enc : TypeId × Value → H} {w : World} {base : Nat} {sp : Nat → Bool} {held : Bool} {fuel : Nat} {cs : List Value} {p : List MemPlace} {x y : Int}
    (h : DataW.trod enc Tryz.prog w base sp held fuel 42 cs = some (.agg [.lit (.int .i64 x), .lit (.int .i64 y)], p)) : cs = [.int .i64 x, .int .i64 y] := by
  obtain ⟨y0, y1, n, hx, hl, h0, h1⟩ := trod_struct2 (Tryz.underlying42) h
  injection hx with hx _
  injection hx with hx
  injection hx with e0 hx
  injection hx with e1 _
  obtain ⟨n0, hc0, hy0, _⟩ := DataW.trod_int (Tryz.underlying2) h0
  obtain ⟨n1, hc1, hy1, _⟩ := DataW.trod_int (Tryz.underlying2) h1
  rw [hy0] at e0
  rw [hy1] at e1
  injection e0 with e0
  injection e0 with _ e0
  injection e1 with e1
  injection e1 with _ e1
  subst e0 e1
  have h2 : cs.length = 2 := hl.trans cellsPt
  simp only [cellsI] at hc0 hc1
  match cs, h2 with
  | [a, b], _ =>
    have q0 : [a] = [Value.int .i64 x] := hc0
    have q1 : [b] = [Value.int .i64 y] := hc1
    injection q0 with q0 _
    injection q1 with q1 _
    rw [q0, q1]
theorem pairs_cells {H : Type} {enc : TypeId × Value → H} {w : World} {base : Nat} {sp : Nat → Bool} {held : Bool} {fuel : Nat} {cs : List Value} {p : List MemPlace} {ps : List (Int × Int)}
    (h : DataW.trod enc Tryz.prog w base sp held fuel 123 cs = some (pairsD ps, p)) : ∀ k, k < ps.length → k < 6 → cs[k * 2]? = some (.int .i64 (ps.getD k (0, 0)).1) ∧ cs[k * 2 + 1]? = some (.int .i64 (ps.getD k (0, 0)).2) := by
  obtain ⟨xs, m, _, hx, hl, hlen, hf⟩ := DataW.trod_array (Tryz.underlying123) h
  injection hx with hx _
  unfold pairsD at hx
  injection hx with hx
  intro k hk hk6
  have hfk := hf k hk6
  have hxk : k < xs.length := by omega
  rw [List.getElem?_eq_getElem hxk] at hfk
  have e1 : (xs.map (·.1))[k]? = some xs[k].1 := by rw [List.getElem?_map, List.getElem?_eq_getElem hxk]; rfl
  rw [← hx, List.getElem?_map, List.getElem?_eq_getElem hk] at e1
  have e2 := Option.some.inj e1
  have hz : xs[k] = (xs[k].1, xs[k].2) := rfl
  rw [hz, ← e2] at hfk
  have hcs := pair_cells hfk
  have hg : ps.getD k (0, 0) = ps[k] := by simp [List.getD, hk]
  rw [hg]
  have hcs2 : (cs.drop (k * 2)).take 2 = [.int .i64 ps[k].1, .int .i64 ps[k].2] := by rw [cellsPt] at hcs; exact hcs
  have a0 : ((cs.drop (k * 2)).take 2)[0]? = some (.int .i64 ps[k].1) := by rw [hcs2]; rfl
  have a1 : ((cs.drop (k * 2)).take 2)[1]? = some (.int .i64 ps[k].2) := by rw [hcs2]; rfl
  rw [List.getElem?_take_of_lt (by omega), List.getElem?_drop] at a0 a1
  exact ⟨a0, a1⟩
theorem gQuarter : Tryz.prog.globalNamed "loop.example/g00932/impl.quarter" = some 0 := by kernel_rfl
theorem gQuarterType : (Tryz.prog.globals[0]?).map (·.type) = some 123 := by kernel_rfl
theorem Tq.laid {W : World} {rest : List (String × DataW Unit)} (h : laidMet Tryz.prog (("loop.example/g00932/impl.quarter", pairsD vqT) :: rest) W) : Tq W := by
  obtain ⟨ps, ⟨g', t', cs, fuel, p, q, hg', ht', hvar, hd, _, _⟩, _⟩ := h
  obtain rfl := Option.some.inj (gQuarter.symm.trans hg')
  obtain rfl := Option.some.inj (gQuarterType.symm.trans ht')
  have hk := pairs_cells hd
  refine ⟨?_, fun k hk6 => ?_⟩
  · rcases Nat.lt_or_ge 0 W.heap.size with h | h
    · exact h
    · exfalso
      simp only [World.var?, gQuarter, Option.bind_some] at hvar
      rw [Array.getElem?_eq_none (by omega)] at hvar
      cases hvar
  · have hlen : k < vqT.length := by simpa [vqT] using hk6
    obtain ⟨a0, a1⟩ := hk k hlen hk6
    exact ⟨(World.var?_cell gQuarter hvar (k * 2)).trans (by simpa using a0), (World.var?_cell gQuarter hvar (k * 2 + 1)).trans (by simpa using a1)⟩
end Go.Proofs.YtajjophmngabbaaGreatDoor
