/-
  A SITE AS AN ARGUMENT: what it reads as. No condition.
-/
import Derived.Test.YtajjophmngabbaaGreatDoorOpen
import Derived.Test.YtajjophmngabbaaGreatDoorCr
namespace Go.Proofs.YtajjophmngabbaaGreatDoor
open Go.RowKit Go.ChangeShapes Go.WideShapes Go.Deep
set_option linter.unusedVariables false

set_option maxRecDepth 100000 in
theorem open_chart {H : Type} {enc : TypeId × Value → H} {w : World} {fuel : Nat} {v : Value} {x : DataW H × List MemPlace} (h : DataW.trod enc Tryz.prog w 0 (fun _ => true) true fuel 59 [v] = some x) :
    ∃ (A : Option Addr) (c : Nat) (ch : List (Int × Int)), v = .slice A ch.length c ∧ ch.length ≤ c ∧ c ≤ maxLen ∧ Rd w 0 w.heap.size 2 A ch.length (rChartStep ch) := by
  rcases open_slice_fields Tryz.underlying59 Tryz.underlying95 (by kernel_rfl) (by kernel_rfl) h with ⟨hcs, _⟩ | ⟨a, len, cap, mm, D, Pl, hcs, _, hlc, hcm, hmm, _, hel⟩
  · obtain rfl : v = .slice none 0 0 := by simpa using hcs
    exact ⟨none, 0, [], rfl, Nat.le_refl _, Nat.zero_le _, Rd.nil _ _ _ _ _⟩
  · obtain rfl : v = .slice (some a) len cap := by simpa using hcs
    simp only [if_true] at hmm
    subst hmm
    obtain ⟨l, hl, hr, _⟩ := open_rows (f := cChartStep) (m := 2) (n := len) (fun _ => rfl) (by omega) (fun _ => True) a (fun i hi => by
      obtain ⟨ys, nn, _, _, _, hf⟩ := hel i (by omega)
      simp only [Array.size] at hf
      obtain ⟨v0, y0, hc0, _, ht0⟩ := hf 0 _ rfl
      obtain ⟨x0, e0, _, wf0⟩ := DataW.trod_int (by kernel_rfl) ht0
      obtain rfl : v0 = .int .i64 x0 := by simpa using e0
      obtain ⟨v1, y1, hc1, _, ht1⟩ := hf 1 _ rfl
      obtain ⟨x1, e1, _, wf1⟩ := DataW.trod_int (by kernel_rfl) ht1
      obtain rfl : v1 = .int .i64 x1 := by simpa using e1
      refine ⟨(x0, x1), trivial, fun j u hu => ?_⟩
      match j, hu with
      | 0, hu => obtain rfl := Option.some.inj hu; exact hc0
      | 1, hu => obtain rfl := Option.some.inj hu; exact hc1
      | _ + 2, hu => simp [cChartStep] at hu)
    subst hl
    exact ⟨some a, _, l, rfl, hlc, hcm, hr⟩

set_option maxRecDepth 100000 in
theorem open_crane {H : Type} {enc : TypeId × Value → H} {w : World} {fuel : Nat} {cs : List Value} {x : DataW H × List MemPlace} (h : DataW.trod enc Tryz.prog w 0 (fun _ => true) true fuel 61 cs = some x) :
    ∃ (c : Crn) (A : Option Addr) (ci : Nat), cs = cCr c (.slice A c.ch.length ci) ∧ c.ch.length ≤ maxLen ∧ Rd w 0 w.heap.size 2 A c.ch.length (rChartStep c.ch) ∧ c.nm.size ≤ maxLen := by
  obtain ⟨ys, n, _, _, hlen, hyl, hf⟩ := DataW.trod_struct Tryz.underlying61 h
  have h7 : cs.length = 7 := hlen.trans (by kernel_rfl)
  match cs, h7 with
  | [v0, v1, v2, v3, v4, v5, v6], _ =>
    have get : ∀ i, i < 6 → ∃ y, ys[i]? = some y := fun i hi => ⟨ys[i]'(by rw [hyl]; exact hi), List.getElem?_eq_getElem _⟩
    obtain ⟨y0, g0⟩ := get 0 (by omega)
    obtain ⟨y1, g1⟩ := get 1 (by omega)
    obtain ⟨y2, g2⟩ := get 2 (by omega)
    obtain ⟨y3, g3⟩ := get 3 (by omega)
    obtain ⟨y4, g4⟩ := get 4 (by omega)
    obtain ⟨y5, g5⟩ := get 5 (by omega)
    have t0 : DataW.trod enc Tryz.prog w 0 (fun _ => true) true n _ [v0] = some y0 := (hf 0 _ rfl).trans g0
    have t1 : DataW.trod enc Tryz.prog w 0 (fun _ => true) true n _ [v1, v2] = some y1 := (hf 1 _ rfl).trans g1
    have t2 : DataW.trod enc Tryz.prog w 0 (fun _ => true) true n _ [v3] = some y2 := (hf 2 _ rfl).trans g2
    have t3 : DataW.trod enc Tryz.prog w 0 (fun _ => true) true n _ [v4] = some y3 := (hf 3 _ rfl).trans g3
    have t4 : DataW.trod enc Tryz.prog w 0 (fun _ => true) true n _ [v5] = some y4 := (hf 4 _ rfl).trans g4
    have t5 : DataW.trod enc Tryz.prog w 0 (fun _ => true) true n _ [v6] = some y5 := (hf 5 _ rfl).trans g5
    obtain ⟨s, e0, _, hs⟩ := DataW.trod_string (by kernel_rfl) t0
    obtain rfl : v0 = .string s := by simpa using e0
    obtain ⟨zs, n', _, _, _, hzl, hg⟩ := DataW.trod_struct Tryz.underlying58 t1
    have get2 : ∀ i, i < 2 → ∃ y, zs[i]? = some y := fun i hi => ⟨zs[i]'(by rw [hzl]; exact hi), List.getElem?_eq_getElem _⟩
    obtain ⟨z0, k0⟩ := get2 0 (by omega)
    obtain ⟨z1, k1⟩ := get2 1 (by omega)
    have p0 : DataW.trod enc Tryz.prog w 0 (fun _ => true) true n' _ [v1] = some z0 := (hg 0 _ rfl).trans k0
    have p1 : DataW.trod enc Tryz.prog w 0 (fun _ => true) true n' _ [v2] = some z1 := (hg 1 _ rfl).trans k1
    obtain ⟨x, e1, _, _⟩ := DataW.trod_int (by kernel_rfl) p0
    obtain rfl : v1 = .int .i64 x := by simpa using e1
    obtain ⟨y, e2, _, _⟩ := DataW.trod_int (by kernel_rfl) p1
    obtain rfl : v2 = .int .i64 y := by simpa using e2
    obtain ⟨hh, e3, _, _⟩ := DataW.trod_int (by kernel_rfl) t2
    obtain rfl : v3 = .int .i64 hh := by simpa using e3
    obtain ⟨jj, e4, _, _⟩ := DataW.trod_int (by kernel_rfl) t3
    obtain rfl : v4 = .int .i64 jj := by simpa using e4
    obtain ⟨bb, e5, _, _⟩ := DataW.trod_int (by kernel_rfl) t4
    obtain rfl : v5 = .int .i64 bb := by simpa using e5
    obtain ⟨A, ci, ch, rfl, q1, q2, q3⟩ := open_chart t5
    exact ⟨⟨s, x, y, hh, jj, bb, ch⟩, A, ci, rfl, Nat.le_trans q1 q2, q3, hs⟩

set_option maxRecDepth 100000 in
theorem open_Site {H : Type} {enc : TypeId × Value → H} {w : World} {r : Reach} {b0 : Nat} {v : Value} {d : DataW H} {p : List MemPlace}
    (hv : Value.okWide Tryz.prog w r b0 24 v) (h : DataW.Trod enc Tryz.prog w 0 (fun _ => true) true 24 v d p) :
    ∃ (A : Option Addr) (n c : Nat) (l : List Crn), v = .agg #[.slice A n c] ∧ n ≤ c ∧ c ≤ maxLen ∧ RdC w 0 w.heap.size false A n l ∧ ∀ p ∈ l, p.nm.size ≤ maxLen := by
  obtain ⟨cs, rfl, hsz⟩ := okWide_struct Tryz.underlying24 hv
  obtain ⟨cs⟩ := cs
  obtain ⟨fuel, hf0⟩ := h
  obtain ⟨ys, n1, _, _, hlen, hyl, hf⟩ := DataW.trod_struct Tryz.underlying24 hf0
  have h1 : cs.length = 1 := by simpa using hsz.trans (by kernel_rfl)
  match cs, h1 with
  | [v0], _ =>
    have t0 : DataW.trod enc Tryz.prog w 0 (fun _ => true) true n1 _ [v0] = some (ys[0]'(by rw [hyl]; exact Nat.zero_lt_one)) := (hf 0 _ rfl).trans (List.getElem?_eq_getElem _)
    rcases open_slice Tryz.underlying22 t0 with ⟨hcs, _⟩ | ⟨a, len, cap, m, n, D, Pl, hcs, _, hl, hm, hmm, _, hel⟩
    · obtain rfl : v0 = .slice none 0 0 := by simpa using hcs
      exact ⟨none, 0, 0, [], rfl, Nat.le_refl _, Nat.zero_le _, RdC.nil _ _ _ _ _, fun p hp => by cases hp⟩
    · obtain rfl : v0 = .slice (some a) len cap := by simpa using hcs
      simp only [if_true] at hmm
      subst hmm
      have hc7 : Tryz.prog.cellsOf 61 = 7 := by kernel_rfl
      obtain ⟨l, hll, hq⟩ := choose_list (fun i (c : Crn) => ∃ (A : Option Addr) (ci : Nat), (∀ j v, (cCr c (.slice A c.ch.length ci))[j]? = some v → w.cell? (a.add (i * 7 + j)) = some v) ∧ c.ch.length ≤ maxLen ∧ Rd w 0 w.heap.size 2 A c.ch.length (rChartStep c.ch) ∧ c.nm.size ≤ maxLen) len (fun i hi => by
        obtain ⟨cs', hc, ht'⟩ := hel i (by omega)
        rw [hc7] at hc
        obtain ⟨c, A, ci, rfl, q1, q2, q3⟩ := open_crane ht'
        obtain ⟨_, hcl, hat⟩ := World.cells?_some hc
        exact ⟨c, A, ci, fun j v hj => by rw [← Go.Deep.add_add, hat j (by have := (List.getElem?_eq_some_iff.1 hj).1; simpa [cCr] using this)]; exact hj, q1, q2, q3⟩)
      refine ⟨some a, len, _, l, rfl, hl, hm, ⟨hll, fun hn => ?_⟩, fun p hp => ?_⟩
      · obtain ⟨b, off, spot⟩ := a
        obtain ⟨A, ci, k1, k2, k3, _⟩ := hq 0 (by omega)
        have hc0 := k1 0 _ rfl
        have hspot : spot = none := by simpa [Addr.add] using World.cell?_spot hc0
        subst hspot
        have hb : b < w.heap.size := by
          have := World.block_lt_of_cell? w _ hc0
          rwa [Go.WideShapes.add_plain] at this
        refine ⟨b, off, rfl, Nat.zero_le _, hb, fun i hi => ?_⟩
        obtain ⟨A, ci, k1, k2, k3, _⟩ := hq i hi
        exact ⟨A, ci, fun j v hj => by rw [Nat.add_assoc, ← Go.WideShapes.add_plain]; exact k1 j v hj, k2, k3, fun e => by cases e⟩
      · obtain ⟨i, hi, rfl⟩ := List.mem_iff_getElem.1 hp
        exact (hq i hi).choose_spec.choose_spec.2.2.2
end Go.Proofs.YtajjophmngabbaaGreatDoor
