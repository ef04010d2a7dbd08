/-
  THE CHAIN OF WAITING STATES IN MEMORY. No condition but those that each theorem names.
-/
import Derived.Test.YtnbahmjimnhfbaaDoorSrch
namespace Go.Proofs.YtnbahmjimnhfbaaDoor
open Go.RowKit
set_option linter.unusedVariables false

/-- The pointer to the k-th node, or nil. -/
def ptrAt (ns : List Nat) (k : Nat) : Option Addr := (ns[k]?).map fun g => ⟨g, 0, none⟩
theorem ptrAt_some {ns : List Nat} {k g : Nat} (h : ns[k]? = some g) : ptrAt ns k = some ⟨g, 0, none⟩ := by unfold ptrAt; rw [h]; rfl
theorem ptrAt_none {ns : List Nat} {k : Nat} (h : ns.length ≤ k) : ptrAt ns k = none := by unfold ptrAt; rw [List.getElem?_eq_none h]; rfl
/-- A chain of nodes that hold states: each node's row, and its pointer to the next one. -/
structure NOk (w : World) (B0 H1 : Nat) (ns : List Nat) (Q : List (Int × Int)) : Prop where
  len : ns.length = Q.length
  inj : ∀ (i j g : Nat), ns[i]? = some g → ns[j]? = some g → i = j
  node : ∀ (i g : Nat) (q : Int × Int), ns[i]? = some g → Q[i]? = some q → H1 ≤ g ∧ g < w.heap.size ∧ Fz w g ∧
    ∃ b off c, Box w g [.slice (some ⟨b, off, none⟩) 2 c, .pointer (ptrAt ns (i + 1))] ∧ (b < B0 ∨ H1 ≤ b) ∧ b < w.heap.size ∧ w.cell? ⟨b, off, none⟩ = some (.int .i64 q.1) ∧ w.cell? ⟨b, off + 1, none⟩ = some (.int .i64 q.2)
section
variable {w w' : World} {B0 H1 : Nat} {ns : List Nat} {Q : List (Int × Int)}
theorem NOk.keep (h : NOk w B0 H1 ns Q) (hs : w.heap.size ≤ w'.heap.size) (hc : ∀ p : Addr, (p.block < B0 ∨ H1 ≤ p.block) → p.block < w.heap.size → w'.cell? p = w.cell? p) (hf : ∀ p : Addr, H1 ≤ p.block → p.block < w.heap.size → w'.frozen? p = w.frozen? p) : NOk w' B0 H1 ns Q := by
  refine ⟨h.len, h.inj, fun i g q hg hq => ?_⟩
  obtain ⟨h1, h2, h3, b, off, c, hb, hb1, hb2, c0, c1⟩ := h.node i g q hg hq
  exact ⟨h1, by omega, fun j => (hf ⟨g, j, none⟩ h1 h2).trans (h3 j), b, off, c, fun j v hv => (hc ⟨g, j, none⟩ (.inr h1) h2).trans (hb j v hv), hb1, by omega, (hc ⟨b, off, none⟩ hb1 hb2).trans c0, (hc ⟨b, off + 1, none⟩ hb1 hb2).trans c1⟩
theorem NOk.below (h : NOk w B0 H1 ns Q) (hb : Below w.heap.size w w') : NOk w' B0 H1 ns Q := h.keep hb.size (fun p _ hp => hb.cell hp) (fun p _ hp => hb.frozen hp)
theorem NOk.at_ (h : NOk w B0 H1 ns Q) {i g : Nat} {q : Int × Int} (hg : ns[i]? = some g) (hq : Q[i]? = some q) : H1 ≤ g ∧ g < w.heap.size ∧ w.frozen? ⟨g, 1, none⟩ = false ∧
    ∃ b off c, w.cell? ⟨g, 0, none⟩ = some (.slice (some ⟨b, off, none⟩) 2 c) ∧ w.cell? ⟨g, 1, none⟩ = some (.pointer (ptrAt ns (i + 1))) ∧ (b < B0 ∨ H1 ≤ b) ∧ b < w.heap.size ∧ w.cell? ⟨b, off, none⟩ = some (.int .i64 q.1) ∧ w.cell? ⟨b, off + 1, none⟩ = some (.int .i64 q.2) := by
  obtain ⟨h1, h2, h3, b, off, c, hb, hb1, hb2, c0, c1⟩ := h.node i g q hg hq
  exact ⟨h1, h2, h3 1, b, off, c, hb 0 _ rfl, hb 1 _ rfl, hb1, hb2, c0, c1⟩
/-- A state is put to the chain's end. -/
theorem NOk.snoc (h : NOk w B0 H1 ns Q) {m gz b off c : Nat} {q : Int × Int} {TW : TypeId} (hm : Q.length = m) (hm0 : 0 < m) (hz : ns[m - 1]? = some gz) (hH : H1 ≤ w.heap.size) (hb1 : b < B0 ∨ H1 ≤ b) (hb2 : b < w.heap.size) (c0 : w.cell? ⟨b, off, none⟩ = some (.int .i64 q.1)) (c1 : w.cell? ⟨b, off + 1, none⟩ = some (.int .i64 q.2)) :
    NOk ((w.alloc (.cells #[.slice (some ⟨b, off, none⟩) 2 c, .pointer none] TW)).setCell ⟨gz, 1, none⟩ (.pointer (some ⟨w.heap.size, 0, none⟩))) B0 H1 (ns ++ [w.heap.size]) (Q ++ [q]) := by
  have hl : ns.length = m := by rw [h.len, hm]
  obtain ⟨qz, hqz⟩ : ∃ qz, Q[m - 1]? = some qz := ⟨_, List.getElem?_eq_getElem (by omega)⟩
  obtain ⟨z1, z2, z3, zb, zo, zc, zbox, _, _, _, _⟩ := h.node (m - 1) gz qz hz hqz
  rw [ptrAt_none (by omega)] at zbox
  have hp : w.cell? ⟨gz, 1, none⟩ = some (.pointer none) := zbox 1 _ rfl
  have keepc : ∀ (p : Addr) (x : Int), p.block < w.heap.size → w.cell? p = some (.int .i64 x) → ((w.alloc (.cells #[.slice (some ⟨b, off, none⟩) 2 c, .pointer none] TW)).setCell ⟨gz, 1, none⟩ (.pointer (some ⟨w.heap.size, 0, none⟩))).cell? p = some (.int .i64 x) := by
    intro p x hpb hpx
    rw [World.cell?_setCell_other]
    · exact (World.cell?_alloc_lt w _ p hpb).trans hpx
    · intro e; rw [← e, hp] at hpx; cases hpx
  have hsz : ((w.alloc (.cells #[.slice (some ⟨b, off, none⟩) 2 c, .pointer none] TW)).setCell ⟨gz, 1, none⟩ (.pointer (some ⟨w.heap.size, 0, none⟩))).heap.size = w.heap.size + 1 := by rw [setCell_size]; simp
  have old : ∀ (i g : Nat), ns[i]? = some g → g < w.heap.size := fun i g hg => by
    have hi : i < Q.length := by rw [← h.len]; exact (List.getElem?_eq_some_iff.1 hg).1
    exact (h.node i g _ hg (List.getElem?_eq_getElem hi)).2.1
  refine ⟨by simp [h.len], fun i j g hi hj => ?_, fun i g r hg hr => ?_⟩
  · rcases Nat.lt_or_ge i ns.length with a | a <;> rcases Nat.lt_or_ge j ns.length with d | d
    · rw [List.getElem?_append_left a] at hi; rw [List.getElem?_append_left d] at hj; exact h.inj i j g hi hj
    · rw [List.getElem?_append_left a] at hi; rw [List.getElem?_append_right d] at hj
      have := old i g hi
      have e : j - ns.length = 0 := by have := (List.getElem?_eq_some_iff.1 hj).1; simp at this; omega
      rw [e] at hj; simp at hj; omega
    · rw [List.getElem?_append_right a] at hi; rw [List.getElem?_append_left d] at hj
      have := old j g hj
      have e : i - ns.length = 0 := by have := (List.getElem?_eq_some_iff.1 hi).1; simp at this; omega
      rw [e] at hi; simp at hi; omega
    · have e1 := (List.getElem?_eq_some_iff.1 hi).1
      have e2 := (List.getElem?_eq_some_iff.1 hj).1
      simp at e1 e2; omega
  · rw [hsz]
    rcases Nat.lt_or_ge i ns.length with a | a
    · rw [List.getElem?_append_left a] at hg
      rw [List.getElem?_append_left (by rw [← h.len]; exact a)] at hr
      obtain ⟨h1, h2, h3, b', off', c', hbx, hb1', hb2', d0, d1⟩ := h.node i g r hg hr
      refine ⟨h1, by omega, (h3.alloc h2 _).set _ _, b', off', c', ?_, hb1', by omega, keepc _ _ hb2' d0, keepc _ _ hb2' d1⟩
      by_cases e : i = m - 1
      · subst e
        obtain rfl : g = gz := Option.some.inj (hg.symm.trans hz)
        have hn : ptrAt (ns ++ [w.heap.size]) (m - 1 + 1) = some ⟨w.heap.size, 0, none⟩ := ptrAt_some (by rw [List.getElem?_append_right (by omega)]; simp [show m - 1 + 1 - ns.length = 0 by omega])
        rw [hn]
        have := (hbx.alloc h2 (.cells #[.slice (some ⟨b, off, none⟩) 2 c, .pointer none] TW)).put 1 (.pointer (some ⟨w.heap.size, 0, none⟩)) (by simp)
        simpa using this
      · have hn : ptrAt (ns ++ [w.heap.size]) (i + 1) = ptrAt ns (i + 1) := by
          unfold ptrAt; rw [List.getElem?_append_left (by omega)]
        rw [hn]
        exact (hbx.alloc h2 _).far _ _ (by intro e2; exact e (h.inj i (m - 1) g hg (by rw [hz]; exact congrArg some e2)))
    · have e : i - ns.length = 0 := by have := (List.getElem?_eq_some_iff.1 hg).1; simp at this; omega
      rw [List.getElem?_append_right a, e] at hg
      rw [List.getElem?_append_right (by rw [← h.len]; exact a), ← h.len, e] at hr
      obtain rfl : w.heap.size = g := by simpa using hg
      obtain rfl : q = r := by simpa using hr
      have hn : ptrAt (ns ++ [w.heap.size]) (i + 1) = none := ptrAt_none (by simp; omega)
      rw [hn]
      refine ⟨hH, by omega, (fz_at w _ _ _ rfl).set _ _, b, off, c, ?_, hb1, by omega, keepc _ _ hb2 c0, keepc _ _ hb2 c1⟩
      exact (box_at w #[.slice (some ⟨b, off, none⟩) 2 c, .pointer none] TW w.heap.size rfl).far _ _ (by show gz ≠ w.heap.size; omega)
theorem n_start {b off c : Nat} {x y : Int} {TW : TypeId} (hH : H1 ≤ w.heap.size) (hb1 : b < B0) (hb2 : b < w.heap.size) (c0 : w.cell? ⟨b, off, none⟩ = some (.int .i64 x)) (c1 : w.cell? ⟨b, off + 1, none⟩ = some (.int .i64 y)) :
    NOk (w.alloc (.cells #[.slice (some ⟨b, off, none⟩) 2 c, .pointer none] TW)) B0 H1 [w.heap.size] [(x, y)] := by
  refine ⟨rfl, fun i j g hi hj => ?_, fun i g q hg hq => ?_⟩
  · have e1 := (List.getElem?_eq_some_iff.1 hi).1
    have e2 := (List.getElem?_eq_some_iff.1 hj).1
    simp at e1 e2; omega
  · have e : i = 0 := by have := (List.getElem?_eq_some_iff.1 hg).1; simpa using this
    subst e
    obtain rfl : w.heap.size = g := by simpa using hg
    obtain rfl : (x, y) = q := by simpa using hq
    exact ⟨hH, by simp, fz_at w _ _ _ rfl, b, off, c, box_at w #[.slice (some ⟨b, off, none⟩) 2 c, .pointer none] TW w.heap.size rfl, .inl hb1, by simp; omega, (World.cell?_alloc_lt w _ ⟨b, off, none⟩ hb2).trans c0, (World.cell?_alloc_lt w _ ⟨b, off + 1, none⟩ hb2).trans c1⟩
theorem rd_of_cells {b off : Nat} {x y : Int} (hb : b < w.heap.size) (c0 : w.cell? ⟨b, off, none⟩ = some (.int .i64 x)) (c1 : w.cell? ⟨b, off + 1, none⟩ = some (.int .i64 y)) : Rd w 0 w.heap.size 1 (some ⟨b, off, none⟩) 2 (rInt64 [x, y]) := by
  refine ⟨rfl, fun _ => ⟨b, off, rfl, Nat.zero_le _, hb, fun j u hu => ?_⟩⟩
  match j, hu with
  | 0, hu => obtain rfl := Option.some.inj hu; exact c0
  | 1, hu => obtain rfl := Option.some.inj hu; exact c1
  | _ + 2, hu => simp [rInt64, rows, cInt64] at hu
end
end Go.Proofs.YtnbahmjimnhfbaaDoor
