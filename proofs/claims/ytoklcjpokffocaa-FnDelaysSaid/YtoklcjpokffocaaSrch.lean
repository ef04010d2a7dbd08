/-
  THE SEARCH IN MEMORY: the lengths found so far, the queue of states, the chain of waiting states. No condition but those that each theorem names.
-/
import Derived.Test.YtoklcjpokffocaaNext
import Derived.Maps.AppendAt
namespace Go.Proofs.Ytoklcjpokffocaa
open Go.RowKit
set_option linter.unusedVariables false

theorem rr_dset (D : List (List Int)) (a b : Nat) (x : Int) : rrInt64 (dset D a b x) = (rrInt64 D).set a (((rrInt64 D).getD a []).set b (.int .i64 x)) := by
  unfold dset
  rw [rrInt64_at]
  unfold rrInt64
  rw [List.map_set, Int.toNat_natCast, Int.toNat_natCast]
  congr 1
  have hr : ∀ l : List Int, rInt64 l = l.map (Value.int .i64) := fun l => by
    unfold rInt64 rows cInt64
    induction l with
    | nil => rfl
    | cons a l ih => simp [ih]
  rw [hr, hr, List.map_set]
theorem rInt64_map (l : List Int) : rInt64 l = l.map (Value.int .i64) := by
  unfold rInt64 rows cInt64
  induction l with
  | nil => rfl
  | cons a l ih => simp [ih]
theorem getD_lt (R : List Int) (b : Nat) (h : b < R.length) : R[b]? = some (R.getD b 0) := by simp [List.getD, h]
section
variable {w w' : World} {lo hi n : Nat} {E T : TypeId} {v : Value}

/-- The cells that 'out[a][b]' reads, and what a store into it does. -/
theorem dcell {gv cv : Nat} {D : List (List Int)} (h : OwnSS w lo hi T E (.slice (some ⟨gv, 0, none⟩) 24 cv) 24 (rrInt64 D)) (hne : T ≠ E) (hw : hi ≤ w.heap.size) (ok : OkD D) (a b : Nat) (ha : a < 24) (hb : b < 24) :
    lo ≤ gv ∧ gv < hi ∧ ∃ g c, lo ≤ g ∧ g < hi ∧ w.cell? ⟨gv, a, none⟩ = some (.slice (some ⟨g, 0, none⟩) 24 c) ∧ w.cell? ⟨g, b, none⟩ = some (.int .i64 (dget D a b)) ∧ w.frozen? ⟨g, b, none⟩ = false ∧
      ∀ x, OwnSS (w.setCell ⟨g, b, none⟩ (.int .i64 x)) lo hi T E (.slice (some ⟨gv, 0, none⟩) 24 cv) 24 (rrInt64 (dset D a b x)) := by
  have hl : (D.getD a []).length = 24 := ok.2 a ha
  have hr : ((rrInt64 D).getD a []) = rInt64 (D.getD a []) := rrInt64_at D a
  obtain ⟨gv', cv', g, c, e, v1, v2, g1, g2, kc, kf, kr, krf, kput, _⟩ := h.row_ hne hw (i := a) ha (by rw [hr, rInt64_len1, hl]; omega)
  injection e with e1 e2 e3
  injection e1 with e1
  injection e1 with e1
  subst e1
  subst e3
  rw [hr] at kc kr
  rw [rInt64_len1, hl] at kc
  refine ⟨v1, v2, g, c, g1, g2, kc, kr b _ ?_, krf b, fun x => ?_⟩
  · rw [rInt64_map, List.getElem?_map]
    unfold dget
    rw [Int.toNat_natCast, Int.toNat_natCast]
    have hb' : b < (D.getD a []).length := by omega
    rw [getD_lt _ _ hb']
    rfl
  · rw [rr_dset]
    exact kput b _

/-- A queue of states: the slice's own array, and a row of two numbers for each state. -/
def QOk (w : World) (lo : Nat) (T E : TypeId) (v : Value) (n : Nat) (Q : List (Int × Int)) : Prop :=
  ∃ us : List Value, Own w lo w.heap.size T 1 v n us ∧ us.length = Q.length ∧ ∀ (i : Nat) (q : Int × Int), Q[i]? = some q → ∃ u, us[i]? = some u ∧ Own w lo w.heap.size E 1 u 2 (rInt64 (pr2 q))
theorem QOk.keep {Q : List (Int × Int)} (h : QOk w lo T E v n Q) (hs : w.heap.size ≤ w'.heap.size) (hk : ∀ g, lo ≤ g → g < w.heap.size → w'.heap[g]? = w.heap[g]?) : QOk w' lo T E v n Q := by
  obtain ⟨us, h1, h2, h3⟩ := h
  refine ⟨us, (h1.of_block fun g hg => hk g (h1.lt g hg).1 (h1.lt g hg).2.2).mono (Nat.le_refl _) hs, h2, fun i q hq => ?_⟩
  obtain ⟨u, hu, ho⟩ := h3 i q hq
  exact ⟨u, hu, (ho.of_block fun g hg => hk g (ho.lt g hg).1 (ho.lt g hg).2.2).mono (Nat.le_refl _) hs⟩
theorem QOk.len {Q : List (Int × Int)} (h : QOk w lo T E v n Q) : Q.length = n := by
  obtain ⟨us, h1, h2, h3⟩ := h
  rw [← h2]; simpa using h1.length
theorem row2_cells {u : Value} {q : Int × Int} (h : Own w lo hi E 1 u 2 (rInt64 (pr2 q))) : ∃ g c, u = .slice (some ⟨g, 0, none⟩) 2 c ∧ lo ≤ g ∧ g < hi ∧ w.cell? ⟨g, 0, none⟩ = some (.int .i64 q.1) ∧ w.cell? ⟨g, 1, none⟩ = some (.int .i64 q.2) := by
  obtain ⟨g, c, rfl⟩ := Joins.ownsRow_form h.1 (by omega)
  have hl := h.lt g rfl
  exact ⟨g, c, rfl, hl.1, hl.2.1, (h.1.cellAt 0 (by omega)).trans rfl, (h.1.cellAt 1 (by omega)).trans rfl⟩
theorem QOk.at_ {Q : List (Int × Int)} (h : QOk w lo T E v n Q) {i : Nat} {q : Int × Int} (hq : Q[i]? = some q) :
    ∃ gq cq g c, v = .slice (some ⟨gq, 0, none⟩) n cq ∧ lo ≤ gq ∧ gq < w.heap.size ∧ w.cell? ⟨gq, i, none⟩ = some (.slice (some ⟨g, 0, none⟩) 2 c) ∧ w.cell? ⟨g, 0, none⟩ = some (.int .i64 q.1) ∧ w.cell? ⟨g, 1, none⟩ = some (.int .i64 q.2) := by
  have hn := h.len
  obtain ⟨us, h1, h2, h3⟩ := h
  have hi : i < Q.length := (List.getElem?_eq_some_iff.1 hq).1
  obtain ⟨u, hu, ho⟩ := h3 i q hq
  obtain ⟨g, c, rfl, _, _, c0, c1⟩ := row2_cells ho
  obtain ⟨gq, cq, rfl⟩ := Joins.ownsRow_form h1.1 (by omega)
  have hl := h1.lt gq rfl
  exact ⟨gq, cq, g, c, rfl, hl.1, hl.2.1, (h1.1.cellAt i (by omega)).trans hu, c0, c1⟩
/-- A state is put to the queue. -/
theorem QOk.snoc {w1 : World} {us : List Value} {u v' : Value} {q : Int × Int} {c0 : Array Value} {Q : List (Int × Int)} (hne : T ≠ E) (h1 : Own w lo w.heap.size T 1 v n us) (h2 : us.length = Q.length)
    (h3 : ∀ (i : Nat) (q : Int × Int), Q[i]? = some q → ∃ u, us[i]? = some u ∧ Own w lo w.heap.size E 1 u 2 (rInt64 (pr2 q))) (hnew : Own w lo w.heap.size E 1 u 2 (rInt64 (pr2 q)))
    (hg : (w.alloc (.cells c0 T)).grownBy w1 v.ownBlock) (ho1 : w1.ownsRow lo T 1 v' (n + 1) (us ++ [u])) : QOk w1 lo T E v' (n + 1) (Q ++ [q]) := by
  have hsz := hg.size
  simp at hsz
  have keep : ∀ x (r : List Value) m, Own w lo w.heap.size E 1 x m r → Own w1 lo w1.heap.size E 1 x m r := fun x r m ho => by
    refine (ho.of_block fun g hgx => ?_).mono (Nat.le_refl _) (by omega)
    have hlt := (ho.lt g hgx).2.2
    have hnn := own_ne ho.1 h1.1 (fun e => hne e.symm) g hgx
    have hb : Below w.heap.size w (w.alloc (.cells c0 T)) := (Below.refl _ _).alloc (Nat.le_refl _) _
    exact (hg.block g (by simp; omega) (fun e => hnn e.symm)).trans (hb.block g hlt)
  refine ⟨us ++ [u], Own.of_owns ho1, by simp [h2], fun i r hr => ?_⟩
  rcases Nat.lt_or_ge i Q.length with hi | hi
  · rw [List.getElem?_append_left hi] at hr
    obtain ⟨x, hx, ho⟩ := h3 i r hr
    exact ⟨x, by rw [List.getElem?_append_left (by omega)]; exact hx, keep _ _ _ ho⟩
  · rw [List.getElem?_append_right hi] at hr
    have hi0 : i - Q.length = 0 := by
      have := (List.getElem?_eq_some_iff.1 hr).1
      simp at this; omega
    rw [hi0] at hr
    obtain rfl : q = r := by simpa using hr
    exact ⟨u, by rw [List.getElem?_append_right (by omega), h2, hi0]; rfl, keep _ _ _ hnew⟩
theorem OwnSS.keepb {rs : List (List Value)} (h : OwnSS w lo hi T E v n rs) (hk : ∀ g, lo ≤ g → g < hi → g < w.heap.size → w'.heap[g]? = w.heap[g]?) : OwnSS w' lo hi T E v n rs := by
  obtain ⟨us, h1, h2⟩ := h
  exact ⟨us, h1.of_block fun g hg => hk g (h1.lt g hg).1 (h1.lt g hg).2.1 (h1.lt g hg).2.2, h2.of_block hk⟩
/-- The j-th row of a list of states. -/
theorem ss_at {L : List (Int × Int)} (h : OwnSS w lo hi T E v n (rrInt64 (L.map pr2))) {j : Nat} (hj : j < L.length) :
    ∃ us u, Own w lo hi T 1 v n us ∧ us[j]? = some u ∧ Own w lo hi E 1 u 2 (rInt64 (pr2 L[j])) := by
  obtain ⟨us, h1, h2⟩ := h
  have hl : us.length = L.length := by rw [h2.len]; simp [rrInt64]
  refine ⟨us, us[j]'(by omega), h1, List.getElem?_eq_getElem (by omega), ?_⟩
  exact h2.row j _ (rInt64 (pr2 L[j])) (List.getElem?_eq_getElem (by omega)) (by simp [rrInt64, hj])
theorem ss_at2 {L : List (Int × Int)} (h : OwnSS w lo hi T E v n (rrInt64 (L.map pr2))) {j : Nat} (hj : j < L.length) :
    ∃ gl cl g c, v = .slice (some ⟨gl, 0, none⟩) n cl ∧ lo ≤ gl ∧ gl < hi ∧ w.cell? ⟨gl, j, none⟩ = some (.slice (some ⟨g, 0, none⟩) 2 c) ∧ lo ≤ g ∧ g < hi ∧ w.cell? ⟨g, 0, none⟩ = some (.int .i64 L[j].1) ∧ w.cell? ⟨g, 1, none⟩ = some (.int .i64 L[j].2) ∧
      Own w lo hi E 1 (.slice (some ⟨g, 0, none⟩) 2 c) 2 (rInt64 (pr2 L[j])) := by
  have hn := h.length
  rw [rrInt64_len, List.length_map] at hn
  obtain ⟨us, u, h1, hu, ho⟩ := ss_at h hj
  obtain ⟨g, c, rfl, g1, g2, c0, c1⟩ := row2_cells ho
  obtain ⟨gl, cl, rfl⟩ := Joins.ownsRow_form h1.1 (by omega)
  have hl := h1.lt gl rfl
  exact ⟨gl, cl, g, c, rfl, hl.1, hl.2.1, (h1.1.cellAt j (by omega)).trans hu, g1, g2, c0, c1, ho⟩
end
theorem expandTo_no {T : List (List Bool)} {s : List (List Int) × List (Int × Int)} {p : Int × Int} {k : Nat} (h : k < (nxt T p.1 p.2).length) (hn : ¬ dget (expandTo T s p k).1 (nxt T p.1 p.2)[k].1 (nxt T p.1 p.2)[k].2 < 0) : expandTo T s p (k + 1) = expandTo T s p k := by
  rw [expandTo_succ T s p k h]; unfold visit; rw [if_neg hn]
theorem expandTo_yes {T : List (List Bool)} {s : List (List Int) × List (Int × Int)} {p : Int × Int} {k : Nat} (h : k < (nxt T p.1 p.2).length) (hn : dget (expandTo T s p k).1 (nxt T p.1 p.2)[k].1 (nxt T p.1 p.2)[k].2 < 0) :
    expandTo T s p (k + 1) = (dset (expandTo T s p k).1 (nxt T p.1 p.2)[k].1 (nxt T p.1 p.2)[k].2 (dget (expandTo T s p k).1 p.1 p.2 + 1), (expandTo T s p k).2 ++ [(nxt T p.1 p.2)[k]]) := by
  rw [expandTo_succ T s p k h]; unfold visit; rw [if_pos hn]
theorem expandTo_zero (T : List (List Bool)) (s : List (List Int) × List (Int × Int)) (p : Int × Int) : expandTo T s p 0 = s := by simp [expandTo]
/-- The queue at the start. -/
theorem q_start {E T : TypeId} (w : World) (lo : Nat) (x y : Int) (hne : T ≠ E) (hlo : lo ≤ w.heap.size) :
    QOk ((w.alloc (.cells #[.int .i64 x, .int .i64 y] E)).alloc (.cells #[.slice (some ⟨w.heap.size, 0, none⟩) 2 2] T)) lo T E (.slice (some ⟨w.heap.size + 1, 0, none⟩) 1 1) 1 [(x, y)] := by
  refine ⟨[.slice (some ⟨w.heap.size, 0, none⟩) 2 2], ?_, rfl, fun i q hq => ?_⟩
  · have h := own_of_block (w := (w.alloc (.cells #[.int .i64 x, .int .i64 y] E)).alloc (.cells #[.slice (some ⟨w.heap.size, 0, none⟩) 2 2] T)) (lo := lo) (hi := w.heap.size + 2) (r := [.slice (some ⟨w.heap.size, 0, none⟩) 2 2]) (E := T) (heap_alloc_new _ _) (by simp; omega) (by simp) (by simp [maxLen])
    simpa using h
  · have hi : i = 0 := by
      have := (List.getElem?_eq_some_iff.1 hq).1
      simpa using this
    subst hi
    obtain rfl : (x, y) = q := by simpa using hq
    refine ⟨_, rfl, ?_⟩
    have h := (own_lit2 w x y E).below ((Below.refl _ _).alloc (Nat.le_refl _) (.cells #[.slice (some ⟨w.heap.size, 0, none⟩) 2 2] T)) (by simp)
    exact h.mono hlo (by simp)
theorem below_drew (B : Nat) (w : World) : Below B w w.drew := Joins.below_draws B w 1
theorem OwnSS.drewd {w : World} {lo hi n : Nat} {T E : TypeId} {v : Value} {rs : List (List Value)} (h : OwnSS w lo hi T E v n rs) : OwnSS w.drew lo hi T E v n rs := h.below (below_drew hi w) (Nat.le_refl _)
theorem QOk.drewd {w : World} {lo n : Nat} {T E : TypeId} {v : Value} {Q : List (Int × Int)} (h : QOk w lo T E v n Q) : QOk w.drew lo T E v n Q := h.keep (Nat.le_refl _) (fun _ _ _ => rfl)
theorem setCell_block (w : World) (a : Addr) (v : Value) (g : Nat) (h : g ≠ a.block) : (w.setCell a v).heap[g]? = w.heap[g]? := Below.heap_setCell _ _ _ _ h
theorem setCell_size (w : World) (a : Addr) (v : Value) : (w.setCell a v).heap.size = w.heap.size := by simp [World.setCell]
theorem st_nat {q : Int × Int} (h : stOk q) : ∃ a b : Nat, q = ((a : Int), (b : Int)) ∧ a < 24 ∧ b < 24 := by
  obtain ⟨⟨h1, h2⟩, h3, h4⟩ := h
  exact ⟨q.1.toNat, q.2.toNat, by ext <;> simp <;> omega, by omega, by omega⟩
/-- The first k rows of the lengths before the search. -/
def negs (k : Nat) : List (List Int) := List.replicate k (List.replicate 24 (-1))
theorem negs_succ (k : Nat) : negs (k + 1) = negs k ++ [List.replicate 24 (-1)] := by unfold negs; exact List.replicate_succ'
theorem negs_all : negs 24 = blank := rfl
theorem rneg_at (j : Nat) (h : j < 24) : (rInt64 (List.replicate 24 (-1)))[j]? = some (.int .i64 (-1)) := by
  rw [rInt64_map, List.getElem?_map, List.getElem?_replicate, if_pos h]; rfl
end Go.Proofs.Ytoklcjpokffocaa
