/-
  A SLICE OF SLICES UNDER CONSTRUCTION, over any program: a row is appended, a row is written in place, a row is replaced. No condition.
-/
import Derived.Test.YtoklcjpokffocaaBox
namespace Go.Proofs.Ytoklcjpokffocaa
open Go.RowKit
set_option linter.unusedVariables false
section
variable {w w' : World} {lo hi n : Nat} {rs : List (List Value)} {us : List Value} {E T : TypeId} {v : Value}

/-- Rows stay where their own blocks stay. -/
theorem Rows.of_rows (h : Rows w lo hi E us rs) (hk : ∀ (i : Nat) (u : Value) (g : Nat), us[i]? = some u → u.ownBlock = some g → w'.heap[g]? = w.heap[g]?) : Rows w' lo hi E us rs :=
  ⟨h.len, fun i u r h1 h2 => (h.row i u r h1 h2).of_block fun g hg => hk i u g h1 hg, h.far⟩
theorem own_of_block {g lo hi : Nat} {r : List Value} {E : TypeId} (hb : w.heap[g]? = some (.cells r.toArray E (0, 0))) (h1 : lo ≤ g) (h2 : g < hi) (hm : r.length ≤ maxLen) : Own w lo hi E 1 (.slice (some ⟨g, 0, none⟩) r.length r.length) r.length r :=
  ⟨⟨by simp, .inr ⟨g, r.length, r.toArray, rfl, h1, hb, Nat.le_refl _, hm, by simp, by simp⟩⟩, fun k hk => by simp only [Value.ownBlock, Option.some.injEq] at hk; subst hk; exact h2⟩

/-- A fresh row is appended. -/
theorem ss_snoc {wr w1 : World} {v' : Value} {r : List Value} {c0 : Array Value} (hne : T ≠ E) (ho : Own wr lo wr.heap.size T 1 v n us) (hro : Rows wr lo wr.heap.size E us rs) (hlo : lo ≤ wr.heap.size) (hm : r.length ≤ maxLen)
    (hg : ((wr.alloc (.cells r.toArray E)).alloc (.cells c0 T)).grownBy w1 v.ownBlock)
    (ho1 : w1.ownsRow lo T 1 v' (n + 1) (us ++ [.slice (some ⟨wr.heap.size, 0, none⟩) r.length r.length])) :
    OwnSS w1 lo w1.heap.size T E v' (n + 1) (rs ++ [r]) := by
  have hsz := hg.size
  simp at hsz
  have hold : ∀ g, g < wr.heap.size → ((wr.alloc (.cells r.toArray E)).alloc (.cells c0 T)).heap[g]? = wr.heap[g]? := fun g hg => by
    have hb : Below wr.heap.size wr ((wr.alloc (.cells r.toArray E)).alloc (.cells c0 T)) := ((Below.refl _ _).alloc (Nat.le_refl _) _).alloc (by simp) _
    exact hb.block g hg
  refine ⟨us ++ [.slice (some ⟨wr.heap.size, 0, none⟩) r.length r.length], Own.of_owns ho1, ?_⟩
  refine Rows.snoc (hi := wr.heap.size) (lo' := wr.heap.size) (hro.of_rows fun i u g hu hgu => ?_) (own_of_block ?_ (Nat.le_refl _) (by omega) hm) hlo (Nat.le_refl _) (by omega)
  · have hi : i < rs.length := by rw [← hro.len]; exact (List.getElem?_eq_some_iff.1 hu).1
    have hrow := hro.row i u rs[i] hu (List.getElem?_eq_getElem hi)
    have hlt := (hrow.lt g hgu).2.2
    have hnn := own_ne hrow.1 ho.1 (fun e => hne e.symm) g hgu
    exact (hg.block g (by simp; omega) (fun e => hnn e.symm)).trans (hold g hlt)
  · have hv : v.ownBlock ≠ some wr.heap.size := fun e => by have := (ho.lt _ e).2.2; omega
    rw [hg.block wr.heap.size (by simp; omega) (fun e => hv e.symm)]
    have hb : Below (wr.heap.size + 1) (wr.alloc (.cells r.toArray E)) ((wr.alloc (.cells r.toArray E)).alloc (.cells c0 T)) := by
      have := (Below.refl (wr.alloc (.cells r.toArray E)).heap.size (wr.alloc (.cells r.toArray E))).alloc (Nat.le_refl _) (.cells c0 T)
      simpa using this
    rw [hb.block wr.heap.size (by omega)]
    exact heap_alloc_new wr _

/-- The i-th row of a slice of slices of the call's own: where it lies, what it holds; a cell of it is written; it is replaced by a fresh one. -/
theorem OwnSS.row_ (h : OwnSS w lo hi T E v n rs) (hne : T ≠ E) (hw : hi ≤ w.heap.size) {i : Nat} (hi' : i < n) (hpos : 0 < (rs.getD i []).length) :
    ∃ gv cv g c, v = .slice (some ⟨gv, 0, none⟩) n cv ∧ lo ≤ gv ∧ gv < hi ∧ lo ≤ g ∧ g < hi ∧ w.cell? ⟨gv, i, none⟩ = some (.slice (some ⟨g, 0, none⟩) (rs.getD i []).length c) ∧ (∀ j, w.frozen? ⟨gv, j, none⟩ = false) ∧
      (∀ j u, (rs.getD i [])[j]? = some u → w.cell? ⟨g, j, none⟩ = some u) ∧ (∀ j, w.frozen? ⟨g, j, none⟩ = false) ∧
      (∀ j x, OwnSS (w.setCell ⟨g, j, none⟩ x) lo hi T E v n (rs.set i ((rs.getD i []).set j x))) ∧
      (∀ r' : List Value, r'.length ≤ maxLen → OwnSS ((w.alloc (.cells r'.toArray E)).setCell ⟨gv, i, none⟩ (.slice (some ⟨w.heap.size, 0, none⟩) r'.length r'.length)) lo (w.heap.size + 1) T E v n (rs.set i r')) := by
  have hlen := h.length
  obtain ⟨us, ho, hro⟩ := h
  have hul : us.length = n := by simpa using ho.length
  obtain ⟨gv, cv, rfl⟩ := Joins.ownsRow_form ho.1 (by omega)
  have hil : i < rs.length := by omega
  have hiu : i < us.length := by omega
  have er : rs.getD i [] = rs[i] := by simp [List.getD, hil]
  rw [er] at hpos ⊢
  have hrow := hro.row i us[i] rs[i] (List.getElem?_eq_getElem hiu) (List.getElem?_eq_getElem hil)
  obtain ⟨g, c, hu⟩ := Joins.ownsRow_form hrow.1 hpos
  have hgl := hrow.lt g (by rw [hu]; rfl)
  have hvl := ho.lt gv rfl
  have hgv : gv ≠ g := fun e => own_ne ho.1 hrow.1 hne gv rfl (by rw [hu, e]; rfl)
  have hrow2 := hrow
  rw [hu] at hrow2
  refine ⟨gv, cv, g, c, rfl, hvl.1, hvl.2.1, hgl.1, hgl.2.1, ?_, fun j => ho.1.frozenAt j, fun j u hj => ?_, fun j => hrow2.1.frozenAt j, fun j x => ?_, fun r' hm' => ?_⟩
  · rw [ho.1.cellAt i (by omega), List.getElem?_eq_getElem hiu, hu]
  · rw [hrow2.1.cellAt j (by have := (List.getElem?_eq_some_iff.1 hj).1; omega)]; exact hj
  · refine ⟨us, ho.of_block fun k hk => ?_, ⟨by rw [List.length_set]; exact hro.len, fun k u r h1 h2 => ?_, hro.far⟩⟩
    · simp only [Value.ownBlock, Option.some.injEq] at hk
      exact Below.heap_setCell _ _ _ _ (by show k ≠ g; omega)
    · by_cases e : i = k
      · subst e
        rw [List.getElem?_set_self hil] at h2
        obtain rfl := Option.some.inj h2
        rw [List.getElem?_eq_getElem hiu] at h1
        obtain rfl := Option.some.inj h1
        rw [hu, List.length_set]
        exact ⟨(hrow2.1.stored j x).1, hrow2.2⟩
      · rw [List.getElem?_set_ne e] at h2
        refine (hro.row k u r h1 h2).of_block fun g' hg' => Below.heap_setCell _ _ _ _ ?_
        show g' ≠ g
        intro eg
        subst eg
        exact hro.far i k us[i] u g' e (List.getElem?_eq_getElem hiu) h1 (by rw [hu]; rfl) hg'
  · have hoa : Own (w.alloc (.cells r'.toArray E)) lo hi T 1 (.slice (some ⟨gv, 0, none⟩) n cv) n us := ho.alloc _
    have hst := (hoa.1.stored i (.slice (some ⟨w.heap.size, 0, none⟩) r'.length r'.length)).1
    have hra : Rows (w.alloc (.cells r'.toArray E)) lo hi E us rs := hro.below ((Below.refl _ _).alloc (Nat.le_refl _) _) hw
    refine ⟨us.set i (.slice (some ⟨w.heap.size, 0, none⟩) r'.length r'.length), ⟨hst, fun k hk => by simp only [Value.ownBlock, Option.some.injEq] at hk; omega⟩, ⟨by simp [hro.len], fun k u r h1 h2 => ?_, fun k m u u' q hkm h1 h2 hq => ?_⟩⟩
    · have hset : ∀ q, q ≠ gv → ((w.alloc (.cells r'.toArray E)).setCell ⟨gv, i, none⟩ (.slice (some ⟨w.heap.size, 0, none⟩) r'.length r'.length)).heap[q]? = (w.alloc (.cells r'.toArray E)).heap[q]? := fun q hq => Below.heap_setCell _ _ _ _ hq
      by_cases e : i = k
      · subst e
        rw [List.getElem?_set_self hil] at h2
        rw [List.getElem?_set_self hiu] at h1
        obtain rfl := Option.some.inj h2
        obtain rfl := Option.some.inj h1
        refine own_of_block ?_ (by omega) (Nat.lt_succ_self _) hm'
        rw [hset _ (by omega)]
        exact heap_alloc_new w _
      · rw [List.getElem?_set_ne e] at h1 h2
        refine ((hra.row k u r h1 h2).of_block fun g' hg' => hset g' ?_).mono (Nat.le_refl _) (by omega)
        intro eg
        subst eg
        exact own_ne ho.1 (hro.row k u r h1 h2).1 hne g' rfl hg'
    · have old : ∀ (k : Nat) (x : Value), us[k]? = some x → ∀ y, x.ownBlock = some y → y < w.heap.size := fun k x hx y hy => by
        have hk : k < rs.length := by rw [← hro.len]; exact (List.getElem?_eq_some_iff.1 hx).1
        exact ((hro.row k x rs[k] hx (List.getElem?_eq_getElem hk)).lt y hy).2.2
      by_cases e1 : i = k
      · subst e1
        rw [List.getElem?_set_self hiu] at h1
        obtain rfl := Option.some.inj h1
        rw [List.getElem?_set_ne hkm] at h2
        simp only [Value.ownBlock, Option.some.injEq] at hq
        subst hq
        intro e
        have := old m u' h2 _ e
        omega
      · rw [List.getElem?_set_ne e1] at h1
        by_cases e2 : i = m
        · subst e2
          rw [List.getElem?_set_self hiu] at h2
          obtain rfl := Option.some.inj h2
          have := old k u h1 _ hq
          simp only [Value.ownBlock, ne_eq, Option.some.injEq]
          omega
        · rw [List.getElem?_set_ne e2] at h2
          exact hro.far k m u u' q hkm h1 h2 hq
end
end Go.Proofs.Ytoklcjpokffocaa
