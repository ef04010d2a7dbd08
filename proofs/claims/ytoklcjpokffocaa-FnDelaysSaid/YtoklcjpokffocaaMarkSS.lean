/-
  CONTRACTS of the laws' helpers on a slice of slices of numbers: marking, and holding the marks. No condition but those that each theorem names.
-/
import Derived.Test.YtoklcjpokffocaaFamSInt64
namespace Go.Proofs.Ytoklcjpokffocaa
open Go.RowKit
set_option linter.unusedVariables false

/-- The rows behind the marking of the first k. -/
def msTo (q : Int) (rs : List (List Value)) : Nat → List (List Value)
  | 0 => rs
  | k + 1 => (msTo q rs k).set k (marks (q + (tot rs k : Nat)) ((rs.getD k []).length))
theorem msTo_len (q : Int) (rs : List (List Value)) (k : Nat) : (msTo q rs k).length = rs.length := by
  induction k with
  | zero => rfl
  | succ k ih => simp [msTo, ih]
theorem msTo_later (q : Int) (rs : List (List Value)) (k j : Nat) (h : k ≤ j) : (msTo q rs k).getD j [] = rs.getD j [] := by
  induction k with
  | zero => rfl
  | succ k ih =>
    have := ih (by omega)
    simp only [msTo, List.getD] at this ⊢
    rw [List.getElem?_set_ne (by omega)]
    exact this
theorem msTo_done (q : Int) (rs : List (List Value)) (k j : Nat) (h : j < k) (hj : j < rs.length) : (msTo q rs k).getD j [] = marks (q + (tot rs j : Nat)) ((rs.getD j []).length) := by
  induction k with
  | zero => omega
  | succ k ih =>
    by_cases e : k = j
    · subst e
      simp only [msTo, List.getD]
      rw [List.getElem?_set_self (by rw [msTo_len]; exact hj)]
      rfl
    · have := ih (by omega)
      simp only [msTo, List.getD] at this ⊢
      rw [List.getElem?_set_ne e]
      exact this

/-- One row of a slice of slices of the call's own, by itself. -/
theorem ss_row {w : World} {lo hi n : Nat} {T E : TypeId} {v : Value} {us : List Value} {rs : List (List Value)} (ho : Own w lo hi T 1 v n us) (hro : Rows w lo hi E us rs) (hne : T ≠ E) (hlh : lo ≤ hi) {i : Nat} (hil : i < rs.length) :
    ∃ u lo' hi', us[i]? = some u ∧ lo ≤ lo' ∧ lo' ≤ hi' ∧ hi' ≤ hi ∧ Own w lo' hi' E 1 u (rs.getD i []).length (rs.getD i []) ∧
      ∀ (w' : World) (r' : List Value), Own w' lo' hi' E 1 u (rs.getD i []).length r' → Tch lo' hi' w w' → Own w' lo hi T 1 v n us ∧ Rows w' lo hi E us (rs.set i r') := by
  have hiu : i < us.length := by rw [hro.len]; exact hil
  have er : rs.getD i [] = rs[i] := by simp [List.getD, hil]
  rw [er]
  have hrow := hro.row i us[i] rs[i] (List.getElem?_eq_getElem hiu) (List.getElem?_eq_getElem hil)
  have key : ∀ lo' hi', lo ≤ lo' → hi' ≤ hi → (∀ g, lo' ≤ g → g < hi' → us[i].ownBlock = some g) → ∀ (w' : World) (r' : List Value), Own w' lo' hi' E 1 us[i] rs[i].length r' → Tch lo' hi' w w' → Own w' lo hi T 1 v n us ∧ Rows w' lo hi E us (rs.set i r') := by
    intro lo' hi' h1 h2 hg w' r' hr' ht
    have hl' : r'.length = rs[i].length := by simpa using hr'.length
    refine ⟨ho.of_block fun k hk => ht.block k (ho.lt k hk).2.2 ?_, ⟨by simp [hro.len], fun k u r e1 e2 => ?_, hro.far⟩⟩
    · rcases Nat.lt_or_ge k lo' with a | a
      · exact .inl a
      · rcases Nat.lt_or_ge k hi' with b | b
        · exact absurd (hg k a b) (own_ne ho.1 hrow.1 hne k hk)
        · exact .inr b
    · by_cases e : i = k
      · subst e
        rw [List.getElem?_set_self hil] at e2
        obtain rfl := Option.some.inj e2
        rw [List.getElem?_eq_getElem hiu] at e1
        obtain rfl := Option.some.inj e1
        rw [hl']
        exact hr'.mono h1 h2
      · rw [List.getElem?_set_ne e] at e2
        have hrk := hro.row k u r e1 e2
        refine hrk.of_block fun g hg' => ht.block g (hrk.lt g hg').2.2 ?_
        rcases Nat.lt_or_ge g lo' with a | a
        · exact .inl a
        · rcases Nat.lt_or_ge g hi' with b | b
          · exact absurd (hg g a b) (hro.far k i u us[i] g (fun x => e x.symm) e1 (List.getElem?_eq_getElem hiu) hg')
          · exact .inr b
  cases hb : us[i].ownBlock with
  | none =>
    refine ⟨us[i], lo, lo, List.getElem?_eq_getElem hiu, Nat.le_refl _, Nat.le_refl _, hlh, ⟨hrow.1, fun g hg => by rw [hb] at hg; cases hg⟩, key lo lo (Nat.le_refl _) hlh (fun g h1 h2 => by omega)⟩
  | some g =>
    obtain ⟨g1, g2, g3⟩ := hrow.lt g hb
    have hown : Own w g (g + 1) E 1 us[i] rs[i].length rs[i] := by
      refine ⟨⟨hrow.1.1, ?_⟩, fun k hk => by rw [hb] at hk; obtain rfl := Option.some.inj hk; omega⟩
      rcases hrow.1.2 with h | ⟨k, cap, cur, hv, hk, r⟩
      · exact .inl h
      · have : k = g := by rw [hv] at hb; simpa [Value.ownBlock] using hb
        exact .inr ⟨k, cap, cur, hv, by omega, r⟩
    exact ⟨us[i], g, g + 1, List.getElem?_eq_getElem hiu, g1, by omega, by omega, hown, key g (g + 1) g1 (by omega) (fun k h1 h2 => by rw [hb]; congr 1; omega)⟩

theorem tot_le (rs : List (List Value)) {k : Nat} (h : k < rs.length) : tot rs k + (rs.getD k []).length ≤ tot rs rs.length := by
  rw [← tot_succ rs k h]; exact tot_mono rs (by omega)

end Go.Proofs.Ytoklcjpokffocaa
