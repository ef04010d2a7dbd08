/-
  A TABLE OF CONFLICTS IN MEMORY: 24 rows of 24 bools; what it says at two directions. No condition but those that each theorem names.
-/
import Derived.Test.YtoklcjpokffocaaFamSBool
import Derived.Test.YtoklcjpokffocaaTurn
namespace Go.Proofs.Ytoklcjpokffocaa
open Go.RowKit
set_option linter.unusedVariables false

/-- What a table says at two directions. -/
def tg (T : List (List Bool)) (a b : Int) : Bool := (T.getD a.toNat []).getD b.toNat false
/-- 24 rows of 24. -/
def okT (T : List (List Bool)) : Bool := decide (T.length = 24) && T.all fun r => decide (r.length = 24)
theorem okT_len {T : List (List Bool)} (h : okT T = true) : T.length = 24 := by
  unfold okT at h; rw [Bool.and_eq_true] at h; exact of_decide_eq_true h.1
theorem okT_row {T : List (List Bool)} (h : okT T = true) {k : Nat} (hk : k < 24) : (T.getD k []).length = 24 := by
  have hl := okT_len h
  unfold okT at h; rw [Bool.and_eq_true] at h
  have := List.all_eq_true.1 h.2 (T[k]'(by omega)) (List.getElem_mem _)
  rw [show T.getD k [] = T[k]'(by omega) by simp [List.getD, show k < T.length by omega]]
  exact of_decide_eq_true this
theorem okT_bad {T : List (List Bool)} {k : Nat} (hk : k < T.length) (h : (T.getD k []).length ≠ 24) : okT T = false := by
  cases e : okT T with
  | false => rfl
  | true =>
    have hl := okT_len e
    exact absurd (okT_row e (by omega)) h
theorem okT_end {T : List (List Bool)} (h : ∀ j, j < T.length → (T.getD j []).length = 24) : okT T = decide (T.length = 24) := by
  unfold okT
  rw [List.all_eq_true.2, Bool.and_true]
  intro r hr
  obtain ⟨i, hi, rfl⟩ := List.mem_iff_getElem.1 hr
  have := h i hi
  rw [show T.getD i [] = T[i] by simp [List.getD, hi]] at this
  simpa using this

/-- The two cells that 'table[a][b]' reads. -/
theorem tab_cells {w : World} {lo hi n : Nat} {A : Option Addr} {T : List (List Bool)} (h : RdSS w lo hi A n (rrBool T)) (ok : okT T = true) (a : Nat) (ha : a < 24) :
    ∃ b0 o0 ba oa ca, A = some ⟨b0, o0, none⟩ ∧ lo ≤ b0 ∧ b0 < hi ∧ lo ≤ ba ∧ ba < hi ∧ w.cell? ⟨b0, o0 + a, none⟩ = some (.slice (some ⟨ba, oa, none⟩) 24 ca) ∧
      ∀ b, b < 24 → w.cell? ⟨ba, oa + b, none⟩ = some (.bool ((T.getD a []).getD b false)) := by
  have hn := h.length
  rw [rrBool_len, okT_len ok] at hn
  obtain ⟨b0, o0, Ai, ni, ci, hA, l1, l2, hc, _, hni, hr⟩ := h.at_ (i := a) (by omega)
  rw [rrBool_at] at hr hni
  have hrow := okT_row ok ha
  rw [rBool_len1, hrow] at hni
  subst hni
  obtain ⟨ba, oa, hAi, m1, m2, hb⟩ := hr.2 (by omega)
  subst hAi
  refine ⟨b0, o0, ba, oa, ci, hA, l1, l2, m1, m2, hc, fun b hb' => hb b _ ?_⟩
  have hlt : b < (T.getD a []).length := by omega
  clear hb hr hc
  generalize T.getD a [] = R at *
  have := rBool_at R b hlt
  rw [Nat.mul_one] at this
  rw [this]
  simp [List.getD, hlt]
end Go.Proofs.Ytoklcjpokffocaa
