/-
  LeastHeight without the program: what both programs answer, and that the answer is one. No condition but those that each theorem names.
-/
import Derived.Test.YtajjophmngabbaaGreatDoorGe6
namespace Go.Proofs.YtajjophmngabbaaGreatDoor
open Go.RowKit
set_option linter.unusedVariables false

/-- What the program asks of the i-th crane and the others among the first k. -/
def othL (l : List Crn) (i : Nat) (D : Int) : Nat → List (Bool × Bool × Bool × Int)
  | 0 => []
  | k + 1 => if k = i then othL l i D k else othL l i D k ++ [clN (l.getD i crZ) (l.getD k crZ) D]
theorem othL_self {l : List Crn} {i : Nat} {D : Int} {k : Nat} (h : k = i) : othL l i D (k + 1) = othL l i D k := by rw [othL, if_pos h]
theorem othL_oth {l : List Crn} {i : Nat} {D : Int} {k : Nat} (h : k ≠ i) (hi : i < l.length) (hk : k < l.length) : othL l i D (k + 1) = othL l i D k ++ [clN l[i] l[k] D] := by rw [othL, if_neg h, getC hi, getC hk]
theorem othL_len (l : List Crn) (i : Nat) (D : Int) : ∀ k, (othL l i D k).length ≤ k
  | 0 => Nat.le_refl _
  | k + 1 => by
    have := othL_len l i D k
    rw [othL]; split
    · omega
    · rw [List.length_append]; simp only [List.length_cons, List.length_nil]; omega
theorem free_oth (l : List Crn) (i : Nat) (D h : Int) (k : Nat) : freeAt (othL l i D k) h = frK l i h D k := by
  induction k with
  | zero => rfl
  | succ k ih =>
    rw [othL, frK, ← ih]
    by_cases e : k = i
    · rw [if_pos e]; simp [e]
    · rw [if_neg e]; simp [freeAt, e]
/-- The candidates hold 1, every other crane's height, and 60 above it. -/
theorem htL_one (l : List Crn) (i : Nat) (k : Nat) : (1 : Int) ∈ htL l i k := by
  induction k with
  | zero => simp [htL]
  | succ k ih => rw [htL]; split <;> simp [ih]
theorem htL_has (l : List Crn) (i : Nat) (D : Int) (k : Nat) : ∀ x ∈ othL l i D k, x.2.2.2 ∈ htL l i k ∧ x.2.2.2 + 60 ∈ htL l i k := by
  induction k with
  | zero => intro x hx; simp [othL] at hx
  | succ k ih =>
    intro x hx
    rw [othL] at hx
    rw [htL]
    by_cases e : k = i
    · rw [if_pos e] at hx ⊢; exact ih x hx
    · rw [if_neg e] at hx ⊢
      rw [List.mem_append] at hx
      rcases hx with hx | hx
      · obtain ⟨h1, h2⟩ := ih x hx
        exact ⟨List.mem_append.2 (.inl h1), List.mem_append.2 (.inl h2)⟩
      · obtain rfl := List.mem_singleton.1 hx
        simp [clN]
/-- What both programs answer. -/
def LhR (l : List Crn) (i D a c : Int) : Prop := if cdL l i D = 0 then (leastAt (othL l i.toNat D l.length) 2000 a ∧ c = 0) ∨ (a = 0 ∧ c = 3 ∧ ∀ g, ¬ leastAt (othL l i.toNat D l.length) 2000 g) else a = 0 ∧ c = cdL l i D
theorem LhR.one {l : List Crn} {i D a c a' c' : Int} (h : LhR l i D a c) (h' : LhR l i D a' c') : a' = a ∧ c' = c := by
  unfold LhR at h h'
  by_cases e : cdL l i D = 0
  · rw [if_pos e] at h h'
    rcases h with ⟨h1, h2⟩ | ⟨h1, h2, h3⟩
    · rcases h' with ⟨k1, k2⟩ | ⟨k1, k2, k3⟩
      · exact ⟨least_one k1 h1, by omega⟩
      · exact absurd h1 (k3 _)
    · rcases h' with ⟨k1, k2⟩ | ⟨k1, k2, k3⟩
      · exact absurd k1 (h3 _)
      · omega
  · rw [if_neg e] at h h'
    omega
theorem LhR.bad {l : List Crn} {i D : Int} (h : ¬ cdL l i D = 0) : LhR l i D 0 (cdL l i D) := by unfold LhR; rw [if_neg h]; exact ⟨rfl, rfl⟩
/-- How the search among the candidates C stands behind the first k. -/
def BsR (L : List (Bool × Bool × Bool × Int)) (C : List Int) (k : Nat) (best : Int) : Prop :=
  (best = -1 ∧ ∀ j, j < k → ∀ c, C[j]? = some c → inR c 1 2000 = true → freeAt L c = false) ∨
  ((1 ≤ best ∧ best ≤ 2000) ∧ best ∈ C ∧ freeAt L best = true ∧ ∀ j, j < k → ∀ c, C[j]? = some c → inR c 1 2000 = true → freeAt L c = true → best ≤ c)
theorem BsR.bd {L : List (Bool × Bool × Bool × Int)} {C : List Int} {k : Nat} {best : Int} (h : BsR L C k best) : -1 ≤ best ∧ best ≤ 2000 := by
  rcases h with ⟨h, _⟩ | ⟨h, _⟩ <;> omega
theorem BsR.start (L : List (Bool × Bool × Bool × Int)) (C : List Int) : BsR L C 0 (-1) := .inl ⟨rfl, fun _ h => absurd h (by omega)⟩
theorem BsR.skip {L : List (Bool × Bool × Bool × Int)} {C : List Int} {k : Nat} {best c : Int} (h : BsR L C k best) (hc : C[k]? = some c) (hn : inR c 1 2000 = true → freeAt L c = true → 0 ≤ best ∧ best ≤ c) : BsR L C (k + 1) best := by
  rcases h with ⟨h1, h2⟩ | ⟨h1, h2, h3, h4⟩
  · refine .inl ⟨h1, fun j hj x hx hr => ?_⟩
    rcases Nat.lt_or_ge j k with e | e
    · exact h2 j e x hx hr
    · obtain rfl : j = k := by omega
      obtain rfl := Option.some.inj (hc.symm.trans hx)
      cases ef : freeAt L c
      · rfl
      · have := hn hr ef; omega
  · refine .inr ⟨h1, h2, h3, fun j hj x hx hr hf => ?_⟩
    rcases Nat.lt_or_ge j k with e | e
    · exact h4 j e x hx hr hf
    · obtain rfl : j = k := by omega
      obtain rfl := Option.some.inj (hc.symm.trans hx)
      exact (hn hr hf).2
theorem BsR.take {L : List (Bool × Bool × Bool × Int)} {C : List Int} {k : Nat} {best c : Int} (h : BsR L C k best) (hc : C[k]? = some c) (hr : inR c 1 2000 = true) (hf : freeAt L c = true) (hlt : best < 0 ∨ c < best) : BsR L C (k + 1) c := by
  have hcb := inR_true hr
  refine .inr ⟨hcb, List.mem_of_getElem? hc, hf, fun j hj x hx hr' hf' => ?_⟩
  rcases Nat.lt_or_ge j k with e | e
  · rcases h with ⟨h1, h2⟩ | ⟨h1, h2, h3, h4⟩
    · rw [h2 j e x hx hr'] at hf'; cases hf'
    · have := h4 j e x hx hr' hf'; omega
  · obtain rfl : j = k := by omega
    obtain rfl := Option.some.inj (hc.symm.trans hx)
    exact Int.le_refl _
theorem BsR.none {l : List Crn} {i D best : Int} {C : List Int} (hC : htL l i.toNat l.length = C) (hd : cdL l i D = 0) (h : BsR (othL l i.toNat D l.length) C C.length best) (hb : best < 0) : LhR l i D 0 3 := by
  unfold LhR
  rw [if_pos hd]
  rcases h with ⟨h1, h2⟩ | ⟨h1, _⟩
  · refine .inr ⟨rfl, rfl, least_none (C := C) (by rw [← hC]; exact htL_one _ _ _) (by rw [← hC]; exact htL_has _ _ _ _) fun c hc q1 q2 => ?_⟩
    obtain ⟨j, hj, rfl⟩ := List.mem_iff_getElem.1 hc
    exact h2 j hj _ (List.getElem?_eq_getElem hj) (by unfold inR; simp; omega)
  · omega
theorem BsR.some {l : List Crn} {i D best : Int} {C : List Int} (hC : htL l i.toNat l.length = C) (hd : cdL l i D = 0) (h : BsR (othL l i.toNat D l.length) C C.length best) (hb : ¬ best < 0) : LhR l i D best 0 := by
  unfold LhR
  rw [if_pos hd]
  rcases h with ⟨h1, h2⟩ | ⟨h1, h2, h3, h4⟩
  · omega
  · refine .inl ⟨least_cand (C := C) (by rw [← hC]; exact htL_one _ _ _) (by rw [← hC]; exact htL_has _ _ _ _) h2 h1.1 h1.2 h3 fun c hc q1 q2 q3 => ?_, rfl⟩
    obtain ⟨j, hj, rfl⟩ := List.mem_iff_getElem.1 hc
    exact h4 j hj _ (List.getElem?_eq_getElem hj) (by unfold inR; simp; omega) q3
/-- The program's way: the first height that is free. -/
theorem LhR.first {l : List Crn} {i D h : Int} (hd : cdL l i D = 0) (h1 : 1 ≤ h) (h2 : h ≤ 2000) (hf : freeAt (othL l i.toNat D l.length) h = true) (hn : ∀ j, 1 ≤ j → j < h → freeAt (othL l i.toNat D l.length) j = false) : LhR l i D h 0 := by
  unfold LhR
  rw [if_pos hd]
  exact .inl ⟨⟨h1, h2, hf, hn⟩, rfl⟩
theorem LhR.never {l : List Crn} {i D : Int} (hd : cdL l i D = 0) (hn : ∀ j, 1 ≤ j → j < 2001 → freeAt (othL l i.toNat D l.length) j = false) : LhR l i D 0 3 := by
  unfold LhR
  rw [if_pos hd]
  refine .inr ⟨rfl, rfl, fun g hg => ?_⟩
  have := hn g hg.1 (by have := hg.2.1; omega)
  rw [hg.2.2.1] at this
  cases this
end Go.Proofs.YtajjophmngabbaaGreatDoor
