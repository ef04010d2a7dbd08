/-
  FRACTIONS COMPARED, without the program: cross products, Euclid's way, lowest terms; heights that can be least. No condition but those that each theorem names.
-/
import Derived.Test.YtajjophmngabbaaGreatDoorNum
namespace Go.Proofs.YtajjophmngabbaaGreatDoor
set_option linter.unusedVariables false

/-- Euclid's way: whole parts that differ. -/
theorem ls_ne {n d m e : Nat} (hd : 0 < d) (he : 0 < e) (h : n / d ≠ m / e) : n * e < m * d ↔ n / d < m / e := by
  have h1 := Nat.div_add_mod n d
  have h2 := Nat.div_add_mod m e
  have h3 := Nat.mod_lt n hd
  have h4 := Nat.mod_lt m he
  generalize n / d = p at *
  generalize m / e = q at *
  generalize n % d = x at *
  generalize m % e = y at *
  subst h1
  subst h2
  constructor
  · intro hlt
    rcases Nat.lt_or_ge p q with h' | h'
    · exact h'
    · exfalso
      have h5 : q + 1 ≤ p := by omega
      have h6 : d * (q + 1) * e ≤ d * p * e := Nat.mul_le_mul_right _ (Nat.mul_le_mul_left _ h5)
      have h7 : y * d ≤ e * d := Nat.mul_le_mul_right _ (by omega)
      have e1 : (d * p + x) * e = d * p * e + x * e := Nat.add_mul ..
      have e2 : (e * q + y) * d = d * q * e + y * d := by rw [Nat.add_mul, Nat.mul_comm (e * q) d, Nat.mul_comm e q, Nat.mul_assoc]
      have e3 : d * (q + 1) * e = d * q * e + e * d := by rw [Nat.mul_add, Nat.mul_one, Nat.add_mul, Nat.mul_comm d e]
      omega
  · intro hlt
    have h6 : d * (p + 1) * e ≤ d * q * e := Nat.mul_le_mul_right _ (Nat.mul_le_mul_left _ hlt)
    have h7 : x * e < d * e := Nat.mul_lt_mul_of_pos_right h3 he
    have e1 : (d * p + x) * e = d * p * e + x * e := Nat.add_mul ..
    have e2 : (e * q + y) * d = d * q * e + y * d := by rw [Nat.add_mul, Nat.mul_comm (e * q) d, Nat.mul_comm e q, Nat.mul_assoc]
    have e3 : d * (p + 1) * e = d * p * e + d * e := by rw [Nat.mul_add, Nat.mul_one, Nat.add_mul]
    omega
/-- .. that are alike: the rests. -/
theorem ls_eq {n d m e : Nat} (h : n / d = m / e) : n * e < m * d ↔ (n % d) * e < (m % e) * d := by
  have h1 := Nat.div_add_mod n d
  have h2 := Nat.div_add_mod m e
  rw [← h] at h2
  generalize n / d = p at *
  generalize n % d = x at *
  generalize m % e = y at *
  subst h1
  subst h2
  have e1 : (d * p + x) * e = d * p * e + x * e := Nat.add_mul ..
  have e2 : (e * p + y) * d = d * p * e + y * d := by rw [Nat.add_mul, Nat.mul_comm (e * p) d, Nat.mul_comm e p, Nat.mul_assoc]
  omega
/-- Rests of which one is nothing. -/
theorem ls_zero {x y d e : Nat} (hd : 0 < d) (he : 0 < e) (h : x = 0 ∨ y = 0) : x * e < y * d ↔ x = 0 ∧ 0 < y := by
  rcases h with rfl | rfl
  · constructor
    · intro h
      refine ⟨rfl, ?_⟩
      rcases Nat.eq_zero_or_pos y with rfl | h'
      · simp at h
      · exact h'
    · rintro ⟨_, h⟩
      have := Nat.mul_pos h hd
      omega
  · constructor
    · intro h; omega
    · rintro ⟨_, h⟩; omega
/-- The turn: both fractions upside down. -/
theorem ls_turn {x y d e : Nat} : x * e < y * d ↔ e * x < d * y := by rw [Nat.mul_comm x e, Nat.mul_comm y d]
/-- A fraction in lowest terms compares as before. -/
theorem ls_low {n d g m e : Nat} (hg : 0 < g) : (g * n) * e < m * (g * d) ↔ n * e < m * d := by
  rw [Nat.mul_assoc, show m * (g * d) = g * (m * d) by rw [← Nat.mul_assoc, Nat.mul_comm m g, Nat.mul_assoc]]
  exact Nat.mul_lt_mul_left hg
theorem ls_low2 {n d g m e : Nat} (hg : 0 < g) : m * (g * d) < (g * n) * e ↔ m * d < n * e := by
  rw [Nat.mul_assoc, show m * (g * d) = g * (m * d) by rw [← Nat.mul_assoc, Nat.mul_comm m g, Nat.mul_assoc]]
  exact Nat.mul_lt_mul_left hg
/-- What is not less, and then less than a third: transitivity. -/
theorem ls_trans {n d m e k f : Nat} (hd : 0 < d) (he : 0 < e) (hf : 0 < f) (h1 : n * e ≤ m * d) (h2 : m * f < k * e) : n * f < k * d := by
  have a1 : n * e * f ≤ m * d * f := Nat.mul_le_mul_right _ h1
  have a2 : m * f * d < k * e * d := Nat.mul_lt_mul_of_pos_right h2 hd
  have e1 : n * e * f = e * (n * f) := by rw [Nat.mul_comm n e, Nat.mul_assoc]
  have e2 : m * d * f = m * f * d := by rw [Nat.mul_assoc, Nat.mul_comm d f, ← Nat.mul_assoc]
  have e3 : k * e * d = e * (k * d) := by rw [Nat.mul_comm k e, Nat.mul_assoc]
  have : e * (n * f) < e * (k * d) := by omega
  exact Nat.lt_of_mul_lt_mul_left this

/-- Is a crane that is h high hindered by one of height b? booms near; the first's boom near the other's mast; the other's boom near the first's mast. -/
def hnd (x : Bool × Bool × Bool × Int) (h : Int) : Bool := (x.1 && (decide (h - x.2.2.2 < 60) && decide (x.2.2.2 - h < 60))) || ((x.2.1 && decide (h < x.2.2.2)) || (x.2.2.1 && decide (x.2.2.2 < h)))
def freeAt (L : List (Bool × Bool × Bool × Int)) (h : Int) : Bool := L.all fun x => !hnd x h
/-- A free height whose lower neighbour is not free lies at or 60 above a crane's. -/
theorem free_step {L : List (Bool × Bool × Bool × Int)} {h : Int} (h1 : freeAt L h = true) (h0 : freeAt L (h - 1) = false) : ∃ x ∈ L, h = x.2.2.2 ∨ h = x.2.2.2 + 60 := by
  unfold freeAt at h0
  rw [List.all_eq_false] at h0
  obtain ⟨x, hx, hn⟩ := h0
  have hf := List.all_eq_true.1 h1 x hx
  refine ⟨x, hx, ?_⟩
  obtain ⟨b, f, s, k⟩ := x
  show h = k ∨ h = k + 60
  simp only [hnd] at hn hf
  cases b <;> cases f <;> cases s <;> simp at hn hf <;> omega
/-- The least free height from 1 on, if one is at most 2000 (or whatever bound). -/
def leastAt (L : List (Bool × Bool × Bool × Int)) (top : Int) (h : Int) : Prop := 1 ≤ h ∧ h ≤ top ∧ freeAt L h = true ∧ ∀ j, 1 ≤ j → j < h → freeAt L j = false
/-- It is 1, or at a crane's height, or 60 above one. -/
theorem least_in {L : List (Bool × Bool × Bool × Int)} {top h : Int} (H : leastAt L top h) : h = 1 ∨ ∃ x ∈ L, h = x.2.2.2 ∨ h = x.2.2.2 + 60 := by
  obtain ⟨h1, h2, h3, h4⟩ := H
  by_cases e : h = 1
  · exact .inl e
  · exact .inr (free_step h3 (h4 (h - 1) (by omega) (by omega)))
theorem least_one {L : List (Bool × Bool × Bool × Int)} {top h h' : Int} (H : leastAt L top h) (H' : leastAt L top h') : h = h' := by
  obtain ⟨a1, a2, a3, a4⟩ := H
  obtain ⟨b1, b2, b3, b4⟩ := H'
  rcases Int.lt_trichotomy h h' with e | e | e
  · rw [b4 h a1 e] at a3; cases a3
  · exact e
  · rw [a4 h' b1 e] at b3; cases b3
/-- If a height of the range is free, there is a least one. -/
theorem least_some {L : List (Bool × Bool × Bool × Int)} {top : Int} : ∀ (n : Nat) (h : Int), 1 ≤ h → h ≤ top → freeAt L h = true → h = (n : Int) + 1 → ∃ g, leastAt L top g := by
  intro n
  induction n using Nat.strongRecOn with
  | ind n ih =>
    intro h h1 h2 h3 hn
    by_cases H : ∃ j : Int, 1 ≤ j ∧ j < h ∧ freeAt L j = true
    · obtain ⟨j, j1, j2, j3⟩ := H
      exact ih (j - 1).toNat (by omega) j j1 (by omega) j3 (by omega)
    · refine ⟨h, h1, h2, h3, fun j j1 j2 => ?_⟩
      cases e : freeAt L j
      · rfl
      · exact absurd ⟨j, j1, j2, e⟩ H
/-- THE REFERENCE's WAY: the least free one among candidates that hold 1, every crane's height and 60 above it. -/
theorem least_cand {L : List (Bool × Bool × Bool × Int)} {top : Int} {C : List Int} (hc1 : 1 ∈ C) (hc : ∀ x ∈ L, x.2.2.2 ∈ C ∧ x.2.2.2 + 60 ∈ C) {b : Int} (hb : b ∈ C) (h1 : 1 ≤ b) (h2 : b ≤ top) (hf : freeAt L b = true) (hm : ∀ c ∈ C, 1 ≤ c → c ≤ top → freeAt L c = true → b ≤ c) : leastAt L top b := by
  obtain ⟨g, hg⟩ := least_some (L := L) (top := top) (b - 1).toNat b h1 h2 hf (by omega)
  have hgc : g ∈ C := by
    rcases least_in hg with rfl | ⟨x, hx, e | e⟩
    · exact hc1
    · rw [e]; exact (hc x hx).1
    · rw [e]; exact (hc x hx).2
  have h3 := hm g hgc hg.1 hg.2.1 hg.2.2.1
  rcases Int.lt_or_le b g with e | e
  · have := hg.2.2.2 b h1 e
    rw [hf] at this
    cases this
  · have h4 : b = g := by omega
    rw [h4]; exact hg
theorem least_none {L : List (Bool × Bool × Bool × Int)} {top : Int} {C : List Int} (hc1 : 1 ∈ C) (hc : ∀ x ∈ L, x.2.2.2 ∈ C ∧ x.2.2.2 + 60 ∈ C) (hm : ∀ c ∈ C, 1 ≤ c → c ≤ top → freeAt L c = false) : ∀ g, ¬ leastAt L top g := by
  intro g hg
  have hgc : g ∈ C := by
    rcases least_in hg with rfl | ⟨x, hx, e | e⟩
    · exact hc1
    · rw [e]; exact (hc x hx).1
    · rw [e]; exact (hc x hx).2
  have := hm g hgc hg.1 hg.2.1
  rw [hg.2.2.1] at this
  cases this
end Go.Proofs.YtajjophmngabbaaGreatDoor
