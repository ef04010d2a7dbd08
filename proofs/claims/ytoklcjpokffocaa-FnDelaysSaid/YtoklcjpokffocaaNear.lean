/-
  STATES AND STEPS: is it a state, is a step allowed: the reference's and the program's. No condition but those that each theorem names.
-/
import Derived.Test.YtoklcjpokffocaaTabOk
import Derived.Test.YtoklcjpokffocaaBfs2
import Derived.Test.YtoklcjpokffocaaVWorld
import Derived.Test.YtoklcjpokffocaaFamInt64
import Derived.BigQuiet
import Derived.Lib.SmallJoins
namespace Go.Proofs.Ytoklcjpokffocaa
open Go.RowKit
set_option linter.unusedVariables false

/-- Is a list a state? -/
def stV (l : List Int) : Bool := decide (l.length = 2) && (inR (l.getD 0 0) 0 23 && inR (l.getD 1 0) 0 23)
theorem stV_two {l : List Int} (h : stV l = true) : ∃ x y, l = [x, y] ∧ 0 ≤ x ∧ x ≤ 23 ∧ 0 ≤ y ∧ y ≤ 23 := by
  unfold stV at h
  rw [Bool.and_eq_true, Bool.and_eq_true] at h
  obtain ⟨h1, h2, h3⟩ := h
  obtain ⟨x, y, rfl⟩ := list2 (of_decide_eq_true h1)
  obtain ⟨a1, a2⟩ := inR_true h2
  obtain ⟨b1, b2⟩ := inR_true h3
  exact ⟨x, y, rfl, a1, a2, b1, b2⟩
theorem stV_len {l : List Int} (h : l.length ≠ 2) : stV l = false := by simp [stV, h]
theorem stV_pair (x y : Int) : stV [x, y] = (inR x 0 23 && inR y 0 23) := by simp [stV]

/-- The two cells of a state. -/
theorem st_cells {w : World} {lo hi : Nat} {A : Option Addr} {x y : Int} (h : Rd w lo hi 1 A 2 (rInt64 [x, y])) :
    ∃ b off, A = some ⟨b, off, none⟩ ∧ lo ≤ b ∧ b < hi ∧ w.cell? ⟨b, off, none⟩ = some (.int .i64 x) ∧ w.cell? ⟨b, off + 1, none⟩ = some (.int .i64 y) := by
  obtain ⟨b, off, rfl, h1, h2, hc⟩ := h.2 (by omega)
  exact ⟨b, off, rfl, h1, h2, hc 0 _ rfl, hc 1 _ rfl⟩
theorem int_eq2 (n : Nat) : ((n : Int) == 2) = decide (n = 2) := by
  by_cases h : n = 2
  · subst h; rfl
  · have : ((n : Int) == 2) = false := by simp; omega
    rw [this]; simp [h]

set_option maxHeartbeats 1000000 in
theorem l17State_any (A : Option Addr) (n c lo hi : Nat) (l : List Int) (hl : l.length = n) (hm : n ≤ maxLen) (w : World) (h : Rd w lo hi 1 A n (rInt64 l)) :
    Calls Try.prog 34 #[.slice A n c] w fun e w' => e = .returned (.bool (stV l)) ∧ w' = w := by
  unfold maxLen at hm
  by_cases h2 : n = 2
  · subst h2
    obtain ⟨x, y, rfl⟩ := list2 hl
    obtain ⟨b, off, rfl, _, _, c0, c1⟩ := st_cells h
    clear h hl
    rw [stV_pair]
    cases e0 : inR x 0 23
    all_goals
      go_enter Try.func34, Try.ntmps34
      go_wp2_with (go_at_call 55; refine (l02Dir_any _ _).mono ?_; rintro e w' ⟨rfl, hw⟩; obtain rfl := hw.symm)
      go_ret
      exact ⟨ret_bool (by simp), rfl⟩
  · have hq : ((n : Int) == 2) = false := by simp; omega
    rw [stV_len (by omega)]
    clear h
    go_enter Try.func34, Try.ntmps34
    go_wp2_with fail
    go_ret
    exact ⟨rfl, rfl⟩

set_option maxHeartbeats 1000000 in
theorem isState_any (A : Option Addr) (n c lo hi : Nat) (l : List Int) (hl : l.length = n) (hm : n ≤ maxLen) (w : World) (h : Rd w lo hi 1 A n (rInt64 l)) :
    Calls Try.prog 30 #[.slice A n c] w fun e w' => e = .returned (.bool (stV l)) ∧ w' = w := by
  unfold maxLen at hm
  by_cases h2 : n = 2
  · subst h2
    obtain ⟨x, y, rfl⟩ := list2 hl
    obtain ⟨b, off, rfl, _, _, c0, c1⟩ := st_cells h
    clear h hl
    rw [stV_pair]
    cases e0 : inR x 0 23
    all_goals
      go_enter Try.func30, Try.ntmps30
      go_wp2_with (go_at_call 53; refine (isDirection_any _ _).mono ?_; rintro e w' ⟨rfl, hw⟩; obtain rfl := hw.symm)
      go_ret
      exact ⟨ret_bool (by simp), rfl⟩
  · have hq : ((n : Int) == 2) = false := by simp; omega
    rw [stV_len (by omega)]
    clear h
    go_enter Try.func30, Try.ntmps30
    go_wp2_with fail
    go_ret
    exact ⟨rfl, rfl⟩

set_option maxHeartbeats 400000 in
theorem isTurn2_any (n : Int) (w : World) : Calls Try.prog 32 #[.int .i64 n] w fun e w' => e = .returned (.bool (inR n (-1) 1)) ∧ w' = w := by
  go_enter Try.func32, Try.ntmps32
  go_wp2_with (go_at_call 29; refine (within_any _ _ _ _).mono ?_; rintro e w' ⟨rfl, hw⟩; obtain rfl := hw.symm)
  go_ret
  exact ⟨rfl, rfl⟩
theorem near_inR (a c : Int) : inR (trn a c) (-1) 1 = near a c := by
  unfold near inR
  rw [← Bool.decide_and]
  congr 1
  unfold siz
  apply propext
  split <;> omega
theorem near_zero {a c : Int} (ha0 : 0 ≤ a) (ha1 : a ≤ 23) (hc0 : 0 ≤ c) (hc1 : c ≤ 23) : (trn a c == 0) = (a == c) := by
  rw [Bool.eq_iff_iff]
  simp only [beq_iff_eq]
  unfold trn
  split <;> omega
end Go.Proofs.Ytoklcjpokffocaa
