/-
  ONE CRANE THAT TURNS ALONE: a shortest route is no longer than its way. Plain, no condition but those that each theorem names.
-/
import Derived.Test.YtnbahmjimnhfbaaBfs3
import Derived.Test.YtnbahmjimnhfbaaAloneR
import Derived.Test.YtnbahmjimnhfbaaRl
import Derived.Test.YtnbahmjimnhfbaaSteps
namespace Go.Proofs.Ytnbahmjimnhfbaa
open Go.RowKit
set_option linter.unusedVariables false
set_option linter.unusedSimpArgs false

theorem near_step {a s : Int} (hs : s = 1 ∨ s = -1) (k : Int) : near ((a + s * k) % 24) ((a + s * (k + 1)) % 24) = true := by
  unfold near siz trn
  rw [decide_eq_true_iff]
  rcases hs with rfl | rfl
  · split <;> split <;> omega
  · split <;> split <;> omega
theorem near_self {b : Int} (hb : dirOk b) : near b b = true := by
  unfold near siz trn
  rw [decide_eq_true_iff]
  split <;> split <;> omega
theorem step_ne {a s : Int} (hs : s = 1 ∨ s = -1) (k : Int) : ((a + s * k) % 24 == (a + s * (k + 1)) % 24) = false := by
  rw [beq_eq_false_iff_ne]
  rcases hs with rfl | rfl <;> omega
theorem stp_alone {T : List (List Bool)} {a b s k : Int} (hs : s = 1 ∨ s = -1) (hb : dirOk b) (h1 : tg T ((a + s * k) % 24) b = false) (h2 : tg T ((a + s * (k + 1)) % 24) b = false) : stp T ((a + s * k) % 24) b ((a + s * (k + 1)) % 24) b = true := by
  unfold stp
  rw [near_step hs, near_self hb, step_ne hs, h1, h2]
  rfl
theorem lens_alone {T : List (List Bool)} {a b t s : Int} (hs : s = 1 ∨ s = -1) (ha : dirOk a) (hb : dirOk b) (ht : dirOk t) (hf : tg T a b = false) (hv : alV T a b t s ≠ -1) :
    0 ≤ dget (lens T (a, b)) t b ∧ dget (lens T (a, b)) t b ≤ alM a t s ∧ alV T a b t s = alM a t s := by
  have hfree : ∀ k : Nat, k < alM a t s → tg T ((a + s * ((k : Int) + 1)) % 24) b = false := by
    intro k hk
    cases e : tg T ((a + s * ((k : Int) + 1)) % 24) b
    · rfl
    · exact absurd (alV_bad k hk e) hv
  have hp : stOk (a, b) := ⟨ha, hb⟩
  have key : ∀ k : Nat, k ≤ alM a t s → 0 ≤ dget (lens T (a, b)) ((a + s * (k : Int)) % 24) b ∧ dget (lens T (a, b)) ((a + s * (k : Int)) % 24) b ≤ k ∧ tg T ((a + s * (k : Int)) % 24) b = false := by
    intro k
    induction k with
    | zero =>
      intro _
      rw [al_zero ha.1 ha.2]
      have := lens_start T hp
      exact ⟨by simp only at this; omega, by simp only at this; omega, hf⟩
    | succ k ih =>
      intro hk
      obtain ⟨h1, h2, h3⟩ := ih (by omega)
      have h4 := hfree k (by omega)
      have e : s * ((k + 1 : Nat) : Int) = s * ((k : Int) + 1) := by simp
      rw [e]
      have hq : dirOk ((a + s * (k : Int)) % 24) := ⟨by omega, by omega⟩
      have hr : dirOk ((a + s * ((k : Int) + 1)) % 24) := ⟨by omega, by omega⟩
      have := lens_step T (q := ((a + s * (k : Int)) % 24, b)) (r := ((a + s * ((k : Int) + 1)) % 24, b)) hp ⟨hq, hb⟩ h1 (nxt_mem hr hb (stp_alone hs hb h3 h4))
      simp only at this
      exact ⟨this.1, by omega, h4⟩
  have e : (a + s * ((alM a t s : Nat) : Int)) % 24 = t := (al_stop hs ha.1 ha.2 ht.1 ht.2 (Nat.le_refl _)).2 rfl
  have := key _ (Nat.le_refl _)
  rw [e] at this
  exact ⟨this.1, this.2.1, alV_end hfree⟩
theorem codeL_yes {T : List (List Bool)} {a b : Int} (ok : okT T = true) (ha : dirOk a) (hb : dirOk b) (hf : tg T a b = false) : codeL T [[a, b]] = 0 := by
  have := inR_mk ha.1 ha.2
  have := inR_mk hb.1 hb.2
  simp [codeL, ok, stV, hit, *]
theorem codeL_no {T : List (List Bool)} {a b : Int} (ok : okT T = true) (ha : dirOk a) (hb : dirOk b) (hf : tg T a b = true) : codeL T [[a, b]] = 10 := by
  have := inR_mk ha.1 ha.2
  have := inR_mk hb.1 hb.2
  simp [codeL, ok, stV, hit, *]
theorem codeL_yes2 {T : List (List Bool)} {a b c d : Int} (ok : okT T = true) (ha : dirOk a) (hb : dirOk b) (hc : dirOk c) (hd : dirOk d) (hf : tg T a b = false) (hg : tg T c d = false) : codeL T [[a, b], [c, d]] = 0 := by
  have := inR_mk ha.1 ha.2
  have := inR_mk hb.1 hb.2
  have := inR_mk hc.1 hc.2
  have := inR_mk hd.1 hd.2
  simp [codeL, ok, stV, hit, *]
theorem alP_no {T : List (List Bool)} {a b t : Int} (ok : okT T = true) (ha : dirOk a) (hb : dirOk b) (ht : dirOk t) (hf : tg T a b = true) : (alP T [a, b] t).2 = 10 := by
  have := inR_mk ha.1 ha.2
  have := inR_mk hb.1 hb.2
  have := inR_mk ht.1 ht.2
  simp [alP, ok, stV, *]
theorem alP_yes {T : List (List Bool)} {a b t : Int} (ok : okT T = true) (ha : dirOk a) (hb : dirOk b) (ht : dirOk t) (hf : tg T a b = false) : alP T [a, b] t = if tg T t b then (0, 10) else alR (alV T a b t 1) (alV T a b t (-1)) := by
  have := inR_mk ha.1 ha.2
  have := inR_mk hb.1 hb.2
  have := inR_mk ht.1 ht.2
  simp [alP, ok, stV, *]
theorem alone_bad {T : List (List Bool)} {a b t : Int} (ok : okT T = true) (ha : dirOk a) (hb : dirOk b) (ht : dirOk t) (hf : tg T a b = false) (h : (alP T [a, b] t).2 ≠ 0) : (alP T [a, b] t).2 = 3 ∨ (alP T [a, b] t).2 = 10 ∧ tg T t b = true := by
  rw [alP_yes ok ha hb ht hf] at *
  cases e : tg T t b
  · rw [e] at h
    left
    simp only [Bool.false_eq_true, if_false] at h ⊢
    unfold alR at *
    split at h <;> split at h <;> simp_all
    split at h <;> simp_all
  · right; exact ⟨by simp, rfl⟩
theorem alone_good {T : List (List Bool)} {a b t : Int} (ok : okT T = true) (ha : dirOk a) (hb : dirOk b) (ht : dirOk t) (hf : tg T a b = false) (h : (alP T [a, b] t).2 = 0) :
    (rlP T [a, b] [t, b]).2 = 0 ∧ (rlP T [a, b] [t, b]).1 ≤ (alP T [a, b] t).1 ∧ (alP T [a, b] t).1 ≤ 23 := by
  rw [alP_yes ok ha hb ht hf] at *
  cases e : tg T t b
  · rw [e] at h
    simp only [Bool.false_eq_true, if_false] at h ⊢
    have hv : ∃ s : Int, (s = 1 ∨ s = -1) ∧ alV T a b t s ≠ -1 ∧ (alR (alV T a b t 1) (alV T a b t (-1))).1 = alV T a b t s := by
      unfold alR at *
      by_cases h1 : alV T a b t 1 < 0
      · by_cases h2 : alV T a b t (-1) < 0
        · rw [if_pos h1, if_pos h2] at h; exact absurd h (by decide)
        · rw [if_pos h1, if_neg h2]
          exact ⟨-1, Or.inr rfl, by omega, rfl⟩
      · rw [if_neg h1]
        by_cases h2 : alV T a b t (-1) < 0
        · rw [if_pos h2]
          exact ⟨1, Or.inl rfl, by omega, rfl⟩
        · rw [if_neg h2]
          by_cases h3 : alV T a b t (-1) < alV T a b t 1
          · rw [if_pos h3]; exact ⟨-1, Or.inr rfl, by omega, rfl⟩
          · rw [if_neg h3]; exact ⟨1, Or.inl rfl, by omega, rfl⟩
    obtain ⟨s, hs, hn, hr⟩ := hv
    obtain ⟨g1, g2, g3⟩ := lens_alone hs ha hb ht hf hn
    have hl := alM_lt a t s
    rw [hr, g3]
    have en : rlN T [a, b] [t, b] = dget (lens T (a, b)) t b := by unfold rlN; simp only [List.getD_cons_zero, List.getD_cons_succ]
    unfold rlP
    rw [codeL_yes2 ok ha hb ht hb hf e, if_pos rfl, en]
    generalize lens T (a, b) = D at *
    rw [if_neg (by omega)]
    exact ⟨rfl, g2, by omega⟩
  · rw [e] at h
    exact absurd h (by simp)
/-- Each step that is told is allowed, in both directions. -/
theorem stL_step {T : List (List Bool)} {a b : Int} {r : List Int} (ok : okT T = true) (ha : dirOk a) (hb : dirOk b) (hf : tg T a b = false) (h : r ∈ stL T [a, b]) : ∃ c d : Int, r = [c, d] ∧ dirOk c ∧ dirOk d ∧ stp T a b c d = true ∧ stp T c d a b = true := by
  unfold stL at h
  rw [codeL_yes ok ha hb hf, if_pos rfl] at h
  obtain ⟨q, hq, rfl⟩ := List.mem_map.1 h
  obtain ⟨h1, h2⟩ := nxt_ok hq
  exact ⟨q.1, q.2, rfl, h1.1, h1.2, h2, by rw [stp_comm]; exact h2⟩
end Go.Proofs.Ytnbahmjimnhfbaa
