/-
  THE SEARCH FINDS SHORTEST LENGTHS: a neighbour of a state with a length has a length too, and one that is greater by one at most. No program here, and no condition but those that each theorem names.
-/
import Derived.Test.YtnbahmjimnhfbaaDoorBfs2
namespace Go.Proofs.YtnbahmjimnhfbaaDoor
open Go.RowKit

abbrev Sst := List (List Int) × List (Int × Int)
def ln (s : Sst) (q : Int × Int) : Int := dget s.1 q.1 q.2
def Known (s : Sst) : Prop := ∀ q, stOk q → 0 ≤ ln s q → q ∈ s.2
structure Lay (T : List (List Bool)) (s : Sst) (k : Nat) : Prop where
  known : Known s
  rise : ∀ i j (hi : i < s.2.length) (hj : j < s.2.length), i < j → ln s s.2[i] ≤ ln s s.2[j]
  top : ∀ i (hi : i < s.2.length), k ≤ i → ∀ q ∈ s.2, ln s q ≤ ln s s.2[i] + 1
  done : ∀ i (hi : i < s.2.length), i < k → ∀ q ∈ nxt T s.2[i].1 s.2[i].2, 0 ≤ ln s q ∧ ln s q ≤ ln s s.2[i] + 1
structure More (T : List (List Bool)) (s : Sst) (p : Int × Int) (j : Nat) (u : Sst) : Prop where
  known : Known u
  keeps : ∀ r, stOk r → 0 ≤ ln s r → ln u r = ln s r
  ext : ∃ t, u.2 = s.2 ++ t ∧ ∀ q ∈ t, ln u q = ln s p + 1
  upto : ∀ i (h : i < (nxt T p.1 p.2).length), i < j → 0 ≤ ln u (nxt T p.1 p.2)[i] ∧ ln u (nxt T p.1 p.2)[i] ≤ ln s p + 1

theorem ln_visit {s : Sst} (h : Inv s) {x : Int} {q r : Int × Int} (hq : stOk q) (hr : stOk r) (hn : ln s q < 0) : ln (visit s x q) r = if q = r then x else ln s r := by
  unfold ln at hn ⊢
  unfold visit
  rw [if_pos hn]
  show dget (dset s.1 q.1 q.2 x) r.1 r.2 = _
  rw [dget_dset h.ok hq.1 hq.2 hr.1 hr.2]
  by_cases e : q = r
  · subst e; simp
  · rw [if_neg e, if_neg]
    rintro ⟨e1, e2⟩
    exact e (Prod.ext e1 e2)

theorem more_visit {T : List (List Bool)} {s u : Sst} {p : Int × Int} {j : Nat} (hi : Inv u) (hs : Inv s) (hL : 0 ≤ ln s p) (ht : ∀ q ∈ s.2, ln s q ≤ ln s p + 1) (h : More T s p j u) (hj : j < (nxt T p.1 p.2).length) :
    More T s p (j + 1) (visit u (ln s p + 1) (nxt T p.1 p.2)[j]) := by
  have hq := (nxt_ok (List.getElem_mem hj)).1
  obtain ⟨q, hqe⟩ : ∃ q, (nxt T p.1 p.2)[j] = q := ⟨_, rfl⟩
  obtain ⟨t, e1, e2⟩ := h.ext
  by_cases hn : ln u q < 0
  · rw [hqe] at hq ⊢
    have hl : ∀ r, stOk r → ln (visit u (ln s p + 1) q) r = if q = r then ln s p + 1 else ln u r := fun r hr => ln_visit hi hq hr hn
    have h2 : (visit u (ln s p + 1) q).2 = u.2 ++ [q] := by
      have hn2 : dget u.1 q.1 q.2 < 0 := hn
      unfold visit; rw [if_pos hn2]
    have hst : ∀ r ∈ t, stOk r := fun r hr => (hi.st r (by rw [e1]; exact List.mem_append_right _ hr)).1
    refine ⟨fun r hr h0 => ?_, fun r hr h0 => ?_, ⟨t ++ [q], by rw [h2, e1, List.append_assoc], fun r hr => ?_⟩, fun i hi' hij => ?_⟩
    · rw [h2]
      rw [hl r hr] at h0
      by_cases e : q = r
      · subst e; simp
      · rw [if_neg e] at h0
        exact List.mem_append_left _ (h.known r hr h0)
    · rw [hl r hr]
      by_cases e : q = r
      · subst e
        have := h.keeps q hr h0
        omega
      · rw [if_neg e]; exact h.keeps r hr h0
    · rcases List.mem_append.1 hr with hr | hr
      · rw [hl r (hst r hr)]
        split
        · rfl
        · exact e2 r hr
      · obtain rfl : r = q := by simpa using hr
        rw [hl r hq, if_pos rfl]
    · have hri := (nxt_ok (List.getElem_mem hi')).1
      rw [hl _ hri]
      split
      · omega
      · rename_i hne
        refine h.upto i hi' ?_
        rcases Nat.lt_or_ge i j with h3 | h3
        · exact h3
        · obtain rfl : i = j := by omega
          exact absurd hqe.symm hne
  · rw [hqe] at hq ⊢
    have hv : visit u (ln s p + 1) q = u := by
      have hn2 : ¬ dget u.1 q.1 q.2 < 0 := hn
      unfold visit; rw [if_neg hn2]
    rw [hv]
    refine ⟨h.known, h.keeps, h.ext, fun i hi' hij => ?_⟩
    rcases Nat.lt_or_ge i j with h3 | h3
    · exact h.upto i hi' h3
    · obtain rfl : i = j := by omega
      rw [hqe]
      refine ⟨by omega, ?_⟩
      have hm := h.known q hq (by omega)
      rw [e1] at hm
      rcases List.mem_append.1 hm with hm | hm
      · rw [h.keeps q hq (hs.st q hm).2]
        exact ht q hm
      · rw [e2 q hm]; omega

theorem more_to {T : List (List Bool)} {s : Sst} {p : Int × Int} (hs : Inv s) (hp : p ∈ s.2) (hk : Known s) (ht : ∀ q ∈ s.2, ln s q ≤ ln s p + 1) (j : Nat) (hj : j ≤ (nxt T p.1 p.2).length) : More T s p j (expandTo T s p j) := by
  induction j with
  | zero =>
    have e : expandTo T s p 0 = s := by simp [expandTo]
    rw [e]
    exact ⟨hk, fun _ _ _ => rfl, ⟨[], by simp, fun q hq => by cases hq⟩, fun i _ h => absurd h (by omega)⟩
  | succ j ih =>
    obtain ⟨h1, h2, _⟩ := expandTo_inv (T := T) hs hp j
    rw [expandTo_succ T s p j (by omega), h2]
    exact more_visit h1 hs (hs.st p hp).2 ht (ih (by omega)) (by omega)

theorem lay_expand {T : List (List Bool)} {s : Sst} {k : Nat} (hs : Inv s) (h : Lay T s k) (hk : k < s.2.length) : Lay T (expand T s s.2[k]) (k + 1) := by
  have hp : s.2[k] ∈ s.2 := List.getElem_mem hk
  have M := more_to (T := T) hs hp h.known (h.top k hk (Nat.le_refl _)) _ (Nat.le_refl _)
  rw [expandTo_all T s _ _ (Nat.le_refl _)] at M
  obtain ⟨u, hu⟩ : ∃ u, expand T s s.2[k] = u := ⟨_, rfl⟩
  rw [hu] at M ⊢
  obtain ⟨t, e1, e2⟩ := M.ext
  have st := fun q hq => hs.st q hq
  have old : ∀ q ∈ s.2, ln u q = ln s q := fun q hq => M.keeps q (st q hq).1 (st q hq).2
  have all : ∀ q ∈ u.2, ln u q ≤ ln s s.2[k] + 1 := by
    intro q hq
    rw [e1] at hq
    rcases List.mem_append.1 hq with hq | hq
    · rw [old q hq]; exact h.top k hk (Nat.le_refl _) q hq
    · rw [e2 q hq]; omega
  have at_ : ∀ i (hi : i < u.2.length), (∃ h : i < s.2.length, u.2[i] = s.2[i]) ∨ (s.2.length ≤ i ∧ u.2[i] ∈ t) := by
    intro i hi
    rcases Nat.lt_or_ge i s.2.length with h1 | h1
    · refine .inl ⟨h1, ?_⟩
      simp only [e1]
      exact List.getElem_append_left h1
    · refine .inr ⟨h1, ?_⟩
      simp only [e1]
      rw [List.getElem_append_right h1]
      exact List.getElem_mem _
  refine ⟨M.known, fun i j hi hj hij => ?_, fun i hi hki q hq => ?_, fun i hi hik q hq => ?_⟩
  · rcases at_ j hj with ⟨hj1, ej⟩ | ⟨hj1, ej⟩
    · rcases at_ i hi with ⟨hi1, ei⟩ | ⟨hi1, ei⟩
      · rw [ej, ei, old _ (List.getElem_mem _), old _ (List.getElem_mem _)]
        exact h.rise i j hi1 hj1 hij
      · omega
    · rw [e2 _ ej]
      exact all _ (List.getElem_mem _)
  · have := all q hq
    rcases at_ i hi with ⟨hi1, ei⟩ | ⟨hi1, ei⟩
    · rw [ei, old _ (List.getElem_mem _)]
      have := h.rise k i hk hi1 (by omega)
      omega
    · rw [e2 _ ei]; omega
  · rcases at_ i hi with ⟨hi1, ei⟩ | ⟨hi1, ei⟩
    · rw [ei] at hq ⊢
      rw [old _ (List.getElem_mem _)]
      rcases Nat.lt_or_ge i k with h3 | h3
      · obtain ⟨a, b⟩ := h.done i hi1 h3 q hq
        rw [M.keeps q (nxt_ok hq).1 a]
        exact ⟨a, b⟩
      · obtain rfl : i = k := by omega
        obtain ⟨j, hj, rfl⟩ := List.mem_iff_getElem.1 hq
        exact M.upto j hj hj
    · omega

theorem lay_start {T : List (List Bool)} {p : Int × Int} (hp : stOk p) : Lay T (dset blank p.1 p.2 0, [p]) 0 := by
  have hl : ∀ r, stOk r → ln (dset blank p.1 p.2 0, [p]) r = if p = r then 0 else -1 := by
    intro r hr
    show dget (dset blank p.1 p.2 0) r.1 r.2 = _
    rw [dget_dset blank_ok hp.1 hp.2 hr.1 hr.2]
    by_cases e : p = r
    · subst e; simp
    · rw [if_neg e, if_neg, dget_blank hr.1 hr.2]
      rintro ⟨e1, e2⟩
      exact e (Prod.ext e1 e2)
  refine ⟨fun r hr h0 => ?_, fun i j hi hj hij => ?_, fun i hi _ q hq => ?_, fun i _ h => absurd h (by omega)⟩
  · rw [hl r hr] at h0
    by_cases e : p = r
    · subst e; simp
    · rw [if_neg e] at h0; omega
  · simp at hj; omega
  · obtain rfl : q = p := by simpa using hq
    have : i = 0 := by simp at hi; omega
    subst this
    simp only [List.getElem_cons_zero]
    omega

theorem run_lay (T : List (List Bool)) {p : Int × Int} (hp : stOk p) (k : Nat) : Lay T (run T p k) k ∧ ln (run T p k) p = 0 := by
  induction k with
  | zero =>
    refine ⟨lay_start hp, ?_⟩
    show dget (dset blank p.1 p.2 0) p.1 p.2 = 0
    rw [dget_dset blank_ok hp.1 hp.2 hp.1 hp.2]; simp
  | succ k ih =>
    obtain ⟨h1, h2⟩ := ih
    have hI := run_inv T hp k
    rcases Nat.lt_or_ge k (run T p k).2.length with h | h
    · rw [run_succ T p k h]
      refine ⟨lay_expand hI h1 h, ?_⟩
      have M := more_to (T := T) hI (List.getElem_mem h) h1.known (h1.top k h (Nat.le_refl _)) _ (Nat.le_refl _)
      rw [expandTo_all T _ _ _ (Nat.le_refl _)] at M
      rw [M.keeps p hp (by omega), h2]
    · have e : run T p (k + 1) = run T p k := by rw [run, List.getElem?_eq_none h]
      rw [e]
      exact ⟨⟨h1.known, h1.rise, fun i hi _ => absurd hi (by omega), fun i hi _ => h1.done i hi (by omega)⟩, h2⟩

/-- The start's length is 0. -/
theorem lens_start (T : List (List Bool)) {p : Int × Int} (hp : stOk p) : dget (lens T p) p.1 p.2 = 0 := (run_lay T hp 576).2
/-- A neighbour of a state that is reached is reached, by one step more at most. -/
theorem lens_step (T : List (List Bool)) {p q r : Int × Int} (hp : stOk p) (hq : stOk q) (h0 : 0 ≤ dget (lens T p) q.1 q.2) (hr : r ∈ nxt T q.1 q.2) :
    0 ≤ dget (lens T p) r.1 r.2 ∧ dget (lens T p) r.1 r.2 ≤ dget (lens T p) q.1 q.2 + 1 := by
  obtain ⟨h1, _⟩ := run_lay T hp 576
  have hI := (run_inv T hp 576).cnt
  obtain ⟨i, hi, e⟩ := List.mem_iff_getElem.1 (h1.known q hq h0)
  have := h1.done i hi (by omega) r (by rw [e]; exact hr)
  rw [e] at this
  exact this
end Go.Proofs.YtnbahmjimnhfbaaDoor
