/-
  THE NEIGHBOURS OF A STATE and a route along the lengths, as plain lists. No program here, and no condition but those that each theorem names.
-/
import Derived.Test.YtoklcjpokffocaaBfs
namespace Go.Proofs.Ytoklcjpokffocaa
open Go.RowKit

/-- A state as a row of two numbers. -/
def pr2 (p : Int × Int) : List Int := [p.1, p.2]
/-- The neighbours with first direction c and a second one below j. -/
def nxtIn (T : List (List Bool)) (a b c : Int) (j : Nat) : List (List Int) := ((List.range j).filter fun (d : Nat) => stp T a b c (d : Int)).map fun (d : Nat) => [c, (d : Int)]
/-- The neighbours with a first direction below k. -/
def nxtTo (T : List (List Bool)) (a b : Int) (k : Nat) : List (List Int) := (List.range k).flatMap fun (c : Nat) => nxtIn T a b (c : Int) 24
theorem nxtIn_zero (T : List (List Bool)) (a b c : Int) : nxtIn T a b c 0 = [] := rfl
theorem nxtIn_yes {T : List (List Bool)} {a b c : Int} {j : Nat} (h : stp T a b c j = true) : nxtIn T a b c (j + 1) = nxtIn T a b c j ++ [[c, (j : Int)]] := by
  unfold nxtIn
  rw [List.range_succ, List.filter_append, List.map_append]
  simp [h]
theorem nxtIn_no {T : List (List Bool)} {a b c : Int} {j : Nat} (h : stp T a b c j = false) : nxtIn T a b c (j + 1) = nxtIn T a b c j := by
  unfold nxtIn
  rw [List.range_succ, List.filter_append, List.map_append]
  simp [h]
theorem nxtIn_far {T : List (List Bool)} {a b c : Int} (h : near a c = false) (j : Nat) : nxtIn T a b c j = [] := by
  unfold nxtIn
  rw [List.filter_eq_nil_iff.2]
  · rfl
  · intro d _
    simp [stp, h]
theorem nxtTo_zero (T : List (List Bool)) (a b : Int) : nxtTo T a b 0 = [] := rfl
theorem nxtTo_succ (T : List (List Bool)) (a b : Int) (k : Nat) : nxtTo T a b (k + 1) = nxtTo T a b k ++ nxtIn T a b k 24 := by
  unfold nxtTo
  rw [List.range_succ, List.flatMap_append]
  simp
theorem nxtTo_all (T : List (List Bool)) (a b : Int) : nxtTo T a b 24 = (nxt T a b).map pr2 := by
  unfold nxtTo nxtIn nxt dirs pr2
  rw [List.map_flatMap, List.flatMap_map]
  simp only [List.map_map, List.filter_map]
  rfl
theorem nxtIn_len (T : List (List Bool)) (a b c : Int) (j : Nat) : (nxtIn T a b c j).length ≤ j := by
  unfold nxtIn
  rw [List.length_map]
  exact Nat.le_trans (List.length_filter_le _ _) (by simp)
theorem nxtTo_len (T : List (List Bool)) (a b : Int) (k : Nat) : (nxtTo T a b k).length ≤ k * 24 := by
  induction k with
  | zero => simp [nxtTo_zero]
  | succ k ih => rw [nxtTo_succ, List.length_append]; have := nxtIn_len T a b k 24; omega
theorem nxt_len (T : List (List Bool)) (a b : Int) : (nxt T a b).length ≤ 576 := by
  have := nxtTo_len T a b 24
  rw [nxtTo_all, List.length_map] at this
  exact this

theorem near_comm (a c : Int) : near a c = near c a := by
  have h : siz (trn a c) = siz (trn c a) := by
    unfold siz trn
    repeat' split
    all_goals omega
  unfold near; rw [h]
theorem stp_comm (T : List (List Bool)) (a b c d : Int) : stp T a b c d = stp T c d a b := by
  unfold stp
  rw [near_comm a c, near_comm b d]
  have e1 : (a == c) = (c == a) := BEq.comm
  have e2 : (b == d) = (d == b) := BEq.comm
  rw [e1, e2]
  cases near c a <;> cases near d b <;> cases (c == a && d == b) <;> cases tg T a b <;> cases tg T c d <;> cases tg T a d <;> cases tg T c b <;> rfl

/-- Every state that is reached by a step was reached from a state one step nearer. -/
def Par (T : List (List Bool)) (s : List (List Int) × List (Int × Int)) : Prop :=
  ∀ c d, dirOk c → dirOk d → 0 < dget s.1 c d → ∃ p, stOk p ∧ stp T c d p.1 p.2 = true ∧ dget s.1 p.1 p.2 = dget s.1 c d - 1
theorem par_visit {T : List (List Bool)} {s : List (List Int) × List (Int × Int)} (hs : Inv s) (h : Par T s) {p q : Int × Int} (hp : stOk p) (hp0 : 0 ≤ dget s.1 p.1 p.2) (hq : stOk q) (hstp : stp T p.1 p.2 q.1 q.2 = true) :
    Par T (visit s (dget s.1 p.1 p.2 + 1) q) := by
  intro c d hc hd h0
  unfold visit at h0 ⊢
  split at h0
  · rename_i hn
    rw [if_pos hn]
    have hpq : ¬ (q.1 = p.1 ∧ q.2 = p.2) := by rintro ⟨e1, e2⟩; rw [e1, e2] at hn; omega
    show ∃ r, stOk r ∧ _ ∧ dget (dset s.1 q.1 q.2 _) r.1 r.2 = dget (dset s.1 q.1 q.2 _) c d - 1
    replace h0 : 0 < dget (dset s.1 q.1 q.2 (dget s.1 p.1 p.2 + 1)) c d := h0
    rw [dget_dset hs.ok hq.1 hq.2 hc hd] at h0 ⊢
    by_cases e : q.1 = c ∧ q.2 = d
    · rw [if_pos e]
      refine ⟨p, hp, ?_, ?_⟩
      · rw [stp_comm, ← e.1, ← e.2]; exact hstp
      · rw [dget_dset hs.ok hq.1 hq.2 hp.1 hp.2, if_neg hpq]; omega
    · rw [if_neg e] at h0 ⊢
      obtain ⟨r, hr, h1, h2⟩ := h c d hc hd h0
      refine ⟨r, hr, h1, ?_⟩
      rw [dget_dset hs.ok hq.1 hq.2 hr.1 hr.2, if_neg]
      · exact h2
      · rintro ⟨e1, e2⟩; rw [e1, e2] at hn; omega
  · rename_i hn
    rw [if_neg hn]
    exact h c d hc hd h0
theorem par_expandTo {T : List (List Bool)} {s : List (List Int) × List (Int × Int)} {p : Int × Int} (hs : Inv s) (hp : p ∈ s.2) (h : Par T s) (k : Nat) : Par T (expandTo T s p k) := by
  induction k with
  | zero => simpa [expandTo] using h
  | succ k ih =>
    rcases Nat.lt_or_ge k (nxt T p.1 p.2).length with hk | hk
    · rw [expandTo_succ T s p k hk]
      obtain ⟨h1, h2, _⟩ := expandTo_inv (T := T) hs hp k
      obtain ⟨hps, hp0⟩ := hs.st p hp
      obtain ⟨k1, k2⟩ := nxt_ok (List.getElem_mem hk)
      exact par_visit h1 ih hps (by rw [h2]; exact hp0) k1 k2
    · rw [expandTo_all T s p (k + 1) (by omega), ← expandTo_all T s p k hk]
      exact ih
theorem par_run (T : List (List Bool)) {p : Int × Int} (hp : stOk p) (k : Nat) : Par T (run T p k) := by
  induction k with
  | zero =>
    intro c d hc hd h0
    replace h0 : 0 < dget (dset blank p.1 p.2 0) c d := h0
    rw [dget_dset blank_ok hp.1 hp.2 hc hd] at h0
    split at h0
    · omega
    · rw [dget_blank hc hd] at h0; omega
  | succ k ih =>
    unfold run
    split
    · rename_i q hq
      rw [← expandTo_all T _ q _ (Nat.le_refl _)]
      exact par_expandTo (run_inv T hp k) (List.mem_of_getElem? hq) ih _
    · exact ih
theorem lens_par (T : List (List Bool)) {p : Int × Int} (hp : stOk p) {c d : Int} (hc : dirOk c) (hd : dirOk d) (h : 0 < dget (lens T p) c d) :
    ∃ q, q ∈ nxt T c d ∧ dget (lens T p) q.1 q.2 = dget (lens T p) c d - 1 := by
  obtain ⟨q, h1, h2, h3⟩ := par_run T hp 576 c d hc hd h
  exact ⟨q, nxt_mem h1.1 h1.2 h2, h3⟩
theorem lens_ok (T : List (List Bool)) {p : Int × Int} (hp : stOk p) : OkD (lens T p) := (run_inv T hp 576).ok
theorem lens_bd (T : List (List Bool)) {p : Int × Int} (hp : stOk p) {c d : Int} (hc : dirOk c) (hd : dirOk d) : -1 ≤ dget (lens T p) c d ∧ dget (lens T p) c d < 576 := by
  have h := run_inv T hp 576
  have h1 := h.bd c d hc hd
  have h2 := h.cnt
  exact ⟨h1.1, by have h3 := h1.2; show dget (run T p 576).1 c d < 576; omega⟩

/-- The first neighbour with a given length. -/
def pick (T : List (List Bool)) (D : List (List Int)) (q : Int × Int) (x : Int) : Int × Int := ((nxt T q.1 q.2).find? fun s => dget D s.1 s.2 == x).getD q
/-- The j-th state of the route from q along the lengths D. -/
def rtAt (T : List (List Bool)) (D : List (List Int)) (q : Int × Int) : Nat → Int × Int
  | 0 => q
  | j + 1 => pick T D (rtAt T D q j) (dget D q.1 q.2 - 1 - (j : Nat))
theorem pick_some {T : List (List Bool)} {D : List (List Int)} {q : Int × Int} {x : Int} {s : Int × Int} (hs : s ∈ nxt T q.1 q.2) (hx : dget D s.1 s.2 = x) :
    ∃ k, ∃ h : k < (nxt T q.1 q.2).length, (nxt T q.1 q.2)[k] = pick T D q x ∧ dget D (pick T D q x).1 (pick T D q x).2 = x ∧ ∀ j (hj : j < k), dget D ((nxt T q.1 q.2)[j]).1 ((nxt T q.1 q.2)[j]).2 ≠ x := by
  unfold pick
  cases e : (nxt T q.1 q.2).find? (fun s => dget D s.1 s.2 == x) with
  | none =>
    have := List.find?_eq_none.1 e s hs
    simp [hx] at this
  | some r =>
    obtain ⟨h1, i, hi, h2, h3⟩ := List.find?_eq_some_iff_getElem.1 e
    refine ⟨i, hi, h2, ?_, fun j hj => ?_⟩
    · simpa using h1
    · have := h3 j hj
      simpa using this
theorem rt_ok (T : List (List Bool)) {p q : Int × Int} (hp : stOk p) (hq : stOk q) (j : Nat) (hj : (j : Int) ≤ dget (lens T p) q.1 q.2) :
    stOk (rtAt T (lens T p) q j) ∧ dget (lens T p) (rtAt T (lens T p) q j).1 (rtAt T (lens T p) q j).2 = dget (lens T p) q.1 q.2 - j := by
  induction j with
  | zero => exact ⟨hq, by simp [rtAt]⟩
  | succ j ih =>
    obtain ⟨h1, h2⟩ := ih (by omega)
    obtain ⟨s, hs, hx⟩ := lens_par T hp h1.1 h1.2 (by rw [h2]; omega)
    rw [h2] at hx
    obtain ⟨k, hk, e1, e2, _⟩ := pick_some (D := lens T p) (x := dget (lens T p) q.1 q.2 - 1 - (j : Nat)) hs (by omega)
    refine ⟨?_, ?_⟩
    · show stOk (pick _ _ _ _)
      rw [← e1]
      exact (nxt_ok (List.getElem_mem hk)).1
    · show dget _ (pick _ _ _ _).1 (pick _ _ _ _).2 = _
      rw [e2]; omega
theorem rt_next (T : List (List Bool)) {p q : Int × Int} (hp : stOk p) (hq : stOk q) (j : Nat) (hj : (j : Int) < dget (lens T p) q.1 q.2) :
    ∃ k, ∃ h : k < (nxt T (rtAt T (lens T p) q j).1 (rtAt T (lens T p) q j).2).length, (nxt T (rtAt T (lens T p) q j).1 (rtAt T (lens T p) q j).2)[k] = rtAt T (lens T p) q (j + 1) ∧
      dget (lens T p) (rtAt T (lens T p) q (j + 1)).1 (rtAt T (lens T p) q (j + 1)).2 = dget (lens T p) q.1 q.2 - 1 - (j : Nat) ∧
      ∀ i (hi : i < k), dget (lens T p) ((nxt T (rtAt T (lens T p) q j).1 (rtAt T (lens T p) q j).2)[i]).1 ((nxt T (rtAt T (lens T p) q j).1 (rtAt T (lens T p) q j).2)[i]).2 ≠ dget (lens T p) q.1 q.2 - 1 - (j : Nat) := by
  obtain ⟨h1, h2⟩ := rt_ok T hp hq j (by omega)
  obtain ⟨s, hs, hx⟩ := lens_par T hp h1.1 h1.2 (by rw [h2]; omega)
  rw [h2] at hx
  exact pick_some (D := lens T p) hs (by omega)
/-- The first states of the route, as rows. -/
def rtTo (T : List (List Bool)) (D : List (List Int)) (q : Int × Int) (k : Nat) : List (List Int) := (List.range k).map fun j => pr2 (rtAt T D q j)
theorem rtTo_succ (T : List (List Bool)) (D : List (List Int)) (q : Int × Int) (k : Nat) : rtTo T D q (k + 1) = rtTo T D q k ++ [pr2 (rtAt T D q k)] := by
  unfold rtTo; rw [List.range_succ, List.map_append]; rfl
theorem rtTo_len (T : List (List Bool)) (D : List (List Int)) (q : Int × Int) (k : Nat) : (rtTo T D q k).length = k := by simp [rtTo]
end Go.Proofs.Ytoklcjpokffocaa
