/-
  THE LAW ON DELAYS, without the program: the least delay, the motions of a route of safe steps; the contracts as the law's walk takes them. No condition but those that each theorem names.
-/
import Derived.Test.YtoklcjpokffocaaRm3
namespace Go.Proofs.Ytoklcjpokffocaa
open Go.RowKit
set_option linter.unusedVariables false
set_option linter.unusedSimpArgs false

theorem fstF_cases (p : Nat → Bool) : ∀ (f k : Nat), (fstF p f k = -1) ∨ ∃ m, k ≤ m ∧ m < k + f ∧ fstF p f k = (m : Int) ∧ p m = true ∧ ∀ j, k ≤ j → j < m → p j = false := by
  intro f
  induction f with
  | zero => intro k; exact .inl rfl
  | succ f ih =>
    intro k
    unfold fstF
    by_cases h : p k = true
    · rw [if_pos h]
      exact .inr ⟨k, Nat.le_refl _, by omega, rfl, h, fun j h1 h2 => by omega⟩
    · rw [if_neg h]
      rcases ih (k + 1) with e | ⟨m, h1, h2, h3, h4, h5⟩
      · exact .inl e
      · refine .inr ⟨m, by omega, by omega, h3, h4, fun j j1 j2 => ?_⟩
        by_cases e : j = k
        · subst e; simpa using h
        · exact h5 j (by omega) j2
theorem fstV_ge (T : List (List Bool)) (a : Int) (la : List Int) (b : Int) (lb : List Int) : -1 ≤ fstV T a la b lb := by
  rcases fstF_cases (clK T a la b lb) (max la.length lb.length + 1) 0 with e | ⟨m, _, _, e, _⟩
  · unfold fstV; omega
  · unfold fstV; omega
/-- A delay that is found. -/
structure LdGood (T : List (List Bool)) (a : Int) (la : List Int) (b : Int) (lb : List Int) (m : Nat) : Prop where
  ok : coM T a la b lb = 0
  le : m ≤ la.length
  sum : m + lb.length ≤ 200
  at_ : ldOk T a la b lb m = true
  no : ∀ j, j < m → ldOk T a la b lb j = false
theorem ld_good {T : List (List Bool)} {a : Int} {la : List Int} {b : Int} {lb : List Int} (h : (ldP T a la b lb).2 = 0) : ∃ m : Nat, (ldP T a la b lb).1 = m ∧ LdGood T a la b lb m := by
  unfold ldP at h ⊢
  by_cases hc : coM T a la b lb = 0
  · rw [if_pos hc] at h ⊢
    obtain ⟨_, va, vb⟩ := coM_zero hc
    have hlb := (moV_true vb).2.2.2
    rcases fstF_cases (ldOk T a la b lb) (min la.length (200 - lb.length) + 1) 0 with e | ⟨m, h1, h2, h3, h4, h5⟩
    · have e' : ldX T a la b lb = -1 := e
      rw [e'] at h
      simp at h
    · have e' : ldX T a la b lb = m := h3
      have hn : ¬ (m : Int) < 0 := by omega
      refine ⟨m, by rw [e', if_neg hn], hc, by omega, by omega, h4, fun j hj => h5 j (by omega) hj⟩
  · rw [if_neg hc] at h
    exact absurd h hc
theorem LdGood.code {T : List (List Bool)} {a : Int} {la : List Int} {b : Int} {lb : List Int} {m : Nat} (h : LdGood T a la b lb m) {i : Nat} (hi : i ≤ m) : coM T a la b (lat i lb) = 0 := by
  obtain ⟨ok, va, vb⟩ := coM_zero h.ok
  have := h.sum
  unfold coM
  rw [if_pos ok, if_pos ⟨va, moV_lat vb (by omega)⟩]
theorem LdGood.last {T : List (List Bool)} {a : Int} {la : List Int} {b : Int} {lb : List Int} {m : Nat} (h : LdGood T a la b lb m) : fcV T a la b (lat m lb) = -1 := by
  have h1 := fstV_ge T a la b (lat m lb)
  have h2 := of_decide_eq_true h.at_
  unfold fcV
  rw [if_pos (h.code (Nat.le_refl _))]
  omega
theorem LdGood.early {T : List (List Bool)} {a : Int} {la : List Int} {b : Int} {lb : List Int} {m i : Nat} (h : LdGood T a la b lb m) (hi : i < m) : 0 ≤ fcV T a la b (lat i lb) := by
  have h2 := of_decide_eq_false (h.no i hi)
  unfold fcV
  rw [if_pos (h.code (by omega))]
  omega

theorem rmF_zero {R : List (List Int)} : ∀ (f i : Nat), rmF R f i = 0 → ∀ j, i ≤ j → j < i + f → stV (R.getD j []) = true ∧ (j = 0 ∨ rmT R j = true) := by
  intro f
  induction f with
  | zero => intro i _ j h1 h2; omega
  | succ f ih =>
    intro i h j h1 h2
    rw [rmF_succ] at h
    by_cases hs : stV (R.getD i []) = true
    · rw [if_pos hs] at h
      by_cases ht : (decide (i = 0) || rmT R i) = true
      · rw [if_pos ht] at h
        by_cases e : j = i
        · subst e
          refine ⟨hs, ?_⟩
          rw [Bool.or_eq_true] at ht
          exact ht.imp of_decide_eq_true id
        · exact ih (i + 1) h j (by omega) (by omega)
      · rw [if_neg ht] at h; omega
    · rw [if_neg hs] at h; omega
theorem rmC_zero {R : List (List Int)} (h : rmC R = 0) : 1 ≤ R.length ∧ R.length ≤ 201 ∧ ∀ j, j < R.length → stV (R.getD j []) = true ∧ (j = 0 ∨ rmT R j = true) := by
  unfold rmC at h
  by_cases hq : inR (R.length : Int) 1 201 = true
  · rw [if_pos hq] at h
    obtain ⟨q0, q1⟩ := inR_true hq
    exact ⟨by omega, by omega, fun j hj => rmF_zero _ _ h j (by omega) (by omega)⟩
  · rw [if_neg hq] at h; omega
theorem turn_back {a b : Int} (hb0 : 0 ≤ b) (hb1 : b ≤ 23) : (a + trn a b) % 24 = b := by
  unfold trn
  split <;> omega
theorem route_at {R : List (List Int)} (h : rmC R = 0) : ∀ k, k ≤ R.length - 1 → moAt (r0 R 0) (tA R (R.length - 1)) k = r0 R k ∧ moAt (r1 R 0) (tB R (R.length - 1)) k = r1 R k := by
  obtain ⟨h1, h2, h3⟩ := rmC_zero h
  intro k
  induction k with
  | zero => intro _; exact ⟨rfl, rfl⟩
  | succ k ih =>
    intro hk
    obtain ⟨i1, i2⟩ := ih (by omega)
    obtain ⟨_, a0, a1, b0, b1⟩ := r_state (h3 (k + 1) (by omega)).1
    have ea : (tA R (R.length - 1)).getD k 0 = trn (r0 R k) (r0 R (k + 1)) := by
      have : k < R.length - 1 := by omega
      simp [tA, List.getD, this]
    have eb : (tB R (R.length - 1)).getD k 0 = trn (r1 R k) (r1 R (k + 1)) := by
      have : k < R.length - 1 := by omega
      simp [tB, List.getD, this]
    rw [moAt_succ _ _ (by rw [tA_len]; omega), moAt_succ _ _ (by rw [tB_len]; omega), i1, i2, ea, eb]
    exact ⟨turn_back a0 a1, turn_back b0 b1⟩
theorem route_valid {R : List (List Int)} (h : rmC R = 0) : moV (r0 R 0) (tA R (R.length - 1)) = true ∧ moV (r1 R 0) (tB R (R.length - 1)) = true := by
  obtain ⟨h1, h2, h3⟩ := rmC_zero h
  obtain ⟨_, a0, a1, b0, b1⟩ := r_state (h3 0 (by omega)).1
  have turns : ∀ j, j < R.length - 1 → inR (trn (r0 R j) (r0 R (j + 1))) (-1) 1 = true ∧ inR (trn (r1 R j) (r1 R (j + 1))) (-1) 1 = true := by
    intro j hj
    rcases (h3 (j + 1) (by omega)).2 with e | e
    · omega
    · unfold rmT at e
      rw [Bool.and_eq_true, Nat.add_sub_cancel] at e
      exact e
  unfold moV
  rw [Bool.and_eq_true, Bool.and_eq_true, Bool.and_eq_true, Bool.and_eq_true]
  refine ⟨⟨stepsV_end fun j hj => ?_, by simp [inR]; omega, decide_eq_true (by rw [tA_len]; omega)⟩, stepsV_end fun j hj => ?_, by simp [inR]; omega, decide_eq_true (by rw [tB_len]; omega)⟩
  · rw [tA_len] at hj
    rw [show (tA R (R.length - 1)).getD j 0 = trn (r0 R j) (r0 R (j + 1)) by simp [tA, List.getD, hj]]
    exact (turns j hj).1
  · rw [tB_len] at hj
    rw [show (tB R (R.length - 1)).getD j 0 = trn (r1 R j) (r1 R (j + 1)) by simp [tB, List.getD, hj]]
    exact (turns j hj).2
theorem crV_all {T : List (List Bool)} {R : List (List Int)} (h : crV T R = -1) : ∀ i, i < R.length → crOk T R i = true := by
  unfold crV at h
  intro i hi
  cases e : (List.range R.length).find? (fun i => !(crOk T R i)) with
  | none =>
    have := List.find?_eq_none.1 e i (List.mem_range.2 hi)
    simpa using this
  | some j => rw [e] at h; simp at h
/-- The motions of a route of safe steps have no conflict. -/
theorem route_free {T : List (List Bool)} {R : List (List Int)} (ok : okT T = true) (h : rmC R = 0) (hc : (crP T R).1 = -1) (h0 : (crP T R).2 = 0) :
    coM T (rmX R (r0 R 0)) (rmL R (tA R (R.length - 1))) (rmX R (r1 R 0)) (rmL R (tB R (R.length - 1))) = 0 ∧ fcV T (rmX R (r0 R 0)) (rmL R (tA R (R.length - 1))) (rmX R (r1 R 0)) (rmL R (tB R (R.length - 1))) = -1 := by
  have ex0 : ∀ x, rmX R x = x := fun x => by simp [rmX, h]
  have el : ∀ l, rmL R l = l := fun l => by simp [rmL, h]
  rw [ex0, ex0, el, el]
  obtain ⟨va, vb⟩ := route_valid h
  obtain ⟨h1, h2, h3⟩ := rmC_zero h
  have hco : coM T (r0 R 0) (tA R (R.length - 1)) (r1 R 0) (tB R (R.length - 1)) = 0 := by
    unfold coM
    rw [if_pos ok, if_pos ⟨va, vb⟩]
  refine ⟨hco, ?_⟩
  have hv : crV T R = -1 := by
    unfold crP at hc
    rw [if_pos ok] at hc
    split at hc
    · exact hc
    · simp at hc
  have hall := crV_all hv
  unfold fcV
  rw [if_pos hco]
  refine fstV_none fun j hj => ?_
  rw [tA_len, tB_len] at hj
  have hat := route_at h
  have hj' : j ≤ R.length - 1 := by omega
  have hcr := hall j (by omega)
  unfold crOk at hcr
  rw [Bool.and_eq_true, Bool.and_eq_true, Bool.or_eq_true] at hcr
  obtain ⟨_, g1, g2⟩ := hcr
  unfold clK
  by_cases hz : j = 0
  · subst hz
    rw [if_pos rfl]
    simpa using g1
  · rw [if_neg hz, (hat (j - 1) (by omega)).1, (hat (j - 1) (by omega)).2, (hat j hj').1, (hat j hj').2]
    rcases g2 with e | e
    · exact absurd (of_decide_eq_true e) hz
    · unfold stp at e
      simp only [Bool.and_eq_true, Bool.not_eq_true'] at e
      obtain ⟨⟨⟨⟨_, e1⟩, e2⟩, e3⟩, e4⟩ := e
      unfold clV
      rw [e2, e4, e3]
      rfl

/-- RouteMotions, its answers named. -/
def RmA (w w' : World) (e : Ending) (x y : Int) (lx ly : List Int) (nx ny : Nat) (c : Int) : Prop :=
  ∃ Ax cx Ay cy, e = .returned (.tuple #[.agg #[.int .i64 x, .slice Ax nx cx], .agg #[.int .i64 y, .slice Ay ny cy], .int .i64 c]) ∧ Rd w' w.heap.size w'.heap.size 1 Ax nx (rInt64 lx) ∧ Rd w' w.heap.size w'.heap.size 1 Ay ny (rInt64 ly) ∧ Below w.heap.size w w'
theorem RmV.as {w w' : World} {e : Ending} {R : List (List Int)} {x y c : Int} {lx ly : List Int} {nx ny : Nat} (h : RmV w w' e R) (hx : rmX R (r0 R 0) = x) (hy : rmX R (r1 R 0) = y) (hc : rmC R = c) (hlx : rmL R (tA R (R.length - 1)) = lx) (hly : rmL R (tB R (R.length - 1)) = ly) (hnx : lx.length = nx) (hny : ly.length = ny) : RmA w w' e x y lx ly nx ny c := by
  subst hx hy hc hlx hly hnx hny
  obtain ⟨va, vb, rfl, ha, hb, hq⟩ := h
  obtain ⟨Ax, cx, rfl, _, _, hrx⟩ := ha.rd
  obtain ⟨Ay, cy, rfl, _, _, hry⟩ := hb.rd
  exact ⟨Ax, cx, Ay, cy, rfl, hrx, hry, hq⟩
theorem rmL_len {R : List (List Int)} {m : Nat} (hm : R.length ≤ m) : (rmL R (tA R (R.length - 1))).length ≤ m ∧ (rmL R (tB R (R.length - 1))).length ≤ m := by
  unfold rmL
  split
  · rw [tA_len, tB_len]; omega
  · simp
theorem implRM_as (A : Option Addr) (n c lo hi : Nat) (R : List (List Int)) (hm : n ≤ maxLen) (w : World) (h : RdSS w lo hi A n (rrInt64 R)) (hw : hi ≤ w.heap.size) {x y co : Int} {lx ly : List Int} {nx ny : Nat} (hx : rmX R (r0 R 0) = x) (hy : rmX R (r1 R 0) = y) (hc : rmC R = co) (hlx : rmL R (tA R (R.length - 1)) = lx) (hly : rmL R (tB R (R.length - 1)) = ly) (hnx : lx.length = nx) (hny : ly.length = ny) :
    Calls Try.prog 12 #[.slice A n c] w fun e w' => RmA w w' e x y lx ly nx ny co :=
  (implRouteMotions_any A n c lo hi R hm w h hw).mono fun _ _ hv => hv.as hx hy hc hlx hly hnx hny
theorem specRM_as (A : Option Addr) (n c lo hi : Nat) (R : List (List Int)) (hm : n ≤ maxLen) (w : World) (h : RdSS w lo hi A n (rrInt64 R)) (hw : hi ≤ w.heap.size) {x y co : Int} {lx ly : List Int} {nx ny : Nat} (hx : rmX R (r0 R 0) = x) (hy : rmX R (r1 R 0) = y) (hc : rmC R = co) (hlx : rmL R (tA R (R.length - 1)) = lx) (hly : rmL R (tB R (R.length - 1)) = ly) (hnx : lx.length = nx) (hny : ly.length = ny) :
    Calls Try.prog 13 #[.slice A n c] w fun e w' => RmA w w' e x y lx ly nx ny co :=
  (specRouteMotions_any A n c lo hi R hm w h hw).mono fun _ _ hv => hv.as hx hy hc hlx hly hnx hny
theorem specValidTable_d (A : Option Addr) (n c lo hi : Nat) (T : List (List Bool)) (hm : n ≤ maxLen) (w : World) (h : RdSS w lo hi A n (rrBool T)) :
    Calls Try.prog 15 #[.slice A n c] w fun e w' => e = .returned (.bool (okT T)) ∧ w' = w := by
  have HT := hide h
  clear h
  go_enter Try.func15, Try.ntmps15
  go_wp2_with fail
  refine (l15Ok_any A n c lo hi T hm _ HT.out).mono ?_
  rintro e w' ⟨rfl, hw⟩
  obtain rfl := hw.symm
  go_wp2_with fail
  go_ret
  exact ⟨rfl, rfl⟩
theorem d6no (A : Option Addr) (n c : Nat) (hn : n ≤ 4096) (w : World) : Calls Try.prog 4 #[.slice A n c] w fun e w' => e = .returned (.bool false) ∧ w = w' := by
  go_enter Try.func4, Try.ntmps4
  go_wp2_with fail
  go_ret
  exact ⟨by simp; omega, rfl⟩
theorem d6yes (A : Option Addr) (n c : Nat) (hn : 4096 < n) (w : World) : Calls Try.prog 4 #[.slice A n c] w fun e w' => e = .returned (.bool true) ∧ w = w' := by
  go_enter Try.func4, Try.ntmps4
  go_wp2_with fail
  go_ret
  exact ⟨by simp; omega, rfl⟩
end Go.Proofs.Ytoklcjpokffocaa
