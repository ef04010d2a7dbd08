/-
  SHORTEST LENGTHS: they are the same in both directions, neighbours differ by one at most, and what is reached is free. No program here, and no condition but those that each theorem names.
-/
import Derived.Test.YtnbahmjimnhfbaaDoorBfs3
namespace Go.Proofs.YtnbahmjimnhfbaaDoor
open Go.RowKit
set_option linter.unusedVariables false

/-- Only the start has the length 0. -/
def Zer (p : Int × Int) (s : Sst) : Prop := ∀ q, stOk q → ln s q = 0 → q = p
theorem zer_visit {p q : Int × Int} {s : Sst} (hs : Inv s) (h : Zer p s) {x : Int} (hx : 0 < x) (hq : stOk q) : Zer p (visit s x q) := by
  intro r hr h0
  by_cases hn : ln s q < 0
  · rw [ln_visit hs hq hr hn] at h0
    split at h0
    · omega
    · exact h r hr h0
  · have e : visit s x q = s := by unfold visit; rw [if_neg (show ¬ dget s.1 q.1 q.2 < 0 from hn)]
    rw [e] at h0
    exact h r hr h0
theorem zer_expandTo {T : List (List Bool)} {p0 : Int × Int} {s : Sst} {p : Int × Int} (hs : Inv s) (hp : p ∈ s.2) (h : Zer p0 s) (k : Nat) : Zer p0 (expandTo T s p k) := by
  induction k with
  | zero => simpa [expandTo] using h
  | succ k ih =>
    rcases Nat.lt_or_ge k (nxt T p.1 p.2).length with hk | hk
    · rw [expandTo_succ T s p k hk]
      obtain ⟨h1, h2, _⟩ := expandTo_inv (T := T) hs hp k
      obtain ⟨hps, hp0⟩ := hs.st p hp
      obtain ⟨k1, k2⟩ := nxt_ok (List.getElem_mem hk)
      exact zer_visit h1 ih (by rw [h2]; omega) k1
    · rw [expandTo_all T s p (k + 1) (by omega), ← expandTo_all T s p k hk]
      exact ih
theorem zer_run (T : List (List Bool)) {p : Int × Int} (hp : stOk p) (k : Nat) : Zer p (run T p k) := by
  induction k with
  | zero =>
    intro q hq h0
    replace h0 : dget (dset blank p.1 p.2 0) q.1 q.2 = 0 := h0
    rw [dget_dset blank_ok hp.1 hp.2 hq.1 hq.2] at h0
    split at h0
    · rename_i e; exact Prod.ext e.1.symm e.2.symm
    · rw [dget_blank hq.1 hq.2] at h0; omega
  | succ k ih =>
    unfold run
    split
    · rename_i q hq
      rw [← expandTo_all T _ q _ (Nat.le_refl _)]
      exact zer_expandTo (run_inv T hp k) (List.mem_of_getElem? hq) ih _
    · exact ih
theorem lens_zero {T : List (List Bool)} {p q : Int × Int} (hp : stOk p) (hq : stOk q) (h : dget (lens T p) q.1 q.2 = 0) : q = p := zer_run T hp 576 q hq h
theorem nxt_sym {T : List (List Bool)} {q r : Int × Int} (hq : stOk q) (h : r ∈ nxt T q.1 q.2) : q ∈ nxt T r.1 r.2 := by
  obtain ⟨h1, h2⟩ := nxt_ok h
  exact nxt_mem hq.1 hq.2 (by rw [stp_comm]; exact h2)
/-- Neighbours differ by one at most. -/
theorem lens_near (T : List (List Bool)) {p q r : Int × Int} (hp : stOk p) (hq : stOk q) (h0 : 0 ≤ dget (lens T p) q.1 q.2) (hr : r ∈ nxt T q.1 q.2) :
    0 ≤ dget (lens T p) r.1 r.2 ∧ dget (lens T p) r.1 r.2 ≤ dget (lens T p) q.1 q.2 + 1 ∧ dget (lens T p) q.1 q.2 - 1 ≤ dget (lens T p) r.1 r.2 := by
  obtain ⟨h1, h2⟩ := lens_step T hp hq h0 hr
  obtain ⟨h3, h4⟩ := lens_step T hp (nxt_ok hr).1 h1 (nxt_sym hq hr)
  exact ⟨h1, h2, by omega⟩
theorem lens_back {T : List (List Bool)} {p q : Int × Int} (hp : stOk p) (hq : stOk q) (h0 : 0 ≤ dget (lens T p) q.1 q.2) :
    0 ≤ dget (lens T q) p.1 p.2 ∧ dget (lens T q) p.1 p.2 ≤ dget (lens T p) q.1 q.2 := by
  have key : ∀ j : Nat, (j : Int) ≤ dget (lens T p) q.1 q.2 → 0 ≤ dget (lens T q) (rtAt T (lens T p) q j).1 (rtAt T (lens T p) q j).2 ∧ dget (lens T q) (rtAt T (lens T p) q j).1 (rtAt T (lens T p) q j).2 ≤ j := by
    intro j
    induction j with
    | zero =>
      intro _
      have := lens_start T hq
      show 0 ≤ dget (lens T q) q.1 q.2 ∧ dget (lens T q) q.1 q.2 ≤ ((0 : Nat) : Int)
      omega
    | succ j ih =>
      intro hj
      obtain ⟨i1, i2⟩ := ih (by omega)
      obtain ⟨s1, s2⟩ := rt_ok T hp hq j (by omega)
      obtain ⟨k, hk, e, _, _⟩ := rt_next T hp hq j (by omega)
      have hm : rtAt T (lens T p) q (j + 1) ∈ nxt T (rtAt T (lens T p) q j).1 (rtAt T (lens T p) q j).2 := by rw [← e]; exact List.getElem_mem hk
      have := lens_step T hq s1 i1 hm
      exact ⟨this.1, by omega⟩
  obtain ⟨n, hn⟩ : ∃ n : Nat, dget (lens T p) q.1 q.2 = n := ⟨(dget (lens T p) q.1 q.2).toNat, by omega⟩
  obtain ⟨s1, s2⟩ := rt_ok T hp hq n (by omega)
  have e := lens_zero hp s1 (by rw [s2]; omega)
  have := key n (by omega)
  rw [e] at this
  omega
/-- The lengths are the same in both directions. -/
theorem lens_sym (T : List (List Bool)) {p q : Int × Int} (hp : stOk p) (hq : stOk q) : dget (lens T p) q.1 q.2 = dget (lens T q) p.1 p.2 := by
  have b1 := lens_bd T hp hq.1 hq.2
  have b2 := lens_bd T hq hp.1 hp.2
  by_cases h : 0 ≤ dget (lens T p) q.1 q.2
  · have h1 := lens_back hp hq h
    have h2 := lens_back hq hp h1.1
    omega
  · by_cases h2 : 0 ≤ dget (lens T q) p.1 p.2
    · have := lens_back hq hp h2
      omega
    · omega
/-- What is reached from a free state is free. -/
theorem lens_free {T : List (List Bool)} {p q : Int × Int} (hp : stOk p) (hq : stOk q) (hf : tg T p.1 p.2 = false) (h : 0 ≤ dget (lens T p) q.1 q.2) : tg T q.1 q.2 = false := by
  by_cases h0 : dget (lens T p) q.1 q.2 = 0
  · rw [lens_zero hp hq h0]; exact hf
  · obtain ⟨r, hr, _⟩ := lens_par T hp hq.1 hq.2 (by omega)
    have := (nxt_ok hr).2
    unfold stp at this
    simp only [Bool.and_eq_true, Bool.not_eq_true'] at this
    exact this.1.1.1.2
end Go.Proofs.YtnbahmjimnhfbaaDoor
