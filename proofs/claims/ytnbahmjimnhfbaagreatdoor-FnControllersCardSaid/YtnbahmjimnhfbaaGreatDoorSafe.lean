/-
  CONTROLLERS THAT KNOW OF EACH OTHER: with a margin of 1 or more no round leads through a conflict. Plain, no condition but those that each theorem names.
-/
import Derived.Test.YtnbahmjimnhfbaaGreatDoorRs
namespace Go.Proofs.YtnbahmjimnhfbaaGreatDoor
open Go.RowKit
set_option linter.unusedVariables false

theorem clr_no {T : List (List Bool)} {first : Bool} {d s m o : Int} (h : clr T first d s m = true) (ho : 0 ≤ o ∧ o ≤ 23) (hs : siz (trn s o) ≤ m) : tgF T first d o = false := by
  cases e : tgF T first d o
  · rfl
  · have := clr_bad (T := T) (first := first) (d := d) (s := s) (m := m) o.toNat (by omega) (by rw [Int.toNat_of_nonneg ho.1]; exact hs) (by rw [Int.toNat_of_nonneg ho.1]; exact e)
    rw [h] at this; cases this
theorem siz_self (s : Int) : siz (trn s s) = 0 := by
  unfold siz trn; split <;> split <;> omega
theorem siz_next (s b g : Int) (hb : 0 ≤ b ∧ b ≤ 23) (hs : 0 ≤ s ∧ s ≤ 23) : siz (trn s (nxtD b g)) ≤ siz (trn s b) + 1 := by
  unfold nxtD
  by_cases h : trn b g < 0
  · rw [if_pos h]
    clear h
    unfold siz trn
    split <;> split <;> split <;> split <;> omega
  · rw [if_neg h]
    clear h
    unfold siz trn
    split <;> split <;> split <;> split <;> omega
/-- What a controller has seen is no farther from where the other one is than its age allows. -/
def knw (e : Int) (a b : Ctl) : Prop := siz (trn a.2.2.1 b.1) ≤ a.2.2.2.1 + e
structure SafeC (T : List (List Bool)) (p : Ctl × Ctl) : Prop where
  oka : ctlOkP p.1 = true
  okb : ctlOkP p.2 = true
  free : tg T p.1.1 p.2.1 = false
  ka : knw 1 p.1 p.2
  kb : knw 1 p.2 p.1
theorem hear_knw {arr : Bool} {a b : Ctl} (ha : ctlOkP a = true) (h : knw 1 a b) : knw 0 (hearC arr b.1 a) b := by
  obtain ⟨h1, h2, h3, h4, h5⟩ := ctlOk_true ha
  unfold knw hearC hSeen hAge at *
  cases arr
  · simp only [Bool.false_eq_true, if_false]
    have := (siz_bd a.2.2.1 b.1).2
    omega
  · simp only [if_true]
    rw [siz_self]; omega
theorem step_at {T : List (List Bool)} {mg st : Int} {first : Bool} (c : Ctl) : (stepC T mg st first c).1 = c.1 ∨ (stepC T mg st first c).1 = nxtD c.1 c.2.1 ∧ clr T first (nxtD c.1 c.2.1) c.2.2.1 (mg + c.2.2.2.1) = true := by
  unfold stepC
  simp only
  unfold stA
  by_cases h : stM T mg st first c.1 c.2.1 c.2.2.1 c.2.2.2.1 = 2
  · right
    rw [if_pos h]
    refine ⟨rfl, ?_⟩
    unfold stM at h
    split at h
    · exact absurd h (by decide)
    · split at h
      · exact absurd h (by decide)
      · split at h
        · assumption
        · exact absurd h (by decide)
  · left; rw [if_neg h]
theorem step_knw {T : List (List Bool)} {mg st : Int} {f1 f2 : Bool} {a b : Ctl} (ha : ctlOkP a = true) (hb : ctlOkP b = true) (h : knw 0 a b) : knw 1 (stepC T mg st f1 a) (stepC T mg st f2 b) := by
  obtain ⟨h1, h2, h3, h4, h5⟩ := ctlOk_true ha
  obtain ⟨g1, g2, g3, g4, g5⟩ := ctlOk_true hb
  have e1 : (stepC T mg st f1 a).2.2.1 = a.2.2.1 := rfl
  have e2 : (stepC T mg st f1 a).2.2.2.1 = a.2.2.2.1 := rfl
  unfold knw at *
  rw [e1, e2]
  rcases step_at (T := T) (mg := mg) (st := st) (first := f2) b with e | ⟨e, _⟩
  · rw [e]; omega
  · rw [e]
    have := siz_next a.2.2.1 b.1 b.2.1 g1 h3
    omega
theorem safe_round {T : List (List Bool)} {mg st : Int} {x1 x2 : Bool} {p : Ctl × Ctl} (hm : 1 ≤ mg) (h : SafeC T p) : badC T p (roundC T mg st x1 x2 p) = false ∧ SafeC T (roundC T mg st x1 x2 p) := by
  obtain ⟨a, b⟩ := p
  obtain ⟨oka, okb, free, ka, kb⟩ := h
  simp only at oka okb free ka kb
  have oa : 0 ≤ a.1 ∧ a.1 ≤ 23 := (ctlOk_true oka).1
  have ob : 0 ≤ b.1 ∧ b.1 ≤ 23 := (ctlOk_true okb).1
  have hka := hear_knw (arr := x1) oka ka
  have hkb := hear_knw (arr := x2) okb kb
  have oka' : ctlOkP (hearC x1 b.1 a) = true := hearC_ok oka ob
  have okb' : ctlOkP (hearC x2 a.1 b) = true := hearC_ok okb oa
  have sa := step_at (T := T) (mg := mg) (st := st) (first := true) (hearC x1 b.1 a)
  have sb := step_at (T := T) (mg := mg) (st := st) (first := false) (hearC x2 a.1 b)
  have ea : (hearC x1 b.1 a).1 = a.1 := rfl
  have eb : (hearC x2 a.1 b).1 = b.1 := rfl
  have na := nxtD_bd (hearC x1 b.1 a).1 (hearC x1 b.1 a).2.1
  have nb := nxtD_bd (hearC x2 a.1 b).1 (hearC x2 a.1 b).2.1
  have s3a := (ctlOk_true oka').2.2.1
  have s3b := (ctlOk_true okb').2.2.1
  have kna := siz_next (hearC x1 b.1 a).2.2.1 (hearC x2 a.1 b).1 (hearC x2 a.1 b).2.1 ob s3a
  have knb := siz_next (hearC x2 a.1 b).2.2.1 (hearC x1 b.1 a).1 (hearC x1 b.1 a).2.1 oa s3b
  have hka' : siz (trn (hearC x1 b.1 a).2.2.1 b.1) ≤ (hearC x1 b.1 a).2.2.2.1 + 0 := hka
  have hkb' : siz (trn (hearC x2 a.1 b).2.2.1 a.1) ≤ (hearC x2 a.1 b).2.2.2.1 + 0 := hkb
  have key : tg T (stepC T mg st true (hearC x1 b.1 a)).1 (stepC T mg st false (hearC x2 a.1 b)).1 = false ∧ tg T (stepC T mg st true (hearC x1 b.1 a)).1 b.1 = false ∧ tg T a.1 (stepC T mg st false (hearC x2 a.1 b)).1 = false := by
    rcases sa with e | ⟨e, c⟩
    · rcases sb with f | ⟨f, d⟩
      · rw [e, f, ea, eb]; exact ⟨free, free, free⟩
      · have d0 : tgF T false _ a.1 = false := clr_no d oa (by omega)
        rw [e, ea, f]
        exact ⟨d0, free, d0⟩
    · have c0 : tgF T true _ b.1 = false := clr_no c ob (by omega)
      rcases sb with f | ⟨f, d⟩
      · rw [e, f, eb]; exact ⟨c0, c0, free⟩
      · have d0 : tgF T false _ a.1 = false := clr_no d oa (by omega)
        have c1 : tgF T true _ _ = false := clr_no c nb (by rw [eb] at kna ⊢; omega)
        rw [e, f]
        exact ⟨c1, c0, d0⟩
  refine ⟨?_, stepC_ok oka', stepC_ok okb', key.1, ?_, ?_⟩
  · show (tg T (stepC T mg st true (hearC x1 b.1 a)).1 (stepC T mg st false (hearC x2 a.1 b)).1 || (tg T (stepC T mg st true (hearC x1 b.1 a)).1 b.1 || tg T a.1 (stepC T mg st false (hearC x2 a.1 b)).1)) = false
    rw [key.1, key.2.1, key.2.2]; rfl
  · exact step_knw oka' okb' hka
  · exact step_knw okb' oka' hkb
theorem safe_rounds {T : List (List Bool)} {mg st : Int} {L : List (Bool × Bool)} {p : Ctl × Ctl} (hm : 1 ≤ mg) (h : SafeC T p) (k : Nat) : (rsS T mg st L p k).2 = -1 ∧ SafeC T (rsS T mg st L p k).1 := by
  induction k with
  | zero => exact ⟨rfl, h⟩
  | succ k ih =>
    obtain ⟨h1, h2⟩ := ih
    have := safe_round (mg := mg) (st := st) (x1 := (L.getD k (false, false)).1) (x2 := (L.getD k (false, false)).2) hm h2
    refine ⟨?_, this.2⟩
    show (if _ then _ else _) = _
    rw [if_neg (by rw [this.1]; simp)]
    exact h1
theorem ok_rounds {T : List (List Bool)} {mg st : Int} {L : List (Bool × Bool)} {p : Ctl × Ctl} (h1 : ctlOkP p.1 = true) (h2 : ctlOkP p.2 = true) (k : Nat) : ctlOkP (rsS T mg st L p k).1.1 = true ∧ ctlOkP (rsS T mg st L p k).1.2 = true := by
  induction k with
  | zero => exact ⟨h1, h2⟩
  | succ k ih => exact roundC_ok ih.1 ih.2
theorem codeC_parts {T : List (List Bool)} {mg st : Int} {a b : Ctl} (h : codeC T mg st [a, b] = 0) : okT T = true ∧ ruOk mg st = true ∧ ctlOkP a = true ∧ ctlOkP b = true := by
  unfold codeC at h
  split at h
  · split at h
    · split at h
      · rename_i e; simp only [List.all_cons, List.all_nil, Bool.and_true, Bool.and_eq_true] at e; exact ⟨by assumption, by assumption, e.1, e.2⟩
      · exact absurd h (by decide)
    · exact absurd h (by decide)
  · exact absurd h (by decide)
/-- What is asked of rounds that have run. -/
theorem rounds_law {T : List (List Bool)} {mg st : Int} {L : List (Bool × Bool)} {a b : Ctl} (h : (rsV T mg st a b L).2.2 = 0) :
    codeC T mg st [a, b] = 0 ∧ ctlOkP (rsV T mg st a b L).1.1 = true ∧ ctlOkP (rsV T mg st a b L).1.2 = true ∧ (1 ≤ mg → a.2.2.1 = b.1 → b.2.2.1 = a.1 → a.2.2.2.1 = 0 → b.2.2.2.1 = 0 → tg T a.1 b.1 = false → (rsV T mg st a b L).2.1 = -1) := by
  by_cases hc : codeC T mg st [a, b] = 0
  · by_cases hl : 200 < L.length
    · rw [rsV_full hc hl] at h; exact absurd h (by decide)
    · obtain ⟨ok, hr, ha, hb⟩ := codeC_parts hc
      have e : rsV T mg st a b L = ((rsS T mg st L (a, b) L.length).1, (rsS T mg st L (a, b) L.length).2, 0) := by unfold rsV; rw [if_pos hc, if_neg hl]
      rw [e]
      have := ok_rounds (T := T) (mg := mg) (st := st) (L := L) (p := (a, b)) ha hb L.length
      refine ⟨hc, this.1, this.2, fun hm e1 e2 e3 e4 hf => ?_⟩
      refine (safe_rounds hm ⟨ha, hb, hf, ?_, ?_⟩ L.length).1
      · show siz (trn a.2.2.1 b.1) ≤ a.2.2.2.1 + 1
        rw [e1, siz_self]; omega
      · show siz (trn b.2.2.1 a.1) ≤ b.2.2.2.1 + 1
        rw [e2, siz_self]; omega
  · rw [rsV_bad rfl hc] at h; exact absurd h hc
end Go.Proofs.YtnbahmjimnhfbaaGreatDoor
