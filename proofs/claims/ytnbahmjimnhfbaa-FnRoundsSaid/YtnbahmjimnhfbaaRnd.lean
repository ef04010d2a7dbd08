/-
  ROUNDS: what both controllers hear and do, with names for the values. No condition but those that each theorem names.
-/
import Derived.Test.YtnbahmjimnhfbaaRr
import Derived.Test.YtnbahmjimnhfbaaControl
namespace Go.Proofs.Ytnbahmjimnhfbaa
open Go.RowKit
set_option linter.unusedVariables false

def hearV (c : Ctl) (arr : Bool) (o : Int) : Ctl := (hv (hOk c.1 c.2.1 c.2.2.1 c.2.2.2.1 c.2.2.2.2 o) c.1, hv (hOk c.1 c.2.1 c.2.2.1 c.2.2.2.1 c.2.2.2.2 o) c.2.1, hv (hOk c.1 c.2.1 c.2.2.1 c.2.2.2.1 c.2.2.2.2 o) (hSeen arr c.2.2.1 o), hv (hOk c.1 c.2.1 c.2.2.1 c.2.2.2.1 c.2.2.2.2 o) (hAge arr c.2.2.2.1), hv (hOk c.1 c.2.1 c.2.2.1 c.2.2.2.1 c.2.2.2.2 o) c.2.2.2.2)
def hearN (c : Ctl) (o : Int) : Int := hCode c.1 c.2.1 c.2.2.1 c.2.2.2.1 c.2.2.2.2 o
def stepV (T : List (List Bool)) (mg st : Int) (first : Bool) (c : Ctl) : Ctl := (zv (codeC T mg st [c]) (stA T mg st first c.1 c.2.1 c.2.2.1 c.2.2.2.1), zv (codeC T mg st [c]) c.2.1, zv (codeC T mg st [c]) c.2.2.1, zv (codeC T mg st [c]) c.2.2.2.1, zv (codeC T mg st [c]) (stM T mg st first c.1 c.2.1 c.2.2.1 c.2.2.2.1))
theorem hear_ok {c : Ctl} {arr : Bool} {o : Int} (h : ctlOkP c = true) (ho : 0 ≤ o ∧ o ≤ 23) : hearV c arr o = hearC arr o c ∧ hearN c o = 0 := by
  have h1 : ctlOk c.1 c.2.1 c.2.2.1 c.2.2.2.1 c.2.2.2.2 = true := h
  have h2 := inR_mk ho.1 ho.2
  simp [hearV, hearN, hearC, hOk, hCode, hv, h1, h2]
theorem step_ok {T : List (List Bool)} {mg st : Int} {first : Bool} {c : Ctl} (h : codeC T mg st [c] = 0) : stepV T mg st first c = stepC T mg st first c := by
  simp [stepV, stepC, h, zv]
theorem codeC_all {T : List (List Bool)} {mg st : Int} {a b : Ctl} (h : codeC T mg st [a, b] = 0) : okT T = true ∧ ruOk mg st = true ∧ ctlOkP a = true ∧ ctlOkP b = true := by
  unfold codeC at h
  split at h
  · split at h
    · split at h
      · rename_i e; simp only [List.all_cons, List.all_nil, Bool.and_true, Bool.and_eq_true] at e; exact ⟨by assumption, by assumption, e.1, e.2⟩
      · exact absurd h (by decide)
    · exact absurd h (by decide)
  · exact absurd h (by decide)
theorem codeC_mk {T : List (List Bool)} {mg st : Int} {c : Ctl} (h1 : okT T = true) (h2 : ruOk mg st = true) (h3 : ctlOkP c = true) : codeC T mg st [c] = 0 := by
  simp [codeC, h1, h2, h3]
/-- A round that is taken: what both hear, and what both do. -/
theorem round_parts {T : List (List Bool)} {mg st : Int} {x1 x2 : Bool} {a b p q : Ctl} (h : codeC T mg st [a, b] = 0) (hp : rrP T mg st x1 x2 a b = (p, q)) :
    hearN a b.1 = 0 ∧ hearN b a.1 = 0 ∧ codeC T mg st [hearV a x1 b.1] = 0 ∧ codeC T mg st [hearV b x2 a.1] = 0 ∧ stepV T mg st true (hearV a x1 b.1) = p ∧ stepV T mg st false (hearV b x2 a.1) = q := by
  obtain ⟨h1, h2, h3, h4⟩ := codeC_all h
  have k1 := hear_ok (arr := x1) h3 (ctlOk_true h4).1
  have k2 := hear_ok (arr := x2) h4 (ctlOk_true h3).1
  have c1 : codeC T mg st [hearV a x1 b.1] = 0 := by rw [k1.1]; exact codeC_mk h1 h2 (hearC_ok h3 (ctlOk_true h4).1)
  have c2 : codeC T mg st [hearV b x2 a.1] = 0 := by rw [k2.1]; exact codeC_mk h1 h2 (hearC_ok h4 (ctlOk_true h3).1)
  unfold rrP at hp
  rw [if_pos h] at hp
  unfold roundC at hp
  injection hp with e1 e2
  refine ⟨k1.2, k2.2, c1, c2, ?_, ?_⟩
  · rw [step_ok c1, k1.1]; exact e1
  · rw [step_ok c2, k2.1]; exact e2

theorem specHear_as {h0 h1 h2 h3 h4 cc : Int} (a0 a1 a2 a3 a4 : Int) (arr : Bool) (x : Int) (w : World) (hP : Hid (hearV (a0, a1, a2, a3, a4) arr x = (h0, h1, h2, h3, h4))) (hc : Hid (hearN (a0, a1, a2, a3, a4) x = cc)) :
    Calls Try.prog 36 #[.agg #[.int .i64 a0, .int .i64 a1, .int .i64 a2, .int .i64 a3, .int .i64 a4], .bool arr, .int .i64 x] w fun e w' => e = .returned (.tuple #[.agg #[.int .i64 h0, .int .i64 h1, .int .i64 h2, .int .i64 h3, .int .i64 h4], .int .i64 cc]) ∧ Below w.heap.size w w' := by
  have h := specHearOther_any a0 a1 a2 a3 a4 arr x w
  have e := hP.out
  unfold hearV at e
  simp only [Prod.mk.injEq] at e
  obtain ⟨e0, e1, e2, e3, e4⟩ := e
  have ec : hCode a0 a1 a2 a3 a4 x = cc := hc.out
  rw [e0, e1, e2, e3, e4, ec] at h
  exact h
theorem specStep_as {h0 h1 h2 h3 h4 cc : Int} (A : Option Addr) (n c lo hi : Nat) (T : List (List Bool)) (hm : n ≤ maxLen) (mg st : Int) (first : Bool) (a0 a1 a2 a3 a4 : Int) (w : World) (hP : Hid (stepV T mg st first (a0, a1, a2, a3, a4) = (h0, h1, h2, h3, h4))) (hc : Hid (codeC T mg st [(a0, a1, a2, a3, a4)] = cc)) (hr : RdSS w lo hi A n (rrBool T)) (hhi : hi ≤ w.heap.size) :
    Calls Try.prog 33 #[.slice A n c, .agg #[.int .i64 mg, .int .i64 st], .bool first, .agg #[.int .i64 a0, .int .i64 a1, .int .i64 a2, .int .i64 a3, .int .i64 a4]] w fun e w' => e = .returned (.tuple #[.agg #[.int .i64 h0, .int .i64 h1, .int .i64 h2, .int .i64 h3, .int .i64 h4], .int .i64 cc]) ∧ Below w.heap.size w w' := by
  have h := specStepControl_any A n c lo hi T hm mg st first a0 a1 a2 a3 a4 w hr hhi
  have e := hP.out
  unfold stepV at e
  simp only [Prod.mk.injEq] at e
  obtain ⟨e0, e1, e2, e3, e4⟩ := e
  rw [e0, e1, e2, e3, e4, hc.out] at h
  exact h

theorem implHear_as {h0 h1 h2 h3 h4 cc : Int} (a0 a1 a2 a3 a4 : Int) (arr : Bool) (x : Int) (w : World) (hP : Hid (hearV (a0, a1, a2, a3, a4) arr x = (h0, h1, h2, h3, h4))) (hc : Hid (hearN (a0, a1, a2, a3, a4) x = cc)) :
    Calls Try.prog 35 #[.agg #[.int .i64 a0, .int .i64 a1, .int .i64 a2, .int .i64 a3, .int .i64 a4], .bool arr, .int .i64 x] w fun e w' => e = .returned (.tuple #[.agg #[.int .i64 h0, .int .i64 h1, .int .i64 h2, .int .i64 h3, .int .i64 h4], .int .i64 cc]) ∧ Below w.heap.size w w' := by
  have h := implHearOther_any a0 a1 a2 a3 a4 arr x w
  have e := hP.out
  unfold hearV at e
  simp only [Prod.mk.injEq] at e
  obtain ⟨e0, e1, e2, e3, e4⟩ := e
  have ec : hCode a0 a1 a2 a3 a4 x = cc := hc.out
  rw [e0, e1, e2, e3, e4, ec] at h
  exact h
theorem implStep_as {h0 h1 h2 h3 h4 cc : Int} (A : Option Addr) (n c lo hi : Nat) (T : List (List Bool)) (hm : n ≤ maxLen) (mg st : Int) (first : Bool) (a0 a1 a2 a3 a4 : Int) (w : World) (hP : Hid (stepV T mg st first (a0, a1, a2, a3, a4) = (h0, h1, h2, h3, h4))) (hc : Hid (codeC T mg st [(a0, a1, a2, a3, a4)] = cc)) (hr : RdSS w lo hi A n (rrBool T)) (hhi : hi ≤ w.heap.size) :
    Calls Try.prog 32 #[.slice A n c, .agg #[.int .i64 mg, .int .i64 st], .bool first, .agg #[.int .i64 a0, .int .i64 a1, .int .i64 a2, .int .i64 a3, .int .i64 a4]] w fun e w' => e = .returned (.tuple #[.agg #[.int .i64 h0, .int .i64 h1, .int .i64 h2, .int .i64 h3, .int .i64 h4], .int .i64 cc]) ∧ Below w.heap.size w w' := by
  have h := implStepControl_any A n c lo hi T hm mg st first a0 a1 a2 a3 a4 w hr hhi
  have e := hP.out
  unfold stepV at e
  simp only [Prod.mk.injEq] at e
  obtain ⟨e0, e1, e2, e3, e4⟩ := e
  rw [e0, e1, e2, e3, e4, hc.out] at h
  exact h

theorem g6no (A : Option Addr) (n c : Nat) (hn : n ≤ 4096) (w : World) : Calls Try.prog 6 #[.slice A n c] w fun e w' => e = .returned (.bool false) ∧ w = w' := by
  go_enter Try.func6, Try.ntmps6
  go_wp2
  go_ret
  exact ⟨ret_bool (by simp; omega), rfl⟩
theorem g6yes (A : Option Addr) (n c : Nat) (hn : 4096 < n) (w : World) : Calls Try.prog 6 #[.slice A n c] w fun e w' => e = .returned (.bool true) ∧ w = w' := by
  go_enter Try.func6, Try.ntmps6
  go_wp2
  go_ret
  exact ⟨ret_bool (by simp; omega), rfl⟩

end Go.Proofs.Ytnbahmjimnhfbaa
