/-
  WHAT THE LAW ON CONTROLLERS CALLS, with names for the values. No condition but those that each theorem names.
-/
import Derived.Test.YtnbahmjimnhfbaaGreatDoorRt
import Derived.Test.YtnbahmjimnhfbaaGreatDoorNeed
import Derived.Test.YtnbahmjimnhfbaaGreatDoorA
import Derived.Test.YtnbahmjimnhfbaaGreatDoorCt
import Derived.Test.YtnbahmjimnhfbaaGreatDoorControl
namespace Go.Proofs.YtnbahmjimnhfbaaGreatDoor
open Go.RowKit
set_option linter.unusedVariables false

def nwC (a g x : Int) : Int := if 0 ≤ a ∧ a ≤ 23 ∧ 0 ≤ g ∧ g ≤ 23 ∧ 0 ≤ x ∧ x ≤ 23 then 0 else 2
def nwV (a g x : Int) : Ctl := if 0 ≤ a ∧ a ≤ 23 ∧ 0 ≤ g ∧ g ≤ 23 ∧ 0 ≤ x ∧ x ≤ 23 then (a, g, x, 0, if a = g then 1 else 3) else (0, 0, 0, 0, 0)
def nmI (k : Int) : ByteArray := if 1 ≤ k ∧ k ≤ 4 then nmM (k - 1).toNat else ⟨#[]⟩

theorem specNew_as {h0 h1 h2 h3 h4 cc : Int} (a g x : Int) (w : World) (hP : Hid (nwV a g x = (h0, h1, h2, h3, h4))) (hc : Hid (nwC a g x = cc)) :
    Calls Tryz.prog 13 #[.int .i64 a, .int .i64 g, .int .i64 x] w fun e w' => e = .returned (.tuple #[.agg #[.int .i64 h0, .int .i64 h1, .int .i64 h2, .int .i64 h3, .int .i64 h4], .int .i64 cc]) ∧ Below w.heap.size w w' := by
  have e := hP.out
  have ec := hc.out
  unfold nwV at e
  unfold nwC at ec
  by_cases h : 0 ≤ a ∧ a ≤ 23 ∧ 0 ≤ g ∧ g ≤ 23 ∧ 0 ≤ x ∧ x ≤ 23
  · rw [if_pos h] at e ec
    simp only [Prod.mk.injEq] at e
    obtain ⟨rfl, rfl, rfl, rfl, rfl⟩ := e
    subst ec
    obtain ⟨k0, k1, k2, k3, k4, k5⟩ := h
    by_cases he : a = g
    · subst he
      rw [if_pos rfl]
      exact specNewControl_ok_eq _ _ k0 k1 k4 k5 _
    · rw [if_neg he]
      exact specNewControl_ok_ne _ _ _ k0 k1 k2 k3 k4 k5 (by simpa using he) _
  · rw [if_neg h] at e ec
    simp only [Prod.mk.injEq] at e
    obtain ⟨rfl, rfl, rfl, rfl, rfl⟩ := e
    subst ec
    exact specNewControl_bad _ _ _ h _
theorem specNeed_as {m cc : Int} (A : Option Addr) (n c lo hi : Nat) (T : List (List Bool)) (hm : n ≤ maxLen) (mg st a0 a1 a2 a3 a4 b0 b1 b2 b3 b4 : Int) (w : World) (hP : Hid (rnV T mg st (a0, a1, a2, a3, a4) (b0, b1, b2, b3, b4) = (m, cc))) (hr : RdSS w lo hi A n (rrBool T)) (hhi : hi ≤ w.heap.size) :
    Calls Tryz.prog 10 #[.slice A n c, .agg #[.int .i64 mg, .int .i64 st], .agg #[.int .i64 a0, .int .i64 a1, .int .i64 a2, .int .i64 a3, .int .i64 a4], .agg #[.int .i64 b0, .int .i64 b1, .int .i64 b2, .int .i64 b3, .int .i64 b4]] w fun e w' => e = .returned (.tuple #[.int .i64 m, .int .i64 cc]) ∧ Below w.heap.size w w' := by
  have h := specRoundsNeeded_any A n c lo hi T hm mg st (a0, a1, a2, a3, a4) (b0, b1, b2, b3, b4) w hr hhi
  rw [hP.out] at h
  exact h
set_option maxHeartbeats 1000000 in
theorem specMode_as {s : ByteArray} (p : Int) (p0 : 0 ≤ p) (p1 : p ≤ 6) (w : World) (hs : Hid (nmI (p - 1) = s)) :
    Calls Tryz.prog 17 #[.int .i64 (p - 1)] w fun e w' => e = .returned (.string s) ∧ Below w.heap.size w w' := by
  rcases (show p = 0 ∨ p = 1 ∨ p = 2 ∨ p = 3 ∨ p = 4 ∨ p = 5 ∨ p = 6 by omega) with rfl | rfl | rfl | rfl | rfl | rfl | rfl
  all_goals
    go_enter Tryz.func17, Tryz.ntmps17
    go_wp2
    all_goals (go_ret; refine ⟨retstr (by rw [← hs.out]; rfl), ?_⟩)
    all_goals (repeat (first | exact Below.refl _ _ | refine Below.drew ?_ | refine Below.alloc ?_ (by first | (simp; done) | (simp; omega)) _))

theorem implNew_as {h0 h1 h2 h3 h4 cc : Int} (a g x : Int) (w : World) (hP : Hid (nwV a g x = (h0, h1, h2, h3, h4))) (hc : Hid (nwC a g x = cc)) :
    Calls Tryz.prog 12 #[.int .i64 a, .int .i64 g, .int .i64 x] w fun e w' => e = .returned (.tuple #[.agg #[.int .i64 h0, .int .i64 h1, .int .i64 h2, .int .i64 h3, .int .i64 h4], .int .i64 cc]) ∧ Below w.heap.size w w' := by
  have e := hP.out
  have ec := hc.out
  unfold nwV at e
  unfold nwC at ec
  by_cases h : 0 ≤ a ∧ a ≤ 23 ∧ 0 ≤ g ∧ g ≤ 23 ∧ 0 ≤ x ∧ x ≤ 23
  · rw [if_pos h] at e ec
    simp only [Prod.mk.injEq] at e
    obtain ⟨rfl, rfl, rfl, rfl, rfl⟩ := e
    subst ec
    obtain ⟨k0, k1, k2, k3, k4, k5⟩ := h
    by_cases he : a = g
    · subst he
      rw [if_pos rfl]
      exact implNewControl_ok_eq _ _ k0 k1 k4 k5 _
    · rw [if_neg he]
      exact implNewControl_ok_ne _ _ _ k0 k1 k2 k3 k4 k5 (by simpa using he) _
  · rw [if_neg h] at e ec
    simp only [Prod.mk.injEq] at e
    obtain ⟨rfl, rfl, rfl, rfl, rfl⟩ := e
    subst ec
    exact implNewControl_bad _ _ _ h _
theorem implNeed_as {m cc : Int} (A : Option Addr) (n c lo hi : Nat) (T : List (List Bool)) (hm : n ≤ maxLen) (mg st a0 a1 a2 a3 a4 b0 b1 b2 b3 b4 : Int) (w : World) (hP : Hid (rnV T mg st (a0, a1, a2, a3, a4) (b0, b1, b2, b3, b4) = (m, cc))) (hr : RdSS w lo hi A n (rrBool T)) (hhi : hi ≤ w.heap.size) :
    Calls Tryz.prog 9 #[.slice A n c, .agg #[.int .i64 mg, .int .i64 st], .agg #[.int .i64 a0, .int .i64 a1, .int .i64 a2, .int .i64 a3, .int .i64 a4], .agg #[.int .i64 b0, .int .i64 b1, .int .i64 b2, .int .i64 b3, .int .i64 b4]] w fun e w' => e = .returned (.tuple #[.int .i64 m, .int .i64 cc]) ∧ Below w.heap.size w w' := by
  have h := implRoundsNeeded_any A n c lo hi T hm mg st (a0, a1, a2, a3, a4) (b0, b1, b2, b3, b4) w hr hhi
  rw [hP.out] at h
  exact h
set_option maxHeartbeats 1000000 in
theorem implMode_as {s : ByteArray} (p : Int) (p0 : 0 ≤ p) (p1 : p ≤ 6) (w : World) (hs : Hid (nmI (p - 1) = s)) :
    Calls Tryz.prog 16 #[.int .i64 (p - 1)] w fun e w' => e = .returned (.string s) ∧ Below w.heap.size w w' := by
  rcases (show p = 0 ∨ p = 1 ∨ p = 2 ∨ p = 3 ∨ p = 4 ∨ p = 5 ∨ p = 6 by omega) with rfl | rfl | rfl | rfl | rfl | rfl | rfl
  all_goals
    go_enter Tryz.func16, Tryz.ntmps16
    go_wp2
    all_goals (go_ret; refine ⟨retstr (by rw [← hs.out]; rfl), ?_⟩)
    all_goals (repeat (first | exact Below.refl _ _ | refine Below.drew ?_ | refine Below.alloc ?_ (by first | (simp; done) | (simp; omega)) _))

theorem specText_as {t : ByteArray} (a0 a1 a2 a3 a4 : Int) (w : World) (hP : Hid (ctlT a0 a1 a2 a3 a4 = t)) :
    Calls Tryz.prog 19 #[.agg #[.int .i64 a0, .int .i64 a1, .int .i64 a2, .int .i64 a3, .int .i64 a4]] w fun e w' => e = .returned (.string t) ∧ Below w.heap.size w w' := by
  have h := specControlText_any a0 a1 a2 a3 a4 w
  rw [hP.out] at h; exact h
theorem implText_as {t : ByteArray} (a0 a1 a2 a3 a4 : Int) (w : World) (ht : Tb w) (hP : Hid (ctlT a0 a1 a2 a3 a4 = t)) :
    Calls Tryz.prog 18 #[.agg #[.int .i64 a0, .int .i64 a1, .int .i64 a2, .int .i64 a3, .int .i64 a4]] w fun e w' => e = .returned (.string t) ∧ Below w.heap.size w w' := by
  have h := implControlText_any a0 a1 a2 a3 a4 w ht
  rw [hP.out] at h; exact h
theorem implVC_as {t : Bool} (a0 a1 a2 a3 a4 : Int) (w : World) (hP : Hid (ctlOk a0 a1 a2 a3 a4 = t)) :
    Calls Tryz.prog 20 #[.agg #[.int .i64 a0, .int .i64 a1, .int .i64 a2, .int .i64 a3, .int .i64 a4]] w fun e w' => e = .returned (.bool t) ∧ Below w.heap.size w w' := by
  have h := implValidControl_any a0 a1 a2 a3 a4 w
  rw [hP.out] at h; exact h
theorem specVC_as {t : Bool} (a0 a1 a2 a3 a4 : Int) (w : World) (hP : Hid (ctlOk a0 a1 a2 a3 a4 = t)) :
    Calls Tryz.prog 21 #[.agg #[.int .i64 a0, .int .i64 a1, .int .i64 a2, .int .i64 a3, .int .i64 a4]] w fun e w' => e = .returned (.bool t) ∧ Below w.heap.size w w' := by
  have BB : ∀ o : Obj, Below w.heap.size w (w.alloc o) := fun o => (Below.refl _ _).alloc (Nat.le_refl _) _
  obtain ⟨X, hX⟩ : ∃ X : Obj, X = .cells #[.int .i64 a0, .int .i64 a1, .int .i64 a2, .int .i64 a3, .int .i64 a4] 28 := ⟨_, rfl⟩
  have HX := hide hX
  clear hX
  go_enter Tryz.func21, Tryz.ntmps21
  go_wp2_with fail
  refine (l18Ok_any a0 a1 a2 a3 a4 _).mono ?_
  rintro e w1 ⟨rfl, hb⟩
  rw [hP.out]
  go_wp2_with fail
  go_ret
  first
    | exact ⟨rfl, hb⟩
    | exact ⟨rfl, (BB _).trans (hb.mono (by simp))⟩
theorem implVR_as {t : Bool} (mg st : Int) (w : World) (hP : Hid (ruOk mg st = t)) :
    Calls Tryz.prog 22 #[.agg #[.int .i64 mg, .int .i64 st]] w fun e w' => e = .returned (.bool t) ∧ Below w.heap.size w w' := by
  have h := ValidRules_any mg st w
  rw [hP.out] at h; exact h
theorem specVR_as {t : Bool} (mg st : Int) (w : World) (hP : Hid (ruOk mg st = t)) :
    Calls Tryz.prog 23 #[.agg #[.int .i64 mg, .int .i64 st]] w fun e w' => e = .returned (.bool t) ∧ Below w.heap.size w w' := by
  have BB : ∀ o : Obj, Below w.heap.size w (w.alloc o) := fun o => (Below.refl _ _).alloc (Nat.le_refl _) _
  go_enter Tryz.func23, Tryz.ntmps23
  go_wp2_with fail
  refine (l18Rules_any mg st _).mono ?_
  rintro e w1 ⟨rfl, hb⟩
  rw [hP.out]
  go_wp2_with fail
  go_ret
  first
    | exact ⟨rfl, hb⟩
    | exact ⟨rfl, (BB _).trans (hb.mono (by simp))⟩
theorem c6no (A : Option Addr) (n c : Nat) (hn : n ≤ 4096) (w : World) : Calls Tryz.prog 4 #[.slice A n c] w fun e w' => e = .returned (.bool false) ∧ w = w' := by
  go_enter Tryz.func4, Tryz.ntmps4
  go_wp2
  go_ret
  exact ⟨ret_bool (by simp; omega), rfl⟩
theorem c6yes (A : Option Addr) (n c : Nat) (hn : 4096 < n) (w : World) : Calls Tryz.prog 4 #[.slice A n c] w fun e w' => e = .returned (.bool true) ∧ w = w' := by
  go_enter Tryz.func4, Tryz.ntmps4
  go_wp2
  go_ret
  exact ⟨ret_bool (by simp; omega), rfl⟩
end Go.Proofs.YtnbahmjimnhfbaaGreatDoor
