/-
  CONTROLLERS by value: valid, hear. No condition but those that each theorem names.
-/
import Derived.Test.YtnbahmjimnhfbaaStructs
import Derived.Test.YtnbahmjimnhfbaaVWorld
namespace Go.Proofs.Ytnbahmjimnhfbaa
open Go.RowKit
set_option linter.unusedVariables false

def ctlOk (a b c d e : Int) : Bool := inR a 0 23 && inR b 0 23 && inR c 0 23 && inR d 0 200 && inR e 1 4
def hSeen (arr : Bool) (s o : Int) : Int := if arr then o else s
def hAge (arr : Bool) (a : Int) : Int := if arr then 0 else min a 199 + 1

theorem ctlOk_true {a b c d e : Int} (h : ctlOk a b c d e = true) : (0 ≤ a ∧ a ≤ 23) ∧ (0 ≤ b ∧ b ≤ 23) ∧ (0 ≤ c ∧ c ≤ 23) ∧ (0 ≤ d ∧ d ≤ 200) ∧ (1 ≤ e ∧ e ≤ 4) := by
  simpa [ctlOk, inR, and_assoc] using h

set_option maxHeartbeats 400000 in
theorem l00Min_any (a b : Int) (w : World) : Calls Try.prog 109 #[.int .i64 a, .int .i64 b] w fun e w' => e = .returned (.int .i64 (min a b)) ∧ w' = w := by
  by_cases h : a < b
  · have hd : decide (a < b) = true := by simpa using h
    go_enter Try.func109, Try.ntmps109
    go_wp2_with fail
    go_ret
    exact ⟨ret_int (by omega), rfl⟩
  · have hd : decide (a < b) = false := by simpa using h
    go_enter Try.func109, Try.ntmps109
    go_wp2_with fail
    go_ret
    exact ⟨ret_int (by omega), rfl⟩

set_option maxHeartbeats 1000000 in
theorem l18Ok_any (x0 x1 x2 x3 x4 : Int) (w : World) : Calls Try.prog 81 #[.agg #[.int .i64 x0, .int .i64 x1, .int .i64 x2, .int .i64 x3, .int .i64 x4]] w fun e w' => e = .returned (.bool (ctlOk x0 x1 x2 x3 x4)) ∧ Below w.heap.size w w' := by
  unfold ctlOk
  cases e0 : inR x0 0 23
  · skip
    go_enter Try.func81, Try.ntmps81
    go_wp2_with (first | (go_at_call 82; refine (l02Dir_any _ _).mono ?_; rintro e w' ⟨rfl, hw⟩; obtain rfl := hw.symm) | (go_at_call 52; refine (l00In_any _ _ _ _).mono ?_; rintro e w' ⟨rfl, hw⟩; obtain rfl := hw.symm))
    go_ret
    refine ⟨rfl, ?_⟩
    repeat (first | exact Below.refl _ _ | refine Below.drew ?_ | refine Below.alloc ?_ (by first | omega | (simp; done) | (simp; omega) | (simp at *; omega)) _ | refine Below.setCell ?_ (by first | omega | (simp; done) | (simp; omega) | (simp at *; omega)) _ | refine Below.trans ?_ (Below.mono (by assumption) (by first | omega | (simp; done) | (simp; omega) | (simp at *; omega))))
  cases e1 : inR x1 0 23
  · skip
    go_enter Try.func81, Try.ntmps81
    go_wp2_with (first | (go_at_call 82; refine (l02Dir_any _ _).mono ?_; rintro e w' ⟨rfl, hw⟩; obtain rfl := hw.symm) | (go_at_call 52; refine (l00In_any _ _ _ _).mono ?_; rintro e w' ⟨rfl, hw⟩; obtain rfl := hw.symm))
    go_ret
    refine ⟨rfl, ?_⟩
    repeat (first | exact Below.refl _ _ | refine Below.drew ?_ | refine Below.alloc ?_ (by first | omega | (simp; done) | (simp; omega) | (simp at *; omega)) _ | refine Below.setCell ?_ (by first | omega | (simp; done) | (simp; omega) | (simp at *; omega)) _ | refine Below.trans ?_ (Below.mono (by assumption) (by first | omega | (simp; done) | (simp; omega) | (simp at *; omega))))
  cases e2 : inR x2 0 23
  · skip
    go_enter Try.func81, Try.ntmps81
    go_wp2_with (first | (go_at_call 82; refine (l02Dir_any _ _).mono ?_; rintro e w' ⟨rfl, hw⟩; obtain rfl := hw.symm) | (go_at_call 52; refine (l00In_any _ _ _ _).mono ?_; rintro e w' ⟨rfl, hw⟩; obtain rfl := hw.symm))
    go_ret
    refine ⟨rfl, ?_⟩
    repeat (first | exact Below.refl _ _ | refine Below.drew ?_ | refine Below.alloc ?_ (by first | omega | (simp; done) | (simp; omega) | (simp at *; omega)) _ | refine Below.setCell ?_ (by first | omega | (simp; done) | (simp; omega) | (simp at *; omega)) _ | refine Below.trans ?_ (Below.mono (by assumption) (by first | omega | (simp; done) | (simp; omega) | (simp at *; omega))))
  cases e3 : inR x3 0 200
  all_goals
    go_enter Try.func81, Try.ntmps81
    go_wp2_with (first | (go_at_call 82; refine (l02Dir_any _ _).mono ?_; rintro e w' ⟨rfl, hw⟩; obtain rfl := hw.symm) | (go_at_call 52; refine (l00In_any _ _ _ _).mono ?_; rintro e w' ⟨rfl, hw⟩; obtain rfl := hw.symm))
    go_ret
    refine ⟨rfl, ?_⟩
    repeat (first | exact Below.refl _ _ | refine Below.drew ?_ | refine Below.alloc ?_ (by first | omega | (simp; done) | (simp; omega) | (simp at *; omega)) _ | refine Below.setCell ?_ (by first | omega | (simp; done) | (simp; omega) | (simp at *; omega)) _ | refine Below.trans ?_ (Below.mono (by assumption) (by first | omega | (simp; done) | (simp; omega) | (simp at *; omega))))

set_option maxHeartbeats 1000000 in
theorem implValidControl_any (x0 x1 x2 x3 x4 : Int) (w : World) : Calls Try.prog 79 #[.agg #[.int .i64 x0, .int .i64 x1, .int .i64 x2, .int .i64 x3, .int .i64 x4]] w fun e w' => e = .returned (.bool (ctlOk x0 x1 x2 x3 x4)) ∧ Below w.heap.size w w' := by
  unfold ctlOk
  cases e0 : inR x0 0 23
  · skip
    go_enter Try.func79, Try.ntmps79
    go_wp2_with (first | (go_at_call 61; refine (isDirection_any _ _).mono ?_; rintro e w' ⟨rfl, hw⟩; obtain rfl := hw.symm) | (go_at_call 48; refine (within_any _ _ _ _).mono ?_; rintro e w' ⟨rfl, hw⟩; obtain rfl := hw.symm))
    go_ret
    refine ⟨rfl, ?_⟩
    repeat (first | exact Below.refl _ _ | refine Below.drew ?_ | refine Below.alloc ?_ (by first | omega | (simp; done) | (simp; omega) | (simp at *; omega)) _ | refine Below.setCell ?_ (by first | omega | (simp; done) | (simp; omega) | (simp at *; omega)) _ | refine Below.trans ?_ (Below.mono (by assumption) (by first | omega | (simp; done) | (simp; omega) | (simp at *; omega))))
  cases e1 : inR x1 0 23
  · skip
    go_enter Try.func79, Try.ntmps79
    go_wp2_with (first | (go_at_call 61; refine (isDirection_any _ _).mono ?_; rintro e w' ⟨rfl, hw⟩; obtain rfl := hw.symm) | (go_at_call 48; refine (within_any _ _ _ _).mono ?_; rintro e w' ⟨rfl, hw⟩; obtain rfl := hw.symm))
    go_ret
    refine ⟨rfl, ?_⟩
    repeat (first | exact Below.refl _ _ | refine Below.drew ?_ | refine Below.alloc ?_ (by first | omega | (simp; done) | (simp; omega) | (simp at *; omega)) _ | refine Below.setCell ?_ (by first | omega | (simp; done) | (simp; omega) | (simp at *; omega)) _ | refine Below.trans ?_ (Below.mono (by assumption) (by first | omega | (simp; done) | (simp; omega) | (simp at *; omega))))
  cases e2 : inR x2 0 23
  · skip
    go_enter Try.func79, Try.ntmps79
    go_wp2_with (first | (go_at_call 61; refine (isDirection_any _ _).mono ?_; rintro e w' ⟨rfl, hw⟩; obtain rfl := hw.symm) | (go_at_call 48; refine (within_any _ _ _ _).mono ?_; rintro e w' ⟨rfl, hw⟩; obtain rfl := hw.symm))
    go_ret
    refine ⟨rfl, ?_⟩
    repeat (first | exact Below.refl _ _ | refine Below.drew ?_ | refine Below.alloc ?_ (by first | omega | (simp; done) | (simp; omega) | (simp at *; omega)) _ | refine Below.setCell ?_ (by first | omega | (simp; done) | (simp; omega) | (simp at *; omega)) _ | refine Below.trans ?_ (Below.mono (by assumption) (by first | omega | (simp; done) | (simp; omega) | (simp at *; omega))))
  cases e3 : inR x3 0 200
  all_goals
    go_enter Try.func79, Try.ntmps79
    go_wp2_with (first | (go_at_call 61; refine (isDirection_any _ _).mono ?_; rintro e w' ⟨rfl, hw⟩; obtain rfl := hw.symm) | (go_at_call 48; refine (within_any _ _ _ _).mono ?_; rintro e w' ⟨rfl, hw⟩; obtain rfl := hw.symm))
    go_ret
    refine ⟨rfl, ?_⟩
    repeat (first | exact Below.refl _ _ | refine Below.drew ?_ | refine Below.alloc ?_ (by first | omega | (simp; done) | (simp; omega) | (simp at *; omega)) _ | refine Below.setCell ?_ (by first | omega | (simp; done) | (simp; omega) | (simp at *; omega)) _ | refine Below.trans ?_ (Below.mono (by assumption) (by first | omega | (simp; done) | (simp; omega) | (simp at *; omega))))

set_option maxHeartbeats 1000000 in
theorem l18Hear_any (x0 x1 x2 x3 x4 : Int) (arr : Bool) (o : Int) (h0 : 0 ≤ x3) (h1 : x3 ≤ 200) (w : World) : Calls Try.prog 83 #[.agg #[.int .i64 x0, .int .i64 x1, .int .i64 x2, .int .i64 x3, .int .i64 x4], .bool arr, .int .i64 o] w fun e w' => e = .returned (.agg #[.int .i64 x0, .int .i64 x1, .int .i64 (hSeen arr x2 o), .int .i64 (hAge arr x3), .int .i64 x4]) ∧ Below w.heap.size w w' := by
  unfold hSeen hAge
  cases arr
  all_goals
    go_enter Try.func83, Try.ntmps83
    go_wp2_with (go_at_call 109; refine (l00Min_any _ _ _).mono ?_; rintro e w' ⟨rfl, hw⟩; obtain rfl := hw.symm)
    all_goals refine bodyPost_ret (by simp [results, Try.results83, go_sem]; try rfl) rfl ⟨by simp; try omega, ?_⟩
    all_goals repeat (first | exact Below.refl _ _ | refine Below.drew ?_ | refine Below.alloc ?_ (by first | omega | (simp; done) | (simp; omega) | (simp at *; omega)) _ | refine Below.setCell ?_ (by first | omega | (simp; done) | (simp; omega) | (simp at *; omega)) _ | refine Below.trans ?_ (Below.mono (by assumption) (by first | omega | (simp; done) | (simp; omega) | (simp at *; omega))))

set_option maxHeartbeats 1000000 in
theorem implHear_any (x0 x1 x2 x3 x4 : Int) (arr : Bool) (o : Int) (h0 : 0 ≤ x3) (h1 : x3 ≤ 200) (w : World) : Calls Try.prog 80 #[.agg #[.int .i64 x0, .int .i64 x1, .int .i64 x2, .int .i64 x3, .int .i64 x4], .bool arr, .int .i64 o] w fun e w' => e = .returned (.agg #[.int .i64 x0, .int .i64 x1, .int .i64 (hSeen arr x2 o), .int .i64 (hAge arr x3), .int .i64 x4]) ∧ Below w.heap.size w w' := by
  unfold hSeen hAge
  cases arr
  all_goals
    go_enter Try.func80, Try.ntmps80
    go_wp2_with fail
    all_goals refine bodyPost_ret (by simp [results, Try.results80, go_sem]; try rfl) rfl ⟨by simp; try omega, ?_⟩
    all_goals repeat (first | exact Below.refl _ _ | refine Below.drew ?_ | refine Below.alloc ?_ (by first | omega | (simp; done) | (simp; omega) | (simp at *; omega)) _ | refine Below.setCell ?_ (by first | omega | (simp; done) | (simp; omega) | (simp at *; omega)) _ | refine Below.trans ?_ (Below.mono (by assumption) (by first | omega | (simp; done) | (simp; omega) | (simp at *; omega))))

def hOk (x0 x1 x2 x3 x4 o : Int) : Bool := ctlOk x0 x1 x2 x3 x4 && inR o 0 23
def hv (k : Bool) (x : Int) : Int := bif k then x else 0
def hCode (x0 x1 x2 x3 x4 o : Int) : Int := bif ctlOk x0 x1 x2 x3 x4 then bif inR o 0 23 then 0 else 2 else 1

set_option maxHeartbeats 1000000 in
theorem specHearOther_any (x0 x1 x2 x3 x4 : Int) (arr : Bool) (o : Int) (w : World) : Calls Try.prog 36 #[.agg #[.int .i64 x0, .int .i64 x1, .int .i64 x2, .int .i64 x3, .int .i64 x4], .bool arr, .int .i64 o] w fun e w' => e = .returned (.tuple #[.agg #[.int .i64 (hv (hOk x0 x1 x2 x3 x4 o) x0), .int .i64 (hv (hOk x0 x1 x2 x3 x4 o) x1), .int .i64 (hv (hOk x0 x1 x2 x3 x4 o) (hSeen arr x2 o)), .int .i64 (hv (hOk x0 x1 x2 x3 x4 o) (hAge arr x3)), .int .i64 (hv (hOk x0 x1 x2 x3 x4 o) x4)], .int .i64 (hCode x0 x1 x2 x3 x4 o)]) ∧ Below w.heap.size w w' := by
  cases ec : ctlOk x0 x1 x2 x3 x4
  · skip
    go_enter Try.func36, Try.ntmps36
    go_wp2_with fail
    refine (l18Ok_any _ _ _ _ _ _).mono ?_
    rintro e w1 ⟨rfl, hb1⟩
    rw [ec]
    obtain ⟨hc1, hf1⟩ := bcell hb1
    have hs1 := hb1.size
    simp at hs1
    have hs1' : w.heap.size + 1 < w1.heap.size := by omega
    have hs1b : w.heap.size < w1.heap.size := by omega
    have d0 : w1.cell? ⟨w.heap.size + 1, 0, none⟩ = some (.int .i64 0) := (hc1 _ _ (by simp)).trans (by go_simp)
    have d1 : w1.cell? ⟨w.heap.size + 1, 1, none⟩ = some (.int .i64 0) := (hc1 _ _ (by simp)).trans (by go_simp)
    have d2 : w1.cell? ⟨w.heap.size + 1, 2, none⟩ = some (.int .i64 0) := (hc1 _ _ (by simp)).trans (by go_simp)
    have d3 : w1.cell? ⟨w.heap.size + 1, 3, none⟩ = some (.int .i64 0) := (hc1 _ _ (by simp)).trans (by go_simp)
    have d4 : w1.cell? ⟨w.heap.size + 1, 4, none⟩ = some (.int .i64 0) := (hc1 _ _ (by simp)).trans (by go_simp)
    have b0 : w1.cell? ⟨w.heap.size, 0, none⟩ = some (.int .i64 x0) := (hc1 _ _ (by simp; try omega)).trans (by go_simp)
    have b1 : w1.cell? ⟨w.heap.size, 1, none⟩ = some (.int .i64 x1) := (hc1 _ _ (by simp; try omega)).trans (by go_simp)
    have b2 : w1.cell? ⟨w.heap.size, 2, none⟩ = some (.int .i64 x2) := (hc1 _ _ (by simp; try omega)).trans (by go_simp)
    have b3 : w1.cell? ⟨w.heap.size, 3, none⟩ = some (.int .i64 x3) := (hc1 _ _ (by simp; try omega)).trans (by go_simp)
    have b4 : w1.cell? ⟨w.heap.size, 4, none⟩ = some (.int .i64 x4) := (hc1 _ _ (by simp; try omega)).trans (by go_simp)
    have f0 : w1.frozen? ⟨w.heap.size + 1, 0, none⟩ = false := (hf1 _ _ (by simp)).trans (by go_simp)
    have f1 : w1.frozen? ⟨w.heap.size + 1, 1, none⟩ = false := (hf1 _ _ (by simp)).trans (by go_simp)
    have f2 : w1.frozen? ⟨w.heap.size + 1, 2, none⟩ = false := (hf1 _ _ (by simp)).trans (by go_simp)
    have f3 : w1.frozen? ⟨w.heap.size + 1, 3, none⟩ = false := (hf1 _ _ (by simp)).trans (by go_simp)
    have f4 : w1.frozen? ⟨w.heap.size + 1, 4, none⟩ = false := (hf1 _ _ (by simp)).trans (by go_simp)
    clear hc1 hf1
    have B1 : Below w.heap.size w w1 := (((Below.refl _ _).alloc (Nat.le_refl _) _).alloc (by simp) _).trans (hb1.mono (by simp; omega))
    go_wp2_with ((go_at_call 82; refine (l02Dir_any _ _).mono ?_; rintro e w' ⟨rfl, hw⟩; obtain rfl := hw.symm))
    refine bodyPost_ret (v := .tuple #[.agg #[.int .i64 0, .int .i64 0, .int .i64 0, .int .i64 0, .int .i64 0], .int .i64 1]) (by simp [results, Try.results36, go_sem, d0, d1, d2, d3, d4]) rfl ⟨by simp [hOk, hv, hCode, ec], ?_⟩
    exact ((((((B1).setCell (by simp) _).setCell (by simp) _).setCell (by simp) _).setCell (by simp) _).setCell (by simp) _)
  cases ed : inR o 0 23
  · skip
    go_enter Try.func36, Try.ntmps36
    go_wp2_with fail
    refine (l18Ok_any _ _ _ _ _ _).mono ?_
    rintro e w1 ⟨rfl, hb1⟩
    rw [ec]
    obtain ⟨hc1, hf1⟩ := bcell hb1
    have hs1 := hb1.size
    simp at hs1
    have hs1' : w.heap.size + 1 < w1.heap.size := by omega
    have hs1b : w.heap.size < w1.heap.size := by omega
    have d0 : w1.cell? ⟨w.heap.size + 1, 0, none⟩ = some (.int .i64 0) := (hc1 _ _ (by simp)).trans (by go_simp)
    have d1 : w1.cell? ⟨w.heap.size + 1, 1, none⟩ = some (.int .i64 0) := (hc1 _ _ (by simp)).trans (by go_simp)
    have d2 : w1.cell? ⟨w.heap.size + 1, 2, none⟩ = some (.int .i64 0) := (hc1 _ _ (by simp)).trans (by go_simp)
    have d3 : w1.cell? ⟨w.heap.size + 1, 3, none⟩ = some (.int .i64 0) := (hc1 _ _ (by simp)).trans (by go_simp)
    have d4 : w1.cell? ⟨w.heap.size + 1, 4, none⟩ = some (.int .i64 0) := (hc1 _ _ (by simp)).trans (by go_simp)
    have b0 : w1.cell? ⟨w.heap.size, 0, none⟩ = some (.int .i64 x0) := (hc1 _ _ (by simp; try omega)).trans (by go_simp)
    have b1 : w1.cell? ⟨w.heap.size, 1, none⟩ = some (.int .i64 x1) := (hc1 _ _ (by simp; try omega)).trans (by go_simp)
    have b2 : w1.cell? ⟨w.heap.size, 2, none⟩ = some (.int .i64 x2) := (hc1 _ _ (by simp; try omega)).trans (by go_simp)
    have b3 : w1.cell? ⟨w.heap.size, 3, none⟩ = some (.int .i64 x3) := (hc1 _ _ (by simp; try omega)).trans (by go_simp)
    have b4 : w1.cell? ⟨w.heap.size, 4, none⟩ = some (.int .i64 x4) := (hc1 _ _ (by simp; try omega)).trans (by go_simp)
    have f0 : w1.frozen? ⟨w.heap.size + 1, 0, none⟩ = false := (hf1 _ _ (by simp)).trans (by go_simp)
    have f1 : w1.frozen? ⟨w.heap.size + 1, 1, none⟩ = false := (hf1 _ _ (by simp)).trans (by go_simp)
    have f2 : w1.frozen? ⟨w.heap.size + 1, 2, none⟩ = false := (hf1 _ _ (by simp)).trans (by go_simp)
    have f3 : w1.frozen? ⟨w.heap.size + 1, 3, none⟩ = false := (hf1 _ _ (by simp)).trans (by go_simp)
    have f4 : w1.frozen? ⟨w.heap.size + 1, 4, none⟩ = false := (hf1 _ _ (by simp)).trans (by go_simp)
    clear hc1 hf1
    have B1 : Below w.heap.size w w1 := (((Below.refl _ _).alloc (Nat.le_refl _) _).alloc (by simp) _).trans (hb1.mono (by simp; omega))
    go_wp2_with (((go_at_call 82; refine (l02Dir_any _ _).mono ?_; rintro e w' ⟨rfl, hw⟩; obtain rfl := hw.symm)); rw [ed])
    refine bodyPost_ret (v := .tuple #[.agg #[.int .i64 0, .int .i64 0, .int .i64 0, .int .i64 0, .int .i64 0], .int .i64 2]) (by simp [results, Try.results36, go_sem, d0, d1, d2, d3, d4]) rfl ⟨by simp [hOk, hv, hCode, ec, ed], ?_⟩
    exact ((((((B1).setCell (by simp) _).setCell (by simp) _).setCell (by simp) _).setCell (by simp) _).setCell (by simp) _)
  · obtain ⟨-, -, -, ⟨ge0, ge1⟩, -⟩ := ctlOk_true ec
    go_enter Try.func36, Try.ntmps36
    go_wp2_with fail
    refine (l18Ok_any _ _ _ _ _ _).mono ?_
    rintro e w1 ⟨rfl, hb1⟩
    rw [ec]
    obtain ⟨hc1, hf1⟩ := bcell hb1
    have hs1 := hb1.size
    simp at hs1
    have hs1' : w.heap.size + 1 < w1.heap.size := by omega
    have hs1b : w.heap.size < w1.heap.size := by omega
    have d0 : w1.cell? ⟨w.heap.size + 1, 0, none⟩ = some (.int .i64 0) := (hc1 _ _ (by simp)).trans (by go_simp)
    have d1 : w1.cell? ⟨w.heap.size + 1, 1, none⟩ = some (.int .i64 0) := (hc1 _ _ (by simp)).trans (by go_simp)
    have d2 : w1.cell? ⟨w.heap.size + 1, 2, none⟩ = some (.int .i64 0) := (hc1 _ _ (by simp)).trans (by go_simp)
    have d3 : w1.cell? ⟨w.heap.size + 1, 3, none⟩ = some (.int .i64 0) := (hc1 _ _ (by simp)).trans (by go_simp)
    have d4 : w1.cell? ⟨w.heap.size + 1, 4, none⟩ = some (.int .i64 0) := (hc1 _ _ (by simp)).trans (by go_simp)
    have b0 : w1.cell? ⟨w.heap.size, 0, none⟩ = some (.int .i64 x0) := (hc1 _ _ (by simp; try omega)).trans (by go_simp)
    have b1 : w1.cell? ⟨w.heap.size, 1, none⟩ = some (.int .i64 x1) := (hc1 _ _ (by simp; try omega)).trans (by go_simp)
    have b2 : w1.cell? ⟨w.heap.size, 2, none⟩ = some (.int .i64 x2) := (hc1 _ _ (by simp; try omega)).trans (by go_simp)
    have b3 : w1.cell? ⟨w.heap.size, 3, none⟩ = some (.int .i64 x3) := (hc1 _ _ (by simp; try omega)).trans (by go_simp)
    have b4 : w1.cell? ⟨w.heap.size, 4, none⟩ = some (.int .i64 x4) := (hc1 _ _ (by simp; try omega)).trans (by go_simp)
    have f0 : w1.frozen? ⟨w.heap.size + 1, 0, none⟩ = false := (hf1 _ _ (by simp)).trans (by go_simp)
    have f1 : w1.frozen? ⟨w.heap.size + 1, 1, none⟩ = false := (hf1 _ _ (by simp)).trans (by go_simp)
    have f2 : w1.frozen? ⟨w.heap.size + 1, 2, none⟩ = false := (hf1 _ _ (by simp)).trans (by go_simp)
    have f3 : w1.frozen? ⟨w.heap.size + 1, 3, none⟩ = false := (hf1 _ _ (by simp)).trans (by go_simp)
    have f4 : w1.frozen? ⟨w.heap.size + 1, 4, none⟩ = false := (hf1 _ _ (by simp)).trans (by go_simp)
    clear hc1 hf1
    have B1 : Below w.heap.size w w1 := (((Below.refl _ _).alloc (Nat.le_refl _) _).alloc (by simp) _).trans (hb1.mono (by simp; omega))
    go_wp2_with (((go_at_call 82; refine (l02Dir_any _ _).mono ?_; rintro e w' ⟨rfl, hw⟩; obtain rfl := hw.symm)); rw [ed])
    refine (l18Hear_any _ _ _ _ _ _ _ ge0 ge1 _).mono ?_
    rintro e w2 ⟨rfl, hb2⟩
    obtain ⟨hc2, hf2⟩ := bcell hb2
    have hs2 := hb2.size
    have hs2' : w.heap.size + 1 < w2.heap.size := by omega
    have e0 : w2.cell? ⟨w.heap.size + 1, 0, none⟩ = some (.int .i64 0) := (hc2 _ _ hs1').trans d0
    have e1 : w2.cell? ⟨w.heap.size + 1, 1, none⟩ = some (.int .i64 0) := (hc2 _ _ hs1').trans d1
    have e2 : w2.cell? ⟨w.heap.size + 1, 2, none⟩ = some (.int .i64 0) := (hc2 _ _ hs1').trans d2
    have e3 : w2.cell? ⟨w.heap.size + 1, 3, none⟩ = some (.int .i64 0) := (hc2 _ _ hs1').trans d3
    have e4 : w2.cell? ⟨w.heap.size + 1, 4, none⟩ = some (.int .i64 0) := (hc2 _ _ hs1').trans d4
    have g0 : w2.frozen? ⟨w.heap.size + 1, 0, none⟩ = false := (hf2 _ _ hs1').trans f0
    have g1 : w2.frozen? ⟨w.heap.size + 1, 1, none⟩ = false := (hf2 _ _ hs1').trans f1
    have g2 : w2.frozen? ⟨w.heap.size + 1, 2, none⟩ = false := (hf2 _ _ hs1').trans f2
    have g3 : w2.frozen? ⟨w.heap.size + 1, 3, none⟩ = false := (hf2 _ _ hs1').trans f3
    have g4 : w2.frozen? ⟨w.heap.size + 1, 4, none⟩ = false := (hf2 _ _ hs1').trans f4
    clear hc2 hf2 d0 d1 d2 d3 d4 b0 b1 b2 b3 b4 f0 f1 f2 f3 f4
    go_wp2_with fail
    refine bodyPost_ret (v := .tuple #[.agg #[.int .i64 x0, .int .i64 x1, .int .i64 (hSeen arr x2 o), .int .i64 (hAge arr x3), .int .i64 x4], .int .i64 0]) (by simp [results, Try.results36, go_sem, e0, e1, e2, e3, e4]) rfl ⟨by simp [hOk, hv, hCode, ec, ed], ?_⟩
    exact ((((((B1.trans (hb2.mono (Nat.le_of_lt hs1b))).setCell (by simp) _).setCell (by simp) _).setCell (by simp) _).setCell (by simp) _).setCell (by simp) _)

set_option maxHeartbeats 1000000 in
theorem implHearOther_any (x0 x1 x2 x3 x4 : Int) (arr : Bool) (o : Int) (w : World) : Calls Try.prog 35 #[.agg #[.int .i64 x0, .int .i64 x1, .int .i64 x2, .int .i64 x3, .int .i64 x4], .bool arr, .int .i64 o] w fun e w' => e = .returned (.tuple #[.agg #[.int .i64 (hv (hOk x0 x1 x2 x3 x4 o) x0), .int .i64 (hv (hOk x0 x1 x2 x3 x4 o) x1), .int .i64 (hv (hOk x0 x1 x2 x3 x4 o) (hSeen arr x2 o)), .int .i64 (hv (hOk x0 x1 x2 x3 x4 o) (hAge arr x3)), .int .i64 (hv (hOk x0 x1 x2 x3 x4 o) x4)], .int .i64 (hCode x0 x1 x2 x3 x4 o)]) ∧ Below w.heap.size w w' := by
  cases ec : ctlOk x0 x1 x2 x3 x4
  · skip
    go_enter Try.func35, Try.ntmps35
    go_wp2_with fail
    refine (implValidControl_any _ _ _ _ _ _).mono ?_
    rintro e w1 ⟨rfl, hb1⟩
    rw [ec]
    obtain ⟨hc1, hf1⟩ := bcell hb1
    have hs1 := hb1.size
    simp at hs1
    have hs1' : w.heap.size + 1 < w1.heap.size := by omega
    have hs1b : w.heap.size < w1.heap.size := by omega
    have d0 : w1.cell? ⟨w.heap.size + 1, 0, none⟩ = some (.int .i64 0) := (hc1 _ _ (by simp)).trans (by go_simp)
    have d1 : w1.cell? ⟨w.heap.size + 1, 1, none⟩ = some (.int .i64 0) := (hc1 _ _ (by simp)).trans (by go_simp)
    have d2 : w1.cell? ⟨w.heap.size + 1, 2, none⟩ = some (.int .i64 0) := (hc1 _ _ (by simp)).trans (by go_simp)
    have d3 : w1.cell? ⟨w.heap.size + 1, 3, none⟩ = some (.int .i64 0) := (hc1 _ _ (by simp)).trans (by go_simp)
    have d4 : w1.cell? ⟨w.heap.size + 1, 4, none⟩ = some (.int .i64 0) := (hc1 _ _ (by simp)).trans (by go_simp)
    have b0 : w1.cell? ⟨w.heap.size, 0, none⟩ = some (.int .i64 x0) := (hc1 _ _ (by simp; try omega)).trans (by go_simp)
    have b1 : w1.cell? ⟨w.heap.size, 1, none⟩ = some (.int .i64 x1) := (hc1 _ _ (by simp; try omega)).trans (by go_simp)
    have b2 : w1.cell? ⟨w.heap.size, 2, none⟩ = some (.int .i64 x2) := (hc1 _ _ (by simp; try omega)).trans (by go_simp)
    have b3 : w1.cell? ⟨w.heap.size, 3, none⟩ = some (.int .i64 x3) := (hc1 _ _ (by simp; try omega)).trans (by go_simp)
    have b4 : w1.cell? ⟨w.heap.size, 4, none⟩ = some (.int .i64 x4) := (hc1 _ _ (by simp; try omega)).trans (by go_simp)
    have f0 : w1.frozen? ⟨w.heap.size + 1, 0, none⟩ = false := (hf1 _ _ (by simp)).trans (by go_simp)
    have f1 : w1.frozen? ⟨w.heap.size + 1, 1, none⟩ = false := (hf1 _ _ (by simp)).trans (by go_simp)
    have f2 : w1.frozen? ⟨w.heap.size + 1, 2, none⟩ = false := (hf1 _ _ (by simp)).trans (by go_simp)
    have f3 : w1.frozen? ⟨w.heap.size + 1, 3, none⟩ = false := (hf1 _ _ (by simp)).trans (by go_simp)
    have f4 : w1.frozen? ⟨w.heap.size + 1, 4, none⟩ = false := (hf1 _ _ (by simp)).trans (by go_simp)
    clear hc1 hf1
    have B1 : Below w.heap.size w w1 := (((Below.refl _ _).alloc (Nat.le_refl _) _).alloc (by simp) _).trans (hb1.mono (by simp; omega))
    go_wp2_with ((go_at_call 61; refine (isDirection_any _ _).mono ?_; rintro e w' ⟨rfl, hw⟩; obtain rfl := hw.symm))
    refine bodyPost_ret (v := .tuple #[.agg #[.int .i64 0, .int .i64 0, .int .i64 0, .int .i64 0, .int .i64 0], .int .i64 1]) (by simp [results, Try.results35, go_sem, d0, d1, d2, d3, d4]) rfl ⟨by simp [hOk, hv, hCode, ec], ?_⟩
    exact ((((((B1).setCell (by simp) _).setCell (by simp) _).setCell (by simp) _).setCell (by simp) _).setCell (by simp) _)
  cases ed : inR o 0 23
  · skip
    go_enter Try.func35, Try.ntmps35
    go_wp2_with fail
    refine (implValidControl_any _ _ _ _ _ _).mono ?_
    rintro e w1 ⟨rfl, hb1⟩
    rw [ec]
    obtain ⟨hc1, hf1⟩ := bcell hb1
    have hs1 := hb1.size
    simp at hs1
    have hs1' : w.heap.size + 1 < w1.heap.size := by omega
    have hs1b : w.heap.size < w1.heap.size := by omega
    have d0 : w1.cell? ⟨w.heap.size + 1, 0, none⟩ = some (.int .i64 0) := (hc1 _ _ (by simp)).trans (by go_simp)
    have d1 : w1.cell? ⟨w.heap.size + 1, 1, none⟩ = some (.int .i64 0) := (hc1 _ _ (by simp)).trans (by go_simp)
    have d2 : w1.cell? ⟨w.heap.size + 1, 2, none⟩ = some (.int .i64 0) := (hc1 _ _ (by simp)).trans (by go_simp)
    have d3 : w1.cell? ⟨w.heap.size + 1, 3, none⟩ = some (.int .i64 0) := (hc1 _ _ (by simp)).trans (by go_simp)
    have d4 : w1.cell? ⟨w.heap.size + 1, 4, none⟩ = some (.int .i64 0) := (hc1 _ _ (by simp)).trans (by go_simp)
    have b0 : w1.cell? ⟨w.heap.size, 0, none⟩ = some (.int .i64 x0) := (hc1 _ _ (by simp; try omega)).trans (by go_simp)
    have b1 : w1.cell? ⟨w.heap.size, 1, none⟩ = some (.int .i64 x1) := (hc1 _ _ (by simp; try omega)).trans (by go_simp)
    have b2 : w1.cell? ⟨w.heap.size, 2, none⟩ = some (.int .i64 x2) := (hc1 _ _ (by simp; try omega)).trans (by go_simp)
    have b3 : w1.cell? ⟨w.heap.size, 3, none⟩ = some (.int .i64 x3) := (hc1 _ _ (by simp; try omega)).trans (by go_simp)
    have b4 : w1.cell? ⟨w.heap.size, 4, none⟩ = some (.int .i64 x4) := (hc1 _ _ (by simp; try omega)).trans (by go_simp)
    have f0 : w1.frozen? ⟨w.heap.size + 1, 0, none⟩ = false := (hf1 _ _ (by simp)).trans (by go_simp)
    have f1 : w1.frozen? ⟨w.heap.size + 1, 1, none⟩ = false := (hf1 _ _ (by simp)).trans (by go_simp)
    have f2 : w1.frozen? ⟨w.heap.size + 1, 2, none⟩ = false := (hf1 _ _ (by simp)).trans (by go_simp)
    have f3 : w1.frozen? ⟨w.heap.size + 1, 3, none⟩ = false := (hf1 _ _ (by simp)).trans (by go_simp)
    have f4 : w1.frozen? ⟨w.heap.size + 1, 4, none⟩ = false := (hf1 _ _ (by simp)).trans (by go_simp)
    clear hc1 hf1
    have B1 : Below w.heap.size w w1 := (((Below.refl _ _).alloc (Nat.le_refl _) _).alloc (by simp) _).trans (hb1.mono (by simp; omega))
    go_wp2_with (((go_at_call 61; refine (isDirection_any _ _).mono ?_; rintro e w' ⟨rfl, hw⟩; obtain rfl := hw.symm)); rw [ed])
    refine bodyPost_ret (v := .tuple #[.agg #[.int .i64 0, .int .i64 0, .int .i64 0, .int .i64 0, .int .i64 0], .int .i64 2]) (by simp [results, Try.results35, go_sem, d0, d1, d2, d3, d4]) rfl ⟨by simp [hOk, hv, hCode, ec, ed], ?_⟩
    exact ((((((B1).setCell (by simp) _).setCell (by simp) _).setCell (by simp) _).setCell (by simp) _).setCell (by simp) _)
  · obtain ⟨-, -, -, ⟨ge0, ge1⟩, -⟩ := ctlOk_true ec
    go_enter Try.func35, Try.ntmps35
    go_wp2_with fail
    refine (implValidControl_any _ _ _ _ _ _).mono ?_
    rintro e w1 ⟨rfl, hb1⟩
    rw [ec]
    obtain ⟨hc1, hf1⟩ := bcell hb1
    have hs1 := hb1.size
    simp at hs1
    have hs1' : w.heap.size + 1 < w1.heap.size := by omega
    have hs1b : w.heap.size < w1.heap.size := by omega
    have d0 : w1.cell? ⟨w.heap.size + 1, 0, none⟩ = some (.int .i64 0) := (hc1 _ _ (by simp)).trans (by go_simp)
    have d1 : w1.cell? ⟨w.heap.size + 1, 1, none⟩ = some (.int .i64 0) := (hc1 _ _ (by simp)).trans (by go_simp)
    have d2 : w1.cell? ⟨w.heap.size + 1, 2, none⟩ = some (.int .i64 0) := (hc1 _ _ (by simp)).trans (by go_simp)
    have d3 : w1.cell? ⟨w.heap.size + 1, 3, none⟩ = some (.int .i64 0) := (hc1 _ _ (by simp)).trans (by go_simp)
    have d4 : w1.cell? ⟨w.heap.size + 1, 4, none⟩ = some (.int .i64 0) := (hc1 _ _ (by simp)).trans (by go_simp)
    have b0 : w1.cell? ⟨w.heap.size, 0, none⟩ = some (.int .i64 x0) := (hc1 _ _ (by simp; try omega)).trans (by go_simp)
    have b1 : w1.cell? ⟨w.heap.size, 1, none⟩ = some (.int .i64 x1) := (hc1 _ _ (by simp; try omega)).trans (by go_simp)
    have b2 : w1.cell? ⟨w.heap.size, 2, none⟩ = some (.int .i64 x2) := (hc1 _ _ (by simp; try omega)).trans (by go_simp)
    have b3 : w1.cell? ⟨w.heap.size, 3, none⟩ = some (.int .i64 x3) := (hc1 _ _ (by simp; try omega)).trans (by go_simp)
    have b4 : w1.cell? ⟨w.heap.size, 4, none⟩ = some (.int .i64 x4) := (hc1 _ _ (by simp; try omega)).trans (by go_simp)
    have f0 : w1.frozen? ⟨w.heap.size + 1, 0, none⟩ = false := (hf1 _ _ (by simp)).trans (by go_simp)
    have f1 : w1.frozen? ⟨w.heap.size + 1, 1, none⟩ = false := (hf1 _ _ (by simp)).trans (by go_simp)
    have f2 : w1.frozen? ⟨w.heap.size + 1, 2, none⟩ = false := (hf1 _ _ (by simp)).trans (by go_simp)
    have f3 : w1.frozen? ⟨w.heap.size + 1, 3, none⟩ = false := (hf1 _ _ (by simp)).trans (by go_simp)
    have f4 : w1.frozen? ⟨w.heap.size + 1, 4, none⟩ = false := (hf1 _ _ (by simp)).trans (by go_simp)
    clear hc1 hf1
    have B1 : Below w.heap.size w w1 := (((Below.refl _ _).alloc (Nat.le_refl _) _).alloc (by simp) _).trans (hb1.mono (by simp; omega))
    go_wp2_with (((go_at_call 61; refine (isDirection_any _ _).mono ?_; rintro e w' ⟨rfl, hw⟩; obtain rfl := hw.symm)); rw [ed])
    refine (implHear_any _ _ _ _ _ _ _ ge0 ge1 _).mono ?_
    rintro e w2 ⟨rfl, hb2⟩
    obtain ⟨hc2, hf2⟩ := bcell hb2
    have hs2 := hb2.size
    have hs2' : w.heap.size + 1 < w2.heap.size := by omega
    have e0 : w2.cell? ⟨w.heap.size + 1, 0, none⟩ = some (.int .i64 0) := (hc2 _ _ hs1').trans d0
    have e1 : w2.cell? ⟨w.heap.size + 1, 1, none⟩ = some (.int .i64 0) := (hc2 _ _ hs1').trans d1
    have e2 : w2.cell? ⟨w.heap.size + 1, 2, none⟩ = some (.int .i64 0) := (hc2 _ _ hs1').trans d2
    have e3 : w2.cell? ⟨w.heap.size + 1, 3, none⟩ = some (.int .i64 0) := (hc2 _ _ hs1').trans d3
    have e4 : w2.cell? ⟨w.heap.size + 1, 4, none⟩ = some (.int .i64 0) := (hc2 _ _ hs1').trans d4
    have g0 : w2.frozen? ⟨w.heap.size + 1, 0, none⟩ = false := (hf2 _ _ hs1').trans f0
    have g1 : w2.frozen? ⟨w.heap.size + 1, 1, none⟩ = false := (hf2 _ _ hs1').trans f1
    have g2 : w2.frozen? ⟨w.heap.size + 1, 2, none⟩ = false := (hf2 _ _ hs1').trans f2
    have g3 : w2.frozen? ⟨w.heap.size + 1, 3, none⟩ = false := (hf2 _ _ hs1').trans f3
    have g4 : w2.frozen? ⟨w.heap.size + 1, 4, none⟩ = false := (hf2 _ _ hs1').trans f4
    clear hc2 hf2 d0 d1 d2 d3 d4 b0 b1 b2 b3 b4 f0 f1 f2 f3 f4
    go_wp2_with fail
    refine bodyPost_ret (v := .tuple #[.agg #[.int .i64 x0, .int .i64 x1, .int .i64 (hSeen arr x2 o), .int .i64 (hAge arr x3), .int .i64 x4], .int .i64 0]) (by simp [results, Try.results35, go_sem, e0, e1, e2, e3, e4]) rfl ⟨by simp [hOk, hv, hCode, ec, ed], ?_⟩
    exact ((((((B1.trans (hb2.mono (Nat.le_of_lt hs1b))).setCell (by simp) _).setCell (by simp) _).setCell (by simp) _).setCell (by simp) _).setCell (by simp) _)

end Go.Proofs.Ytnbahmjimnhfbaa
