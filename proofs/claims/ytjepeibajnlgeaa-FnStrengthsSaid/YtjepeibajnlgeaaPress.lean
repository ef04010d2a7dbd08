/-
  PressureAt: the program's and the reference's. No condition but those that each theorem names.
-/
import Derived.Test.YtjepeibajnlgeaaFrac
namespace Go.Proofs.Ytjepeibajnlgeaa
open Go.RowKit
set_option linter.unusedVariables false

set_option maxHeartbeats 400000 in
theorem specPressureAt_bad (x : Int) (hbad : ¬ (0 ≤ x ∧ x ≤ 600)) (w : World) :
    Calls Try.prog 20 #[.int .i64 x] w fun e w' => e = .returned (.tuple #[.agg #[.int .i64 0, .int .i64 0], .int .i64 2]) ∧ Below w.heap.size w w' := by
  go_enter Try.func20, Try.ntmps20
  go_wp2
  all_goals first
    | (exfalso; simp only [Bool.not_eq_false', decide_eq_true_eq] at *; omega)
    | (refine bodyPost_ret (v := .tuple #[.agg #[.int .i64 0, .int .i64 0], .int .i64 2]) (by simp [results, Try.results20, go_sem]) rfl ⟨rfl, ?_⟩
       repeat (first | exact Below.refl _ _ | refine Below.drew ?_ | refine Below.alloc ?_ (by first | omega | (simp; done) | (simp; omega) | (simp at *; omega)) _ | refine Below.setCell ?_ (by first | omega | (simp; done) | (simp; omega) | (simp at *; omega)) _ | refine Below.trans ?_ (Below.mono (by assumption) (by first | omega | (simp; done) | (simp; omega) | (simp at *; omega)))))

set_option maxHeartbeats 400000 in
theorem specPressureAt_ok (x : Int) (h0 : 0 ≤ x) (h1 : x ≤ 600) (w : World) :
    Calls Try.prog 20 #[.int .i64 x] w fun e w' => e = .returned (.tuple #[.agg #[.int .i64 (x * x / gcdI (x * x) 160), .int .i64 (160 / gcdI (x * x) 160)], .int .i64 0]) ∧ Below w.heap.size w w' := by
  have h2 : 0 ≤ x * x := Int.mul_nonneg h0 h0
  have h3 : x * x ≤ 360000 := Int.mul_le_mul h1 h1 h0 (by omega)
  go_enter Try.func20, Try.ntmps20
  go_wp2_with (first | (go_at_call 40; refine (l06Make_any (x * x) 160 h2 (by omega) (by omega) (by omega) _).mono ?_; rintro e w1 ⟨rfl, hb1⟩; have hs1 : w.heap.size < w1.heap.size := (by have h := hb1.size; simp at h; omega); have d0 : w1.cell? ⟨w.heap.size, 0, none⟩ = some (.int .i64 0) := (hb1.cell (p := ⟨w.heap.size, 0, none⟩) (by simp)).trans (new_cell _ _ _ _); have d1 : w1.cell? ⟨w.heap.size, 1, none⟩ = some (.int .i64 0) := (hb1.cell (p := ⟨w.heap.size, 1, none⟩) (by simp)).trans (new_cell _ _ _ _); have f0 : w1.frozen? ⟨w.heap.size, 0, none⟩ = false := (hb1.frozen (p := ⟨w.heap.size, 0, none⟩) (by simp)).trans (new_frozen _ _ _ _); have f1 : w1.frozen? ⟨w.heap.size, 1, none⟩ = false := (hb1.frozen (p := ⟨w.heap.size, 1, none⟩) (by simp)).trans (new_frozen _ _ _ _)) | go_in)
  refine bodyPost_ret (v := .tuple #[.agg #[.int .i64 (x * x / gcdI (x * x) 160), .int .i64 (160 / gcdI (x * x) 160)], .int .i64 0]) (by simp [results, Try.results20, go_sem, d0, d1]) rfl ⟨rfl, ?_⟩
  exact ((((Below.refl _ _).alloc (Nat.le_refl _) _).trans (hb1.mono (by simp))).setCell (Nat.le_refl _) _).setCell (Nat.le_refl _) _

set_option maxHeartbeats 400000 in
theorem implPressureAt_bad (x : Int) (hbad : ¬ (0 ≤ x ∧ x ≤ 600)) (w : World) :
    Calls Try.prog 19 #[.int .i64 x] w fun e w' => e = .returned (.tuple #[.agg #[.int .i64 0, .int .i64 0], .int .i64 2]) ∧ Below w.heap.size w w' := by
  go_enter Try.func19, Try.ntmps19
  go_wp2
  all_goals first
    | (exfalso; simp only [Bool.not_eq_false', decide_eq_true_eq] at *; omega)
    | (refine bodyPost_ret (v := .tuple #[.agg #[.int .i64 0, .int .i64 0], .int .i64 2]) (by simp [results, Try.results19, go_sem]) rfl ⟨rfl, ?_⟩
       repeat (first | exact Below.refl _ _ | refine Below.drew ?_ | refine Below.alloc ?_ (by first | omega | (simp; done) | (simp; omega) | (simp at *; omega)) _ | refine Below.setCell ?_ (by first | omega | (simp; done) | (simp; omega) | (simp at *; omega)) _ | refine Below.trans ?_ (Below.mono (by assumption) (by first | omega | (simp; done) | (simp; omega) | (simp at *; omega)))))

set_option maxHeartbeats 400000 in
theorem implPressureAt_ok (x : Int) (h0 : 0 ≤ x) (h1 : x ≤ 600) (w : World) :
    Calls Try.prog 19 #[.int .i64 x] w fun e w' => e = .returned (.tuple #[.agg #[.int .i64 (x * x / gcdI (x * x) 160), .int .i64 (160 / gcdI (x * x) 160)], .int .i64 0]) ∧ Below w.heap.size w w' := by
  have h2 : 0 ≤ x * x := Int.mul_nonneg h0 h0
  have h3 : x * x ≤ 360000 := Int.mul_le_mul h1 h1 h0 (by omega)
  go_enter Try.func19, Try.ntmps19
  go_wp2_with (first | (go_at_call 39; refine (reduced_any (x * x) 160 h2 (by omega) (by omega) (by omega) _).mono ?_; rintro e w1 ⟨rfl, hb1⟩; have hs1 : w.heap.size < w1.heap.size := (by have h := hb1.size; simp at h; omega); have d0 : w1.cell? ⟨w.heap.size, 0, none⟩ = some (.int .i64 0) := (hb1.cell (p := ⟨w.heap.size, 0, none⟩) (by simp)).trans (new_cell _ _ _ _); have d1 : w1.cell? ⟨w.heap.size, 1, none⟩ = some (.int .i64 0) := (hb1.cell (p := ⟨w.heap.size, 1, none⟩) (by simp)).trans (new_cell _ _ _ _); have f0 : w1.frozen? ⟨w.heap.size, 0, none⟩ = false := (hb1.frozen (p := ⟨w.heap.size, 0, none⟩) (by simp)).trans (new_frozen _ _ _ _); have f1 : w1.frozen? ⟨w.heap.size, 1, none⟩ = false := (hb1.frozen (p := ⟨w.heap.size, 1, none⟩) (by simp)).trans (new_frozen _ _ _ _)) | go_in)
  refine bodyPost_ret (v := .tuple #[.agg #[.int .i64 (x * x / gcdI (x * x) 160), .int .i64 (160 / gcdI (x * x) 160)], .int .i64 0]) (by simp [results, Try.results19, go_sem, d0, d1]) rfl ⟨rfl, ?_⟩
  exact ((((Below.refl _ _).alloc (Nat.le_refl _) _).trans (hb1.mono (by simp))).setCell (Nat.le_refl _) _).setCell (Nat.le_refl _) _

end Go.Proofs.Ytjepeibajnlgeaa
