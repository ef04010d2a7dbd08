/-
  BeaufortOf, the program's and the reference's: how many of the twelve least speeds are reached. No condition but those that each theorem names.
-/
import Derived.Test.YtjepeibajnlgeaaMem
import Derived.WalkKit
import Derived.WalkSpells
import Derived.WalkLawsBesides
namespace Go.Proofs.Ytjepeibajnlgeaa
open Go.RowKit

/-- How many of the twelve least speeds a speed reaches, of the first k. -/
def speeds : List Int := [3, 16, 34, 55, 80, 108, 139, 172, 208, 245, 285, 327]
def bft (s : Int) (k : Nat) : Nat := ((speeds.take k).filter fun x => decide (x ≤ s)).length
theorem bft_le (s : Int) (k : Nat) : bft s k ≤ k := Nat.le_trans (List.length_filter_le _ _) (by rw [List.length_take]; omega)
theorem bft_succ (s : Int) (k : Nat) (h : k < 12) : bft s (k + 1) = bft s k + if speeds.getD k 0 ≤ s then 1 else 0 := by
  unfold bft
  rw [List.take_succ_eq_append_getElem (by simpa [speeds] using h), List.filter_append, List.length_append]
  have e : speeds.getD k 0 = speeds[k]'(by simpa [speeds] using h) := by simp [List.getD, show k < speeds.length by simpa [speeds] using h]
  rw [e]
  by_cases hx : speeds[k]'(by simpa [speeds] using h) ≤ s <;> simp [hx]

set_option maxHeartbeats 400000 in
theorem specBeaufortOf_bad (a : Int) (hbad : ¬ (0 ≤ a ∧ a ≤ 600)) (w : World) :
    Calls Try.prog 17 #[.int .i64 a] w fun e w' => e = .returned (.tuple #[.int .i64 0, .int .i64 2]) ∧ Below w.heap.size w w' := by
  by_cases h : 0 ≤ a
  all_goals
    go_enter Try.func17, Try.ntmps17
    go_wp2
    all_goals first
      | (exfalso; simp only [Bool.not_eq_false', decide_eq_true_eq] at *; omega)
      | (go_ret2; exact ⟨rfl, Below.refl _ _⟩)

set_option maxHeartbeats 400000 in
theorem implBeaufortOf_bad (a : Int) (hbad : ¬ (0 ≤ a ∧ a ≤ 600)) (w : World) :
    Calls Try.prog 16 #[.int .i64 a] w fun e w' => e = .returned (.tuple #[.int .i64 0, .int .i64 2]) ∧ Below w.heap.size w w' := by
  by_cases h : 0 ≤ a
  all_goals
    go_enter Try.func16, Try.ntmps16
    go_wp2
    all_goals first
      | (exfalso; simp only [Bool.not_eq_false', decide_eq_true_eq] at *; omega)
      | (go_ret2; exact ⟨rfl, Below.refl _ _⟩)

set_option maxHeartbeats 400000 in
theorem implBeaufortOf_ok (a : Int) (h1 : 0 ≤ a) (h2 : a ≤ 600) (w : World) :
    Calls Try.prog 16 #[.int .i64 a] w fun e w' => e = .returned (.tuple #[.int .i64 (bft a 12), .int .i64 0]) ∧ Below w.heap.size w w' := by
  go_enter Try.func16, Try.ntmps16
  go_wp2
  go_loop [4, 12] (fun c i => ∃ k : Nat, k ≤ 12 ∧ i = .int .i64 k ∧ c = .int .i64 (bft a k)) (fun _ i => 12 - (intOf i).toNat)
  case atStart => exact ⟨0, by omega, rfl, rfl⟩
  case round =>
    obtain ⟨k, hk, rfl, rfl⟩ := hrel
    have hb := bft_le a k
    by_cases hlt : k < 12
    · have hc : (w.alloc (.cells #[.int .i64 3, .int .i64 16, .int .i64 34, .int .i64 55, .int .i64 80, .int .i64 108, .int .i64 139, .int .i64 172, .int .i64 208, .int .i64 245, .int .i64 285, .int .i64 327] 2)).cell? ⟨w.heap.size, k, none⟩ = some (.int .i64 (speeds.getD k 0)) := lit_cells w speeds 2 .i64 k hlt
      have H := hide (bft_succ a k hlt)
      by_cases hs : speeds.getD k 0 ≤ a
      all_goals
        generalize speeds.getD k 0 = x at *
        go_wp2
        go_round
        case rel => exact ⟨k + 1, by omega, by go_num, vint (by have h := H.out; (first | rw [if_pos hs] at h | rw [if_neg hs] at h); omega)⟩
        case measure => simp [intOf]; omega
    · obtain rfl : k = 12 := by omega
      go_wp2
      go_ret2
      exact ⟨rfl, (Below.refl _ _).alloc (Nat.le_refl _) _⟩

set_option maxHeartbeats 400000 in
theorem specBeaufortOf_ok (a : Int) (h1 : 0 ≤ a) (h2 : a ≤ 600) (w : World) :
    Calls Try.prog 17 #[.int .i64 a] w fun e w' => e = .returned (.tuple #[.int .i64 (bft a 12), .int .i64 0]) ∧ Below w.heap.size w w' := by
  go_enter Try.func17, Try.ntmps17
  go_wp2
  go_loop [5, 6] (fun c i => ∃ k : Nat, k ≤ 12 ∧ i = .int .i64 k ∧ c = .int .i64 (bft a k)) (fun _ i => 12 - (intOf i).toNat)
  case atStart => exact ⟨0, by omega, rfl, rfl⟩
  case round =>
    obtain ⟨k, hk, rfl, rfl⟩ := hrel
    have hb := bft_le a k
    by_cases hlt : k < 12
    · have hc : (w.alloc (.cells #[.int .i64 3, .int .i64 16, .int .i64 34, .int .i64 55, .int .i64 80, .int .i64 108, .int .i64 139, .int .i64 172, .int .i64 208, .int .i64 245, .int .i64 285, .int .i64 327] 2)).cell? ⟨w.heap.size, k, none⟩ = some (.int .i64 (speeds.getD k 0)) := lit_cells w speeds 2 .i64 k hlt
      have H := hide (bft_succ a k hlt)
      by_cases hs : speeds.getD k 0 ≤ a
      all_goals
        generalize speeds.getD k 0 = x at *
        go_wp2
        go_round
        case rel => exact ⟨k + 1, by omega, by go_num, vint (by have h := H.out; (first | rw [if_pos hs] at h | rw [if_neg hs] at h); omega)⟩
        case measure => simp [intOf]; omega
    · obtain rfl : k = 12 := by omega
      go_wp2
      go_ret2
      exact ⟨rfl, (Below.refl _ _).alloc (Nat.le_refl _) _⟩


end Go.Proofs.Ytjepeibajnlgeaa
