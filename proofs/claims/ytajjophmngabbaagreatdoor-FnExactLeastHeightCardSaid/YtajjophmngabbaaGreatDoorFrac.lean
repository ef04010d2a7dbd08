/-
  A FRACTION IN LOWEST TERMS: the program's and the reference's. No condition but those that each theorem names.
-/
import Derived.Test.YtajjophmngabbaaGreatDoorGcd
namespace Go.Proofs.YtajjophmngabbaaGreatDoor
open Go.RowKit
set_option linter.unusedVariables false

/-- The greatest common divisor, as a number. -/
def gcdI (n d : Int) : Int := (Nat.gcd n.toNat d.toNat : Nat)
theorem gcdI_pos {n d : Int} (h : 0 < d) : 1 ≤ gcdI n d := by
  unfold gcdI
  have : 0 < Nat.gcd n.toNat d.toNat := Nat.gcd_pos_of_pos_right _ (by omega)
  omega
theorem gcdI_le {n d : Int} (h : 0 < d) : gcdI n d ≤ d := by
  unfold gcdI
  have : Nat.gcd n.toNat d.toNat ≤ d.toNat := Nat.gcd_le_right _ (by omega)
  omega

set_option maxHeartbeats 400000 in
theorem absN_any (x : Nat) (w : World) (h2 : (x : Int) ≤ 1000000000000000000 := by omega) : Calls Tryz.prog 33 #[.int .i64 (x : Int)] w fun e w' => e = .returned (.int .i64 (x : Int)) ∧ w = w' := by
  by_cases h0 : x = 0
  · subst h0
    go_enter Tryz.func33, Tryz.ntmps33
    go_wp2
    go_ret
    exact ⟨rfl, rfl⟩
  · have h1 : 1 ≤ x := by omega
    go_enter Tryz.func33, Tryz.ntmps33
    go_wp2
    go_ret
    exact ⟨ret_int (by omega), rfl⟩

set_option maxHeartbeats 1000000 in
theorem reduced_any (n d : Int) (hn : 0 ≤ n) (hn2 : n ≤ 1000000000000000000) (hd : 0 < d) (hd2 : d ≤ 1000000000000000000) (w : World) :
    Calls Tryz.prog 83 #[.int .i64 n, .int .i64 d] w fun e w' => e = .returned (.agg #[.int .i64 (n / gcdI n d), .int .i64 (d / gcdI n d)]) ∧ Below w.heap.size w w' := by
  have g1 := gcdI_pos (n := n) hd
  have g2 := gcdI_le (n := n) hd
  obtain ⟨x0, rfl⟩ := Int.eq_ofNat_of_zero_le hn
  obtain ⟨y0, rfl⟩ := Int.eq_ofNat_of_zero_le (show 0 ≤ d by omega)
  generalize hg : gcdI (x0 : Int) (y0 : Int) = g at *
  have HG : Hid (((Nat.gcd x0 y0 : Nat) : Int) = g) := by rw [← hg]; unfold gcdI; rw [Int.toNat_natCast, Int.toNat_natCast]; exact rfl
  clear hg
  go_enter Tryz.func83, Tryz.ntmps83
  go_wp2_with (go_at_call 33; refine (absN_any _ _).mono ?_; rintro e w' ⟨rfl, hw⟩; obtain rfl := hw)
  go_loopw [5, 6] (fun a b wr => ∃ x y : Nat, x ≤ 1000000000000000000 ∧ y ≤ 1000000000000000000 ∧ a = .int .i64 x ∧ b = .int .i64 y ∧ Hid (Nat.gcd x y = Nat.gcd x0 y0) ∧ Below (w.heap.size + 1) (w.alloc (.cells #[.int .i64 0, .int .i64 0] 83)) wr) (fun _ b _ => (intOf b).toNat)
  case atStart => exact ⟨x0, y0, by omega, by omega, rfl, rfl, rfl, Below.refl _ _⟩
  case round =>
    obtain ⟨x, y, hx1, hy1, rfl, rfl, hgg, hbr⟩ := hrel
    by_cases hz : y = 0
    · subst hz
      have h := hgg.out
      rw [Nat.gcd_zero_right] at h
      have hxg : (x : Int) = g := by rw [h]; exact HG.out
      obtain ⟨xg, hxg2⟩ : ∃ xg : Int, xg = (x : Int) := ⟨_, rfl⟩
      rw [← hxg2] at hxg
      rw [← hxg2]
      subst hxg
      have d0 : wr.cell? ⟨w.heap.size, 0, none⟩ = some (.int .i64 0) := (hbr.cell (p := ⟨w.heap.size, 0, none⟩) (by show w.heap.size < _; omega)).trans (new_cell _ _ _ _)
      have d1 : wr.cell? ⟨w.heap.size, 1, none⟩ = some (.int .i64 0) := (hbr.cell (p := ⟨w.heap.size, 1, none⟩) (by show w.heap.size < _; omega)).trans (new_cell _ _ _ _)
      have f0 : wr.frozen? ⟨w.heap.size, 0, none⟩ = false := (hbr.frozen (p := ⟨w.heap.size, 0, none⟩) (by show w.heap.size < _; omega)).trans (new_frozen _ _ _ _)
      have f1 : wr.frozen? ⟨w.heap.size, 1, none⟩ = false := (hbr.frozen (p := ⟨w.heap.size, 1, none⟩) (by show w.heap.size < _; omega)).trans (new_frozen _ _ _ _)
      clear h hgg hxg2
      have q0 : 0 ≤ (x0 : Int) / xg := Int.ediv_nonneg (by omega) (by omega)
      have q1 : (x0 : Int) / xg ≤ x0 := Int.ediv_le_self _ (by omega)
      have q2 : 0 ≤ (y0 : Int) / xg := Int.ediv_nonneg (by omega) (by omega)
      have q3 : (y0 : Int) / xg ≤ y0 := Int.ediv_le_self _ (by omega)
      have q4 : wrap64 ((x0 : Int) / xg) = (x0 : Int) / xg := IntWalk.wrap64_in _ ⟨by omega, by omega⟩
      have q5 : wrap64 ((y0 : Int) / xg) = (y0 : Int) / xg := IntWalk.wrap64_in _ ⟨by omega, by omega⟩
      have Q4 := hide q4
      have Q5 := hide q5
      clear q4 q5
      go_wp2_with fail
      go_region
      go_wp2_with fail
      refine bodyPost_ret (v := .agg #[.int .i64 ((x0 : Int) / xg), .int .i64 ((y0 : Int) / xg)]) (by simp [results, Tryz.results83, go_sem, d0, d1]; try exact ⟨Q4.out, Q5.out⟩) rfl ⟨rfl, ?_⟩
      exact ((((((Below.refl _ _).alloc (Nat.le_refl _) _).trans (hbr.mono (by omega))).setCell (Nat.le_refl _) _).setCell (Nat.le_refl _) _)).drew
    · have hpos : 0 < y := Nat.pos_of_ne_zero hz
      have hml := Nat.mod_lt x hpos
      clear hz
      go_wp2_with fail
      go_quiet (fail)
      go_wp2_with fail
      go_roundw
      case rel =>
        exact ⟨y, x % y, hy1, by omega, rfl, by first | rfl | exact vint (by omega), (gcd_step x y).trans hgg.out, hbr.trans (Joins.below_draws _ _ _)⟩
      case measure => simp [intOf]; omega

end Go.Proofs.YtajjophmngabbaaGreatDoor
