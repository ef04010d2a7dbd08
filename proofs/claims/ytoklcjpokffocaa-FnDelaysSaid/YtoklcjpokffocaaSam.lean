/-
  SameMotion, at two motions that are the same. No condition but those that each theorem names.
-/
import Derived.Test.YtoklcjpokffocaaFc
namespace Go.Proofs.Ytoklcjpokffocaa
open Go.RowKit
set_option linter.unusedVariables false

set_option maxHeartbeats 1000000 in
theorem sameMotion_same (Aa Ab : Option Addr) (n ca loa hia cb lob hib : Nat) (a : Int) (l : List Int) (w : World)
    (hRa : Rd w loa hia 1 Aa n (rInt64 l)) (hn : l.length = n) (hm : n ≤ 4096) (hha : hia ≤ w.heap.size) (hRb : Rd w lob hib 1 Ab n (rInt64 l)) (hhb : hib ≤ w.heap.size) :
    Calls Try.prog 14 #[.agg #[.int .i64 a, .slice Aa n ca], .agg #[.int .i64 a, .slice Ab n cb]] w fun e w' => e = .returned (.bool true) ∧ Below w.heap.size w w' := by
  have HN := hide hn
  have HRA := hide hRa
  have HRB := hide hRb
  clear hRa hRb hn
  go_enter Try.func14, Try.ntmps14
  go_upto_region 1 with fail
  obtain ⟨X, hX⟩ : ∃ X, ((w.alloc (.cells #[.int .i64 a, .slice Aa n ca] 27)).alloc (.cells #[.int .i64 a, .slice Ab n cb] 27)) = X := ⟨_, rfl⟩
  obtain ⟨hb0, hs0, B1, B2⟩ := two_boxes w a a Aa Ab n ca n cb hX
  rw [hX]
  have HRA2 := hide (HRA.out.below hb0 hha)
  have HRB2 := hide (HRB.out.below hb0 hhb)
  have HB0 := hide hb0
  have c0 := B1 0 _ rfl
  have c1 := B1 1 _ rfl
  have d0 := B2 0 _ rfl
  have d1 := B2 1 _ rfl
  clear hb0 B1 B2 hX HRA HRB
  go_wp2_with fail
  go_loopw [5] (fun i wr => ∃ k : Nat, k ≤ n ∧ i = .int .i64 k ∧ Below X.heap.size X wr) (fun i _ => n - (intOf i).toNat)
  case atStart => exact ⟨0, by omega, rfl, Below.refl _ _⟩
  case round =>
    obtain ⟨k, hk, rfl, hbr⟩ := hrel
    have hsz := hbr.size
    have e0 := (hbr.cell (p := ⟨w.heap.size, 1, none⟩) (by show w.heap.size < X.heap.size; omega)).trans c1
    have e1 := (hbr.cell (p := ⟨w.heap.size + 1, 1, none⟩) (by show w.heap.size + 1 < X.heap.size; omega)).trans d1
    by_cases hlt : k < n
    · obtain ⟨b1, o1, rfl, h1, h2, hc1⟩ := mo_cells HRA2.out HN.out (by omega)
      obtain ⟨b2, o2, rfl, h3, h4, hc2⟩ := mo_cells HRB2.out HN.out (by omega)
      have x1 := (hbr.cell (p := ⟨b1, o1 + k, none⟩) (by show b1 < X.heap.size; omega)).trans (hc1 k hlt)
      have x2 := (hbr.cell (p := ⟨b2, o2 + k, none⟩) (by show b2 < X.heap.size; omega)).trans (hc2 k hlt)
      have z1 : (k : Int) < (n : Int) := by omega
      generalize l.getD k 0 = x at *
      clear c0 c1 d0 d1 hc1 hc2
      go_wp2_with fail
      go_quiet (fail)
      go_wp2_with fail
      go_roundw
      case rel => exact ⟨k + 1, by omega, by go_num, hbr.trans ((Joins.below_draws _ _ _).mono hsz)⟩
      case measure => simp [intOf]; omega
    · obtain rfl : k = n := by omega
      clear c0 c1 d0 d1
      go_wp2_with fail
      go_ret
      exact ⟨rfl, HB0.out.trans (hbr.mono (by omega))⟩
end Go.Proofs.Ytoklcjpokffocaa
