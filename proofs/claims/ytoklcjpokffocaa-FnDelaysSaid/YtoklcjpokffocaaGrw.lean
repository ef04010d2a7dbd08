/-
  slices.Grow of nothing. No condition but those that the theorem names.
-/
import Derived.Test.YtoklcjpokffocaaLat
import Derived.Lib.AppendZeros
namespace Go.Proofs.Ytoklcjpokffocaa
open Go.RowKit
set_option linter.unusedVariables false

set_option maxHeartbeats 1000000 in
theorem grow_zero (w : World) :
    Calls Try.prog 63 #[.slice none 0 0, .int .i64 0] w fun e w' => e = .returned (.slice none 0 0) ∧ w' = w := by
  go_enter Try.func63, Try.ntmps63
  go_wp2_with fail
  go_ret
  exact ⟨rfl, rfl⟩

set_option maxHeartbeats 1000000 in
theorem grow_pos (n : Nat) (h0 : 0 < n) (hm : n ≤ 10000) (w : World) :
    Calls Try.prog 63 #[.slice none 0 0, .int .i64 n] w fun e w' => ∃ v, e = .returned v ∧ w'.ownsRow w.heap.size 2 1 v 0 [] ∧ Below w.heap.size w w' := by
  obtain ⟨i0, hi0, hz0, hz1, hz2⟩ := info_parts infoInt64
  have I := hide (And.intro hi0 (And.intro hz0 (And.intro hz1 hz2)))
  clear hi0 hz0 hz1 hz2
  have z0 : ¬ (n : Int) < 0 := by omega
  have z1 : (0 : Int) < (n : Int) := by omega
  have hrun := Lib.run_append_nil_zeros (P := Try.prog) w 25 3 25 2 i0 (.int .i64 0) .i64 .i64 Try.underlying25 (by kernel_rfl) I.out.1 I.out.2.1 n h0 (by rw [I.out.2.2.1]; decide) (by omega) (by rw [I.out.2.2.2]; omega)
  obtain ⟨g, hg⟩ : ∃ g, grownCap w n 0 2 = g := ⟨_, rfl⟩
  rw [hg] at hrun
  have g1 : n ≤ g := by rw [← hg]; exact grownCap_ge _ _ _ _
  have g2 : g ≤ maxLen := by rw [← hg]; exact grownCap_le_maxLen _ _ _ _ (by unfold maxLen; omega)
  have HRUN := hide hrun
  clear hrun hg
  go_enter Try.func63, Try.ntmps63
  go_wp2_with (at_builtin; refine Lib.wpList_append_run _ (by rfl) (.tmp 20) (.tmp 21) 25 3 (by rfl) _ _ (by rfl) (by rfl) _ _ HRUN.out ?_)
  go_ret
  refine ⟨_, rfl, ?_, (below_al _ _).drew⟩
  exact World.ownsRow_made (base := w.heap.size) (size := 1) w _ g (Nat.le_refl _) g2 (by simp [Builtin.zeroCells]; omega)
end Go.Proofs.Ytoklcjpokffocaa
