/-
  THE DIRECTIONS IN WHICH A JIB MAY SWING: the program's and the reference's. No condition but those that each theorem names.
-/
import Derived.Test.YtajjophmngabbaaGreatDoorTurn
import Derived.Test.YtajjophmngabbaaGreatDoorFamInt64
namespace Go.Proofs.YtajjophmngabbaaGreatDoor
open Go.RowKit
set_option linter.unusedVariables false

/-- The first k directions, those near to the opposite of the wind. -/
def swl (wind swing : Int) (k : Nat) : List Int := ((List.range k).filter fun (d : Nat) => decide (siz (trn (tur wind 12) (d : Int)) ≤ swing)).map fun (d : Nat) => (d : Int)
theorem swl_yes {wind swing : Int} {k : Nat} (h : siz (trn (tur wind 12) (k : Int)) ≤ swing) : swl wind swing (k + 1) = swl wind swing k ++ [(k : Int)] := by
  simp [swl, List.range_succ, List.filter_append, h]
theorem swl_no {wind swing : Int} {k : Nat} (h : ¬ siz (trn (tur wind 12) (k : Int)) ≤ swing) : swl wind swing (k + 1) = swl wind swing k := by
  simp [swl, List.range_succ, List.filter_append, h]
theorem swl_le (wind swing : Int) (k : Nat) : (swl wind swing k).length ≤ k := by
  unfold swl; rw [List.length_map]; exact Nat.le_trans (List.length_filter_le _ _) (by simp)
theorem rInt64_snoc (l : List Int) (x : Int) : rInt64 (l ++ [x]) = rInt64 l ++ [.int .i64 x] := by simp [rInt64, rows, cInt64]
theorem rInt64_nil : rInt64 [] = [] := rfl

set_option maxHeartbeats 400000 in
theorem opposite_any (a : Int) (h1 : -1000 ≤ a) (h2 : a ≤ 1000) (w : World) : Calls Tryz.prog 59 #[.int .i64 a] w fun e w' => e = .returned (.int .i64 (tur a 12)) ∧ w' = w := by
  go_enter Tryz.func59, Tryz.ntmps59
  go_wp2_with (go_at_call 79; refine (turned_any _ _ (by omega) (by omega) (by omega) (by omega) _).mono ?_; rintro e w' ⟨rfl, hw⟩; obtain rfl := hw.symm)
  go_ret
  exact ⟨rfl, rfl⟩

set_option maxHeartbeats 1000000 in
theorem swings_any (wind swing : Int) (h1 : 0 ≤ wind) (h2 : wind ≤ 23) (h3 : 0 ≤ swing) (h4 : swing ≤ 24) (w : World) :
    Calls Tryz.prog 43 #[.int .i64 wind, .int .i64 swing] w fun e w' => ∃ v, e = .returned v ∧ Own w' w.heap.size w'.heap.size 2 1 v (swl wind swing 24).length (rInt64 (swl wind swing 24)) ∧ Below w.heap.size w w' := by
  obtain ⟨i0, hi0, hz0, hz1, hz2⟩ := info_parts infoInt64
  have I := hide (And.intro hi0 (And.intro hz0 (And.intro hz1 hz2)))
  clear hi0 hz0 hz1 hz2
  go_enter Tryz.func43, Tryz.ntmps43
  go_wp2
  go_loopw [5, 7] (fun v i wr => ∃ k : Nat, k ≤ 24 ∧ i = .int .i64 k ∧ wr.ownsRow w.heap.size 2 1 v (swl wind swing k).length (rInt64 (swl wind swing k)) ∧ Below w.heap.size w wr) (fun _ i _ => 24 - (intOf i).toNat)
  case atStart => exact ⟨0, by omega, rfl, World.ownsRow_nil _ _ _ _, Below.refl _ _⟩
  case round =>
    obtain ⟨k, hk, rfl, ho, hbr⟩ := hrel
    by_cases hlt : k < 24
    · have hb1 := tur_bd wind 12
      have hb2 := siz_bd (tur wind 12) (k : Int)
      have hb3 := trn_bd (tur wind 12) (k : Int)
      have hsz := hbr.size
      by_cases hs : siz (trn (tur wind 12) (k : Int)) ≤ swing
      · have E := hide (swl_yes hs)
        have hlen := swl_le wind swing k
        have Ho := hide ho
        clear ho
        go_wp2_with (first | (go_at_call 59; refine (opposite_any _ (by omega) (by omega) _).mono ?_; rintro e w' ⟨rfl, hw⟩; obtain rfl := hw.symm) | (go_at_call 58; refine (turnBetween_any _ _ (by omega) (by omega) (by omega) (by omega) _).mono ?_; rintro e w' ⟨rfl, hw⟩; obtain rfl := hw.symm) | (go_at_call 33; refine (abs_any _ (by omega) (by omega) _).mono ?_; rintro e w' ⟨rfl, hw⟩; obtain rfl := hw.symm) | (at_builtin; refine wpList_append_own _ rfl (.tmp 17) (.tmp 19) 38 rfl w.heap.size 2 i0 (.int .i64 0) 1 8 Tryz.underlying38 I.out.1 I.out.2.1 I.out.2.2.1 I.out.2.2.2 rfl (by decide) _ _ _ rfl (Ho.out.alloc _) ⟨wr.heap.size, 0, none⟩ 1 1 [.int .i64 (k : Int)] rfl rfl (cell_one_new _ _ _) (by simp [Value.oneCell']) (by unfold maxLen; omega) (by omega) (by simp; omega) ?_; intro v' w1 hown' hgrow _))
        go_roundw
        case rel => exact ⟨k + 1, by omega, by go_num, by rw [E.out, rInt64_snoc, List.length_append]; exact hown', (hbr.alloc hsz _).grown hgrow (by simp; omega) (fun g hg => (Ho.out.lt g hg).1)⟩
        case measure => simp [intOf]; omega
      · have E := hide (swl_no hs)
        go_wp2_with (first | (go_at_call 59; refine (opposite_any _ (by omega) (by omega) _).mono ?_; rintro e w' ⟨rfl, hw⟩; obtain rfl := hw.symm) | (go_at_call 58; refine (turnBetween_any _ _ (by omega) (by omega) (by omega) (by omega) _).mono ?_; rintro e w' ⟨rfl, hw⟩; obtain rfl := hw.symm) | (go_at_call 33; refine (abs_any _ (by omega) (by omega) _).mono ?_; rintro e w' ⟨rfl, hw⟩; obtain rfl := hw.symm))
        go_roundw
        case rel => exact ⟨k + 1, by omega, by go_num, by rw [E.out]; exact ho, hbr⟩
        case measure => simp [intOf]; omega
    · obtain rfl : k = 24 := by omega
      go_wp2
      go_ret
      exact ⟨_, rfl, Own.of_owns ho, hbr⟩

end Go.Proofs.YtajjophmngabbaaGreatDoor
