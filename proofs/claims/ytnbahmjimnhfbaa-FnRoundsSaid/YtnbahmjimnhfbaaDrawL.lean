/-
  DRAWINGS of the reference from bytes: what the laws on controllers take. What is drawn is left open. No condition but those that each theorem names.
-/
import Derived.Test.YtnbahmjimnhfbaaPair
namespace Go.Proofs.Ytnbahmjimnhfbaa
open Go.RowKit
set_option linter.unusedVariables false
set_option linter.unusedSimpArgs false

set_option maxRecDepth 100000 in
set_option maxHeartbeats 2000000 in
theorem DrawHearOther_g (A : Option Addr) (n c hi : Nat) (bs : List Value) (hn : n ≤ maxLen) (w : World) (h : Rd w 0 hi 1 A n bs) (hhi : hi ≤ w.heap.size) (hv : ∀ v ∈ bs, ∃ x : Int, v = .int .u8 x ∧ 0 ≤ x ∧ x ≤ 255) :
    Calls Try.prog 34 #[.slice A n c] w fun e w' => ∃ (x y z u v : Int) (arr : Bool) (o : Int), e = .returned (.tuple #[.agg #[.int .i64 x, .int .i64 y, .int .i64 z, .int .i64 u, .int .i64 v], .bool arr, .int .i64 o]) ∧ Below w.heap.size w w' := by
  have HR := hide h
  have HV := hide hv
  have HT := hide (show Blw w w from Below.refl _ _)
  clear h hv
  go_enter Try.func34, Try.ntmps34
  go_wp2_with fail
  obtain ⟨w_1, hW⟩ : ∃ W : World, W = (w.alloc (.cells #[.int .i64 0, .int .i64 0, .int .i64 0, .int .i64 0, .int .i64 0] 53)) := ⟨_, rfl⟩
  rw [← hW]
  have hs_w_1 : w_1.heap.size = w.heap.size + 1 := by rw [hW]; simp
  have bR : Box w_1 w.heap.size [.int .i64 0, .int .i64 0, .int .i64 0, .int .i64 0, .int .i64 0] := by rw [hW]; exact (box_at _ _ _ _ (by simp))
  have fR : Fz w_1 w.heap.size := by rw [hW]; exact (fz_at _ _ _ _ (by simp))
  replace HT := hide (show Blw w w_1 by rw [hW]; exact (HT.out.alloc_ _))
  clear hW
  refine (l00From_any A n c hi bs hn _ (HR.out.below HT.out hhi) (by omega) HV.out).mono ?_
  rintro e w_2 ⟨rfl, S1, hq1⟩
  have t1 : Tch w_1.heap.size (w_1.heap.size + 1) w_1 w_2 := Tch.of_below hq1 _ _
  clear hq1
  have hs_w_2 : w_1.heap.size ≤ w_2.heap.size := t1.size
  replace bR := bR.tch t1 (by omega) (by omega)
  replace fR := fR.tch t1 (by omega) (by omega)
  replace HT := hide (HT.out.thenT t1 (by omega))
  clear t1
  have HS := hide (show Src w_2 (w.heap.size + 1) 0 by rw [← hs_w_1]; exact S1)
  have hlt := HS.out.lt
  clear S1 HV HR
  go_wp2_with fail
  refine (l18Draw_g (w.heap.size + 1) 0 (by omega) _ HS.out).mono ?_
  rintro e w_3 ⟨a0, a1, a2, a3, a4, rfl, S1, t1⟩
  replace HS := hide S1
  clear S1
  have hs_w_3 : w_2.heap.size ≤ w_3.heap.size := t1.size
  replace bR := bR.tch t1 (by omega) (by omega)
  replace fR := fR.tch t1 (by omega) (by omega)
  replace HT := hide (HT.out.thenT t1 (by omega))
  clear t1
  go_wp2_with fail
  obtain ⟨w_4, hW⟩ : ∃ W : World, W = (w_3.alloc (.cells #[.int .i64 a0, .int .i64 a1, .int .i64 a2, .int .i64 a3, .int .i64 a4] 53)) := ⟨_, rfl⟩
  rw [← hW]
  have hs_w_4 : w_4.heap.size = w_3.heap.size + 1 := by rw [hW]; simp
  replace bR : Box w_4 w.heap.size [.int .i64 0, .int .i64 0, .int .i64 0, .int .i64 0, .int .i64 0] := by rw [hW]; exact (bR.alloc (by first | omega | (simp <;> omega) | simp) _)
  replace fR : Fz w_4 w.heap.size := by rw [hW]; exact (fR.alloc (by first | omega | (simp <;> omega) | simp) _)
  have bC : Box w_4 w_3.heap.size [.int .i64 a0, .int .i64 a1, .int .i64 a2, .int .i64 a3, .int .i64 a4] := by rw [hW]; exact (box_at _ _ _ _ (by simp))
  have fC : Fz w_4 w_3.heap.size := by rw [hW]; exact (fz_at _ _ _ _ (by simp))
  replace HS := hide (show Src w_4 (w.heap.size + 1) (0 + 20) by rw [hW]; exact (HS.out.alloc _))
  replace HT := hide (show Blw w w_4 by rw [hW]; exact (HT.out.alloc_ _))
  clear hW
  refine (one_any (w.heap.size + 1) (0 + 20) 2 (by omega) (by omega) (by omega) _ HS.out).mono ?_
  rintro e w_5 ⟨p5, rfl, S1, t1⟩
  replace HS := hide S1
  clear S1
  have hs_w_5 : w_4.heap.size ≤ w_5.heap.size := t1.size
  replace bR := bR.tch t1 (by omega) (by omega)
  replace fR := fR.tch t1 (by omega) (by omega)
  replace bC := bC.tch t1 (by omega) (by omega)
  replace fC := fC.tch t1 (by omega) (by omega)
  replace HT := hide (HT.out.thenT t1 (by omega))
  clear t1
  go_wp2_with fail
  have hdz5 : (World.drew w_5).heap.size = w_5.heap.size := rfl
  replace bR : Box (World.drew w_5) w.heap.size [.int .i64 0, .int .i64 0, .int .i64 0, .int .i64 0, .int .i64 0] := bR
  replace fR : Fz (World.drew w_5) w.heap.size := fR
  replace bC : Box (World.drew w_5) w_3.heap.size [.int .i64 a0, .int .i64 a1, .int .i64 a2, .int .i64 a3, .int .i64 a4] := bC
  replace fC : Fz (World.drew w_5) w_3.heap.size := fC
  replace HS := hide (show Src (World.drew w_5) (w.heap.size + 1) (0 + 22) from HS.out.drew)
  replace HT := hide (show Blw w (World.drew w_5) from HT.out.drew_)
  refine wp_region_held_drew (S := fun W => W.cell? ⟨w_3.heap.size, 0, none⟩ = some (.int .i64 a0) ∧ W.cell? ⟨w_3.heap.size, 1, none⟩ = some (.int .i64 a1) ∧ W.cell? ⟨w_3.heap.size, 2, none⟩ = some (.int .i64 a2) ∧ W.cell? ⟨w_3.heap.size, 3, none⟩ = some (.int .i64 a3) ∧ W.cell? ⟨w_3.heap.size, 4, none⟩ = some (.int .i64 a4)) (by kernel_rfl) (⟨bC 0 _ rfl, bC 1 _ rfl, bC 2 _ rfl, bC 3 _ rfl, bC 4 _ rfl⟩) (fun hHeld => ?_)
  try simp only [Array.replicate, List.replicate]
  refine wpAnyH_take (i := 0) (v := ?_) rfl (by kernel_rfl) (by kernel_rfl) (by kernel_rfl) (fun _ _ _ h => h) (Or.inl ⟨by rfl, ?_⟩) (by assumption) ?_
  rotate_left
  · (intro w hSw; (try dsimp only at hSw); go_simp; try (with_reducible rfl))
  try simp only [Act.put, List.getElem_toArray, List.getElem_cons_succ, List.getElem_cons_zero, List.setIfInBounds_toArray, List.set_cons_succ, List.set_cons_zero]
  refine wpAnyH_take (i := 1) (v := ?_) rfl (by kernel_rfl) (by kernel_rfl) (by kernel_rfl) (fun _ _ _ h => h) (Or.inl ⟨by rfl, ?_⟩) (by assumption) ?_
  rotate_left
  · (intro w hSw; (try dsimp only at hSw); go_simp; try (with_reducible rfl))
  try simp only [Act.put, List.getElem_toArray, List.getElem_cons_succ, List.getElem_cons_zero, List.setIfInBounds_toArray, List.set_cons_succ, List.set_cons_zero]
  refine wpAnyH_take (i := 2) (v := ?_) rfl (by kernel_rfl) (by kernel_rfl) (by kernel_rfl) (fun _ _ _ h => h) (Or.inl ⟨by rfl, ?_⟩) (by assumption) ?_
  rotate_left
  · (intro w hSw; (try dsimp only at hSw); go_simp; try (with_reducible rfl))
  try simp only [Act.put, List.getElem_toArray, List.getElem_cons_succ, List.getElem_cons_zero, List.setIfInBounds_toArray, List.set_cons_succ, List.set_cons_zero]
  refine wpAnyH_ready (rs := [3]) (by kernel_rfl) (by simp) ?_
  refine AllReadyH.cons rfl (fun KQ hK => ?_) AllReadyH.nil
  go_simp
  refine (l02DrawDir_g (w.heap.size + 1) (0 + 22) (by omega) _ HS.out).mono ?_
  rintro e w_6 ⟨o, rfl, S1, t1⟩
  replace HS := hide S1
  clear S1
  have hs_w_6 : (World.drew w_5).heap.size ≤ w_6.heap.size := t1.size
  replace bR := bR.tch t1 (by omega) (by omega)
  replace fR := fR.tch t1 (by omega) (by omega)
  replace bC := bC.tch t1 (by omega) (by omega)
  replace fC := fC.tch t1 (by omega) (by omega)
  replace HT := hide (HT.out.thenT t1 (by omega))
  clear t1
  refine hK.out _ _ (⟨bC 0 _ rfl, bC 1 _ rfl, bC 2 _ rfl, bC 3 _ rfl, bC 4 _ rfl⟩) (fun hHeld2 => ?_)
  clear hK KQ hHeld
  have hHeld := hHeld2
  clear hHeld2
  try simp only [Act.put, List.getElem_toArray, List.getElem_cons_succ, List.getElem_cons_zero, List.setIfInBounds_toArray, List.set_cons_succ, List.set_cons_zero]
  have lR0 := bR 0 _ rfl
  have lR1 := bR 1 _ rfl
  have lR2 := bR 2 _ rfl
  have lR3 := bR 3 _ rfl
  have lR4 := bR 4 _ rfl
  have mR0 := fR 0
  have mR1 := fR 1
  have mR2 := fR 2
  have mR3 := fR 3
  have mR4 := fR 4
  refine wpAnyH_ready (rs := [4]) (by kernel_rfl) (by simp) ?_
  refine AllReadyH.cons rfl (fun KQ hK => ?_) AllReadyH.nil
  go_simp
  refine hK.out _ _ (⟨far_c (far_c (far_c (far_c (far_c (bC 0 _ rfl) (by omega)) (by omega)) (by omega)) (by omega)) (by omega), far_c (far_c (far_c (far_c (far_c (bC 1 _ rfl) (by omega)) (by omega)) (by omega)) (by omega)) (by omega), far_c (far_c (far_c (far_c (far_c (bC 2 _ rfl) (by omega)) (by omega)) (by omega)) (by omega)) (by omega), far_c (far_c (far_c (far_c (far_c (bC 3 _ rfl) (by omega)) (by omega)) (by omega)) (by omega)) (by omega), far_c (far_c (far_c (far_c (far_c (bC 4 _ rfl) (by omega)) (by omega)) (by omega)) (by omega)) (by omega)⟩) (fun hHeld2 => ?_)
  clear hK KQ hHeld
  have hHeld := hHeld2
  clear hHeld2
  try simp only [Act.put, List.getElem_toArray, List.getElem_cons_succ, List.getElem_cons_zero, List.setIfInBounds_toArray, List.set_cons_succ, List.set_cons_zero]
  refine wpAnyH_take (i := 5) (v := ?_) rfl (by kernel_rfl) (by kernel_rfl) (by kernel_rfl) (fun _ _ _ h => h) (Or.inl ⟨by rfl, ?_⟩) (by assumption) ?_
  rotate_left
  · (intro w hSw; (try dsimp only at hSw); go_simp; try (with_reducible rfl))
  try simp only [Act.put, List.getElem_toArray, List.getElem_cons_succ, List.getElem_cons_zero, List.setIfInBounds_toArray, List.set_cons_succ, List.set_cons_zero]
  refine wpAnyH_take (i := 6) (v := ?_) rfl (by kernel_rfl) (by kernel_rfl) (by kernel_rfl) (fun _ _ _ h => h) (Or.inl ⟨by rfl, ?_⟩) (by assumption) ?_
  rotate_left
  · (intro w hSw; (try dsimp only at hSw); go_simp; try (with_reducible rfl))
  try simp only [Act.put, List.getElem_toArray, List.getElem_cons_succ, List.getElem_cons_zero, List.setIfInBounds_toArray, List.set_cons_succ, List.set_cons_zero]
  refine wpAnyH_done (by kernel_rfl) ?_ _
  clear lR0 lR1 lR2 lR3 lR4 mR0 mR1 mR2 mR3 mR4
  clear HS hHeld
  obtain ⟨w_7, hW⟩ : ∃ W : World, W = (((((w_6.setCell ⟨w.heap.size, 0, none⟩ (.int .i64 a0)).setCell ⟨w.heap.size, 1, none⟩ (.int .i64 a1)).setCell ⟨w.heap.size, 2, none⟩ (.int .i64 a2)).setCell ⟨w.heap.size, 3, none⟩ (.int .i64 a3)).setCell ⟨w.heap.size, 4, none⟩ (.int .i64 a4)) := ⟨_, rfl⟩
  rw [← hW]
  have hs_w_7 : w_7.heap.size = w_6.heap.size := by rw [hW]; simp [World.setCell]
  have cR : Box w_7 w.heap.size [.int .i64 a0, .int .i64 a1, .int .i64 a2, .int .i64 a3, .int .i64 a4] := by rw [hW]; exact (((((bR.put 0 _ (by simp)).put 1 _ (by simp)).put 2 _ (by simp)).put 3 _ (by simp)).put 4 _ (by simp))
  have cC : Box w_7 w_3.heap.size [.int .i64 a0, .int .i64 a1, .int .i64 a2, .int .i64 a3, .int .i64 a4] := by rw [hW]; exact (((((bC.far _ _ (by show w.heap.size ≠ w_3.heap.size; omega)).far _ _ (by show w.heap.size ≠ w_3.heap.size; omega)).far _ _ (by show w.heap.size ≠ w_3.heap.size; omega)).far _ _ (by show w.heap.size ≠ w_3.heap.size; omega)).far _ _ (by show w.heap.size ≠ w_3.heap.size; omega))
  replace bR := cR
  clear cR
  replace fR : Fz w_7 w.heap.size := by rw [hW]; exact (((((fR.set _ _).set _ _).set _ _).set _ _).set _ _)
  replace bC := cC
  clear cC
  replace fC : Fz w_7 w_3.heap.size := by rw [hW]; exact (((((fC.set _ _).set _ _).set _ _).set _ _).set _ _)
  replace HT := hide (show Blw w w_7 by rw [hW]; exact (((((HT.out.setNew (by omega) _ _).setNew (by omega) _ _).setNew (by omega) _ _).setNew (by omega) _ _).setNew (by omega) _ _))
  clear hW
  go_wp2_with fail
  have lR0 := bR 0 _ rfl
  have lR1 := bR 1 _ rfl
  have lR2 := bR 2 _ rfl
  have lR3 := bR 3 _ rfl
  have lR4 := bR 4 _ rfl
  refine bodyPost_ret (v := .tuple #[.agg #[.int .i64 a0, .int .i64 a1, .int .i64 a2, .int .i64 a3, .int .i64 a4], .bool p5, .int .i64 o]) (by simp [results, Try.results34, go_sem, dcell2, lR0, lR1, lR2, lR3, lR4]) rfl ⟨_, _, _, _, _, _, _, rfl, HT.out⟩

set_option maxRecDepth 100000 in
set_option maxHeartbeats 2000000 in
theorem DrawStepControl_g (A : Option Addr) (n c hi : Nat) (bs : List Value) (hn : n ≤ maxLen) (w : World) (h : Rd w 0 hi 1 A n bs) (hhi : hi ≤ w.heap.size) (hv : ∀ v ∈ bs, ∃ x : Int, v = .int .u8 x ∧ 0 ≤ x ∧ x ≤ 255) :
    Calls Try.prog 31 #[.slice A n c] w fun e w' => ∃ (v : Value) (x y : Int) (fst : Bool) (a0 a1 a2 a3 a4 : Int), e = .returned (.tuple #[v, .agg #[.int .i64 x, .int .i64 y], .bool fst, .agg #[.int .i64 a0, .int .i64 a1, .int .i64 a2, .int .i64 a3, .int .i64 a4]]) ∧ TabR w' w.heap.size w'.heap.size v ∧ Below w.heap.size w w' := by
  have HR := hide h
  have HV := hide hv
  have HT := hide (show Blw w w from Below.refl _ _)
  clear h hv
  go_enter Try.func31, Try.ntmps31
  go_wp2_with fail
  obtain ⟨w_1, hW⟩ : ∃ W : World, W = ((w.alloc (.cells #[.int .i64 0, .int .i64 0] 51)).alloc (.cells #[.int .i64 0, .int .i64 0, .int .i64 0, .int .i64 0, .int .i64 0] 53)) := ⟨_, rfl⟩
  rw [← hW]
  have hs_w_1 : w_1.heap.size = w.heap.size + 2 := by rw [hW]; simp
  have bR : Box w_1 w.heap.size [.int .i64 0, .int .i64 0] := by rw [hW]; exact ((box_at _ _ _ _ (by simp)).alloc (by first | omega | (simp <;> omega) | simp) _)
  have fR : Fz w_1 w.heap.size := by rw [hW]; exact ((fz_at _ _ _ _ (by simp)).alloc (by first | omega | (simp <;> omega) | simp) _)
  have bP : Box w_1 (w.heap.size + 1) [.int .i64 0, .int .i64 0, .int .i64 0, .int .i64 0, .int .i64 0] := by rw [hW]; exact (box_at _ _ _ _ (by simp))
  have fP : Fz w_1 (w.heap.size + 1) := by rw [hW]; exact (fz_at _ _ _ _ (by simp))
  replace HT := hide (show Blw w w_1 by rw [hW]; exact ((HT.out.alloc_ _).alloc_ _))
  clear hW
  refine (l00From_any A n c hi bs hn _ (HR.out.below HT.out hhi) (by omega) HV.out).mono ?_
  rintro e w_2 ⟨rfl, S1, hq1⟩
  have t1 : Tch w_1.heap.size (w_1.heap.size + 1) w_1 w_2 := Tch.of_below hq1 _ _
  clear hq1
  have hs_w_2 : w_1.heap.size ≤ w_2.heap.size := t1.size
  replace bR := bR.tch t1 (by omega) (by omega)
  replace fR := fR.tch t1 (by omega) (by omega)
  replace bP := bP.tch t1 (by omega) (by omega)
  replace fP := fP.tch t1 (by omega) (by omega)
  replace HT := hide (HT.out.thenT t1 (by omega))
  clear t1
  have HS := hide (show Src w_2 (w.heap.size + 2) 0 by rw [← hs_w_1]; exact S1)
  have hlt := HS.out.lt
  clear S1 HV HR
  go_wp2_with fail
  refine (l18Pair_g (w.heap.size + 2) 0 (by omega) _ HS.out).mono ?_
  rintro e w_3 ⟨v, x, y, a0, a1, a2, a3, a4, d0, d1, d2, d3, d4, rfl, hv, S1, t1⟩
  replace HS := hide S1
  clear S1
  have hs_w_3 : w_2.heap.size ≤ w_3.heap.size := t1.size
  replace bR := bR.tch t1 (by omega) (by omega)
  replace fR := fR.tch t1 (by omega) (by omega)
  replace bP := bP.tch t1 (by omega) (by omega)
  replace fP := fP.tch t1 (by omega) (by omega)
  replace HT := hide (HT.out.thenT t1 (by omega))
  clear t1
  have TA := hide hv
  clear hv
  go_wp2_with fail
  obtain ⟨w_4, hW⟩ : ∃ W : World, W = (((w_3.alloc (.cells #[.int .i64 x, .int .i64 y] 51)).alloc (.cells #[.int .i64 a0, .int .i64 a1, .int .i64 a2, .int .i64 a3, .int .i64 a4] 53)).alloc (.cells #[.int .i64 d0, .int .i64 d1, .int .i64 d2, .int .i64 d3, .int .i64 d4] 53)) := ⟨_, rfl⟩
  rw [← hW]
  have hs_w_4 : w_4.heap.size = w_3.heap.size + 3 := by rw [hW]; simp
  replace bR : Box w_4 w.heap.size [.int .i64 0, .int .i64 0] := by rw [hW]; exact (((bR.alloc (by first | omega | (simp <;> omega) | simp) _).alloc (by first | omega | (simp <;> omega) | simp) _).alloc (by first | omega | (simp <;> omega) | simp) _)
  replace fR : Fz w_4 w.heap.size := by rw [hW]; exact (((fR.alloc (by first | omega | (simp <;> omega) | simp) _).alloc (by first | omega | (simp <;> omega) | simp) _).alloc (by first | omega | (simp <;> omega) | simp) _)
  replace bP : Box w_4 (w.heap.size + 1) [.int .i64 0, .int .i64 0, .int .i64 0, .int .i64 0, .int .i64 0] := by rw [hW]; exact (((bP.alloc (by first | omega | (simp <;> omega) | simp) _).alloc (by first | omega | (simp <;> omega) | simp) _).alloc (by first | omega | (simp <;> omega) | simp) _)
  replace fP : Fz w_4 (w.heap.size + 1) := by rw [hW]; exact (((fP.alloc (by first | omega | (simp <;> omega) | simp) _).alloc (by first | omega | (simp <;> omega) | simp) _).alloc (by first | omega | (simp <;> omega) | simp) _)
  replace TA := hide (show TabR w_4 w_2.heap.size w_3.heap.size v by rw [hW]; exact (((TA.out.alloc (by first | omega | (simp <;> omega) | simp) _).alloc (by first | omega | (simp <;> omega) | simp) _).alloc (by first | omega | (simp <;> omega) | simp) _))
  have bC : Box w_4 w_3.heap.size [.int .i64 x, .int .i64 y] := by rw [hW]; exact (((box_at _ _ _ _ (by simp)).alloc (by first | omega | (simp <;> omega) | simp) _).alloc (by first | omega | (simp <;> omega) | simp) _)
  have fC : Fz w_4 w_3.heap.size := by rw [hW]; exact (((fz_at _ _ _ _ (by simp)).alloc (by first | omega | (simp <;> omega) | simp) _).alloc (by first | omega | (simp <;> omega) | simp) _)
  have bD : Box w_4 (w_3.heap.size + 1) [.int .i64 a0, .int .i64 a1, .int .i64 a2, .int .i64 a3, .int .i64 a4] := by rw [hW]; exact ((box_at _ _ _ _ (by simp)).alloc (by first | omega | (simp <;> omega) | simp) _)
  have fD : Fz w_4 (w_3.heap.size + 1) := by rw [hW]; exact ((fz_at _ _ _ _ (by simp)).alloc (by first | omega | (simp <;> omega) | simp) _)
  have bE : Box w_4 (w_3.heap.size + 1 + 1) [.int .i64 d0, .int .i64 d1, .int .i64 d2, .int .i64 d3, .int .i64 d4] := by rw [hW]; exact (box_at _ _ _ _ (by simp))
  have fE : Fz w_4 (w_3.heap.size + 1 + 1) := by rw [hW]; exact (fz_at _ _ _ _ (by simp))
  replace HS := hide (show Src w_4 (w.heap.size + 2) (0 + 2900) by rw [hW]; exact (((HS.out.alloc _).alloc _).alloc _))
  replace HT := hide (show Blw w w_4 by rw [hW]; exact (((HT.out.alloc_ _).alloc_ _).alloc_ _))
  clear hW
  try go_wp2_with fail
  have hdz4 : (World.drew w_4).heap.size = w_4.heap.size := rfl
  replace bR : Box (World.drew w_4) w.heap.size [.int .i64 0, .int .i64 0] := bR
  replace fR : Fz (World.drew w_4) w.heap.size := fR
  replace bP : Box (World.drew w_4) (w.heap.size + 1) [.int .i64 0, .int .i64 0, .int .i64 0, .int .i64 0, .int .i64 0] := bP
  replace fP : Fz (World.drew w_4) (w.heap.size + 1) := fP
  replace bC : Box (World.drew w_4) w_3.heap.size [.int .i64 x, .int .i64 y] := bC
  replace fC : Fz (World.drew w_4) w_3.heap.size := fC
  replace bD : Box (World.drew w_4) (w_3.heap.size + 1) [.int .i64 a0, .int .i64 a1, .int .i64 a2, .int .i64 a3, .int .i64 a4] := bD
  replace fD : Fz (World.drew w_4) (w_3.heap.size + 1) := fD
  replace bE : Box (World.drew w_4) (w_3.heap.size + 1 + 1) [.int .i64 d0, .int .i64 d1, .int .i64 d2, .int .i64 d3, .int .i64 d4] := bE
  replace fE : Fz (World.drew w_4) (w_3.heap.size + 1 + 1) := fE
  replace TA := hide (show TabR (World.drew w_4) w_2.heap.size w_3.heap.size v from TA.out.drew)
  replace HS := hide (show Src (World.drew w_4) (w.heap.size + 2) (0 + 2900) from HS.out.drew)
  replace HT := hide (show Blw w (World.drew w_4) from HT.out.drew_)
  refine wp_region_held_drew (S := fun W => W.cell? ⟨w_3.heap.size, 0, none⟩ = some (.int .i64 x) ∧ W.cell? ⟨w_3.heap.size, 1, none⟩ = some (.int .i64 y) ∧ W.cell? ⟨(w_3.heap.size + 1), 0, none⟩ = some (.int .i64 a0) ∧ W.cell? ⟨(w_3.heap.size + 1), 1, none⟩ = some (.int .i64 a1) ∧ W.cell? ⟨(w_3.heap.size + 1), 2, none⟩ = some (.int .i64 a2) ∧ W.cell? ⟨(w_3.heap.size + 1), 3, none⟩ = some (.int .i64 a3) ∧ W.cell? ⟨(w_3.heap.size + 1), 4, none⟩ = some (.int .i64 a4)) (by kernel_rfl) (⟨bC 0 _ rfl, bC 1 _ rfl, bD 0 _ rfl, bD 1 _ rfl, bD 2 _ rfl, bD 3 _ rfl, bD 4 _ rfl⟩) (fun hHeld => ?_)
  try simp only [Array.replicate, List.replicate]
  refine wpAnyH_take (i := 0) (v := ?_) rfl (by kernel_rfl) (by kernel_rfl) (by kernel_rfl) (fun _ _ _ h => h) (Or.inl ⟨by rfl, ?_⟩) (by assumption) ?_
  rotate_left
  · (intro w hSw; (try dsimp only at hSw); go_simp; try (with_reducible rfl))
  try simp only [Act.put, List.getElem_toArray, List.getElem_cons_succ, List.getElem_cons_zero, List.setIfInBounds_toArray, List.set_cons_succ, List.set_cons_zero]
  refine wpAnyH_take (i := 1) (v := ?_) rfl (by kernel_rfl) (by kernel_rfl) (by kernel_rfl) (fun _ _ _ h => h) (Or.inl ⟨by rfl, ?_⟩) (by assumption) ?_
  rotate_left
  · (intro w hSw; (try dsimp only at hSw); go_simp; try (with_reducible rfl))
  try simp only [Act.put, List.getElem_toArray, List.getElem_cons_succ, List.getElem_cons_zero, List.setIfInBounds_toArray, List.set_cons_succ, List.set_cons_zero]
  refine wpAnyH_take (i := 2) (v := ?_) rfl (by kernel_rfl) (by kernel_rfl) (by kernel_rfl) (fun _ _ _ h => h) (Or.inl ⟨by rfl, ?_⟩) (by assumption) ?_
  rotate_left
  · (intro w hSw; (try dsimp only at hSw); go_simp; try (with_reducible rfl))
  try simp only [Act.put, List.getElem_toArray, List.getElem_cons_succ, List.getElem_cons_zero, List.setIfInBounds_toArray, List.set_cons_succ, List.set_cons_zero]
  refine wpAnyH_take (i := 4) (v := ?_) rfl (by kernel_rfl) (by kernel_rfl) (by kernel_rfl) (fun _ _ _ h => h) (Or.inl ⟨by rfl, ?_⟩) (by assumption) ?_
  rotate_left
  · (intro w hSw; (try dsimp only at hSw); go_simp; try (with_reducible rfl))
  try simp only [Act.put, List.getElem_toArray, List.getElem_cons_succ, List.getElem_cons_zero, List.setIfInBounds_toArray, List.set_cons_succ, List.set_cons_zero]
  refine wpAnyH_ready (rs := [3]) (by kernel_rfl) (by simp) ?_
  refine AllReadyH.cons rfl (fun KQ hK => ?_) AllReadyH.nil
  go_simp
  refine (one_any (w.heap.size + 2) (0 + 2900) 2 (by omega) (by omega) (by omega) _ HS.out).mono ?_
  rintro e w_5 ⟨p5, rfl, S1, t1⟩
  replace HS := hide S1
  clear S1
  have hs_w_5 : (World.drew w_4).heap.size ≤ w_5.heap.size := t1.size
  replace bR := bR.tch t1 (by omega) (by omega)
  replace fR := fR.tch t1 (by omega) (by omega)
  replace bP := bP.tch t1 (by omega) (by omega)
  replace fP := fP.tch t1 (by omega) (by omega)
  replace bC := bC.tch t1 (by omega) (by omega)
  replace fC := fC.tch t1 (by omega) (by omega)
  replace bD := bD.tch t1 (by omega) (by omega)
  replace fD := fD.tch t1 (by omega) (by omega)
  replace bE := bE.tch t1 (by omega) (by omega)
  replace fE := fE.tch t1 (by omega) (by omega)
  replace TA := hide (TA.out.tch t1 (by omega) (by omega))
  replace HT := hide (HT.out.thenT t1 (by omega))
  clear t1
  refine hK.out _ _ (⟨bC 0 _ rfl, bC 1 _ rfl, bD 0 _ rfl, bD 1 _ rfl, bD 2 _ rfl, bD 3 _ rfl, bD 4 _ rfl⟩) (fun hHeld2 => ?_)
  clear hK KQ hHeld
  have hHeld := hHeld2
  clear hHeld2
  try simp only [Act.put, List.getElem_toArray, List.getElem_cons_succ, List.getElem_cons_zero, List.setIfInBounds_toArray, List.set_cons_succ, List.set_cons_zero]
  refine wpAnyH_take (i := 5) (v := ?_) rfl (by kernel_rfl) (by kernel_rfl) (by kernel_rfl) (fun _ _ _ h => h) (Or.inl ⟨by rfl, ?_⟩) (by assumption) ?_
  rotate_left
  · (intro w hSw; (try dsimp only at hSw); go_simp; try (with_reducible rfl))
  try simp only [Act.put, List.getElem_toArray, List.getElem_cons_succ, List.getElem_cons_zero, List.setIfInBounds_toArray, List.set_cons_succ, List.set_cons_zero]
  have lR0 := bR 0 _ rfl
  have lR1 := bR 1 _ rfl
  have mR0 := fR 0
  have mR1 := fR 1
  refine wpAnyH_ready (rs := [6]) (by kernel_rfl) (by simp) ?_
  refine AllReadyH.cons rfl (fun KQ hK => ?_) AllReadyH.nil
  go_simp
  refine hK.out _ _ (⟨far_c (far_c (bC 0 _ rfl) (by omega)) (by omega), far_c (far_c (bC 1 _ rfl) (by omega)) (by omega), far_c (far_c (bD 0 _ rfl) (by omega)) (by omega), far_c (far_c (bD 1 _ rfl) (by omega)) (by omega), far_c (far_c (bD 2 _ rfl) (by omega)) (by omega), far_c (far_c (bD 3 _ rfl) (by omega)) (by omega), far_c (far_c (bD 4 _ rfl) (by omega)) (by omega)⟩) (fun hHeld2 => ?_)
  clear hK KQ hHeld
  have hHeld := hHeld2
  clear hHeld2
  try simp only [Act.put, List.getElem_toArray, List.getElem_cons_succ, List.getElem_cons_zero, List.setIfInBounds_toArray, List.set_cons_succ, List.set_cons_zero]
  refine wpAnyH_take (i := 7) (v := ?_) rfl (by kernel_rfl) (by kernel_rfl) (by kernel_rfl) (fun _ _ _ h => h) (Or.inl ⟨by rfl, ?_⟩) (by assumption) ?_
  rotate_left
  · (intro w hSw; (try dsimp only at hSw); go_simp; try (with_reducible rfl))
  try simp only [Act.put, List.getElem_toArray, List.getElem_cons_succ, List.getElem_cons_zero, List.setIfInBounds_toArray, List.set_cons_succ, List.set_cons_zero]
  have lP0 := bP 0 _ rfl
  have lP1 := bP 1 _ rfl
  have lP2 := bP 2 _ rfl
  have lP3 := bP 3 _ rfl
  have lP4 := bP 4 _ rfl
  have mP0 := fP 0
  have mP1 := fP 1
  have mP2 := fP 2
  have mP3 := fP 3
  have mP4 := fP 4
  refine wpAnyH_ready (rs := [8]) (by kernel_rfl) (by simp) ?_
  refine AllReadyH.cons rfl (fun KQ hK => ?_) AllReadyH.nil
  go_simp
  refine hK.out _ _ (⟨far_c (far_c (far_c (far_c (far_c (far_c (far_c (bC 0 _ rfl) (by omega)) (by omega)) (by omega)) (by omega)) (by omega)) (by omega)) (by omega), far_c (far_c (far_c (far_c (far_c (far_c (far_c (bC 1 _ rfl) (by omega)) (by omega)) (by omega)) (by omega)) (by omega)) (by omega)) (by omega), far_c (far_c (far_c (far_c (far_c (far_c (far_c (bD 0 _ rfl) (by omega)) (by omega)) (by omega)) (by omega)) (by omega)) (by omega)) (by omega), far_c (far_c (far_c (far_c (far_c (far_c (far_c (bD 1 _ rfl) (by omega)) (by omega)) (by omega)) (by omega)) (by omega)) (by omega)) (by omega), far_c (far_c (far_c (far_c (far_c (far_c (far_c (bD 2 _ rfl) (by omega)) (by omega)) (by omega)) (by omega)) (by omega)) (by omega)) (by omega), far_c (far_c (far_c (far_c (far_c (far_c (far_c (bD 3 _ rfl) (by omega)) (by omega)) (by omega)) (by omega)) (by omega)) (by omega)) (by omega), far_c (far_c (far_c (far_c (far_c (far_c (far_c (bD 4 _ rfl) (by omega)) (by omega)) (by omega)) (by omega)) (by omega)) (by omega)) (by omega)⟩) (fun hHeld2 => ?_)
  clear hK KQ hHeld
  have hHeld := hHeld2
  clear hHeld2
  try simp only [Act.put, List.getElem_toArray, List.getElem_cons_succ, List.getElem_cons_zero, List.setIfInBounds_toArray, List.set_cons_succ, List.set_cons_zero]
  refine wpAnyH_done (by kernel_rfl) ?_ _
  clear lR0 lR1 mR0 mR1
  clear lP0 lP1 lP2 lP3 lP4 mP0 mP1 mP2 mP3 mP4
  clear HS hHeld
  obtain ⟨w_6, hW⟩ : ∃ W : World, W = (((((((w_5.setCell ⟨w.heap.size, 0, none⟩ (.int .i64 x)).setCell ⟨w.heap.size, 1, none⟩ (.int .i64 y)).setCell ⟨(w.heap.size + 1), 0, none⟩ (.int .i64 a0)).setCell ⟨(w.heap.size + 1), 1, none⟩ (.int .i64 a1)).setCell ⟨(w.heap.size + 1), 2, none⟩ (.int .i64 a2)).setCell ⟨(w.heap.size + 1), 3, none⟩ (.int .i64 a3)).setCell ⟨(w.heap.size + 1), 4, none⟩ (.int .i64 a4)) := ⟨_, rfl⟩
  rw [← hW]
  have hs_w_6 : w_6.heap.size = w_5.heap.size := by rw [hW]; simp [World.setCell]
  have cR : Box w_6 w.heap.size [.int .i64 x, .int .i64 y] := by rw [hW]; exact (((((((bR.put 0 _ (by simp)).put 1 _ (by simp)).far _ _ (by show (w.heap.size + 1) ≠ w.heap.size; omega)).far _ _ (by show (w.heap.size + 1) ≠ w.heap.size; omega)).far _ _ (by show (w.heap.size + 1) ≠ w.heap.size; omega)).far _ _ (by show (w.heap.size + 1) ≠ w.heap.size; omega)).far _ _ (by show (w.heap.size + 1) ≠ w.heap.size; omega))
  have cP : Box w_6 (w.heap.size + 1) [.int .i64 a0, .int .i64 a1, .int .i64 a2, .int .i64 a3, .int .i64 a4] := by rw [hW]; exact (((((((bP.far _ _ (by show w.heap.size ≠ (w.heap.size + 1); omega)).far _ _ (by show w.heap.size ≠ (w.heap.size + 1); omega)).put 0 _ (by simp)).put 1 _ (by simp)).put 2 _ (by simp)).put 3 _ (by simp)).put 4 _ (by simp))
  have cC : Box w_6 w_3.heap.size [.int .i64 x, .int .i64 y] := by rw [hW]; exact (((((((bC.far _ _ (by show w.heap.size ≠ w_3.heap.size; omega)).far _ _ (by show w.heap.size ≠ w_3.heap.size; omega)).far _ _ (by show (w.heap.size + 1) ≠ w_3.heap.size; omega)).far _ _ (by show (w.heap.size + 1) ≠ w_3.heap.size; omega)).far _ _ (by show (w.heap.size + 1) ≠ w_3.heap.size; omega)).far _ _ (by show (w.heap.size + 1) ≠ w_3.heap.size; omega)).far _ _ (by show (w.heap.size + 1) ≠ w_3.heap.size; omega))
  have cD : Box w_6 (w_3.heap.size + 1) [.int .i64 a0, .int .i64 a1, .int .i64 a2, .int .i64 a3, .int .i64 a4] := by rw [hW]; exact (((((((bD.far _ _ (by show w.heap.size ≠ (w_3.heap.size + 1); omega)).far _ _ (by show w.heap.size ≠ (w_3.heap.size + 1); omega)).far _ _ (by show (w.heap.size + 1) ≠ (w_3.heap.size + 1); omega)).far _ _ (by show (w.heap.size + 1) ≠ (w_3.heap.size + 1); omega)).far _ _ (by show (w.heap.size + 1) ≠ (w_3.heap.size + 1); omega)).far _ _ (by show (w.heap.size + 1) ≠ (w_3.heap.size + 1); omega)).far _ _ (by show (w.heap.size + 1) ≠ (w_3.heap.size + 1); omega))
  have cE : Box w_6 (w_3.heap.size + 1 + 1) [.int .i64 d0, .int .i64 d1, .int .i64 d2, .int .i64 d3, .int .i64 d4] := by rw [hW]; exact (((((((bE.far _ _ (by show w.heap.size ≠ (w_3.heap.size + 1 + 1); omega)).far _ _ (by show w.heap.size ≠ (w_3.heap.size + 1 + 1); omega)).far _ _ (by show (w.heap.size + 1) ≠ (w_3.heap.size + 1 + 1); omega)).far _ _ (by show (w.heap.size + 1) ≠ (w_3.heap.size + 1 + 1); omega)).far _ _ (by show (w.heap.size + 1) ≠ (w_3.heap.size + 1 + 1); omega)).far _ _ (by show (w.heap.size + 1) ≠ (w_3.heap.size + 1 + 1); omega)).far _ _ (by show (w.heap.size + 1) ≠ (w_3.heap.size + 1 + 1); omega))
  replace bR := cR
  clear cR
  replace fR : Fz w_6 w.heap.size := by rw [hW]; exact (((((((fR.set _ _).set _ _).set _ _).set _ _).set _ _).set _ _).set _ _)
  replace bP := cP
  clear cP
  replace fP : Fz w_6 (w.heap.size + 1) := by rw [hW]; exact (((((((fP.set _ _).set _ _).set _ _).set _ _).set _ _).set _ _).set _ _)
  replace bC := cC
  clear cC
  replace fC : Fz w_6 w_3.heap.size := by rw [hW]; exact (((((((fC.set _ _).set _ _).set _ _).set _ _).set _ _).set _ _).set _ _)
  replace bD := cD
  clear cD
  replace fD : Fz w_6 (w_3.heap.size + 1) := by rw [hW]; exact (((((((fD.set _ _).set _ _).set _ _).set _ _).set _ _).set _ _).set _ _)
  replace bE := cE
  clear cE
  replace fE : Fz w_6 (w_3.heap.size + 1 + 1) := by rw [hW]; exact (((((((fE.set _ _).set _ _).set _ _).set _ _).set _ _).set _ _).set _ _)
  replace TA := hide (show TabR w_6 w_2.heap.size w_3.heap.size v by rw [hW]; exact (((((((TA.out.set (by omega) _ _).set (by omega) _ _).set (by omega) _ _).set (by omega) _ _).set (by omega) _ _).set (by omega) _ _).set (by omega) _ _))
  replace HT := hide (show Blw w w_6 by rw [hW]; exact (((((((HT.out.setNew (by omega) _ _).setNew (by omega) _ _).setNew (by omega) _ _).setNew (by omega) _ _).setNew (by omega) _ _).setNew (by omega) _ _).setNew (by omega) _ _))
  clear hW
  go_wp2_with fail
  have lR0 := bR 0 _ rfl
  have lR1 := bR 1 _ rfl
  have lP0 := bP 0 _ rfl
  have lP1 := bP 1 _ rfl
  have lP2 := bP 2 _ rfl
  have lP3 := bP 3 _ rfl
  have lP4 := bP 4 _ rfl
  refine bodyPost_ret (v := .tuple #[v, .agg #[.int .i64 x, .int .i64 y], .bool p5, .agg #[.int .i64 a0, .int .i64 a1, .int .i64 a2, .int .i64 a3, .int .i64 a4]]) (by simp [results, Try.results31, go_sem, dcell2, lR0, lR1, lP0, lP1, lP2, lP3, lP4]) rfl ⟨_, _, _, _, _, _, _, _, _, rfl, TA.out.mono (lo' := w.heap.size) (hi' := w_6.heap.size) (by omega) (by omega), HT.out⟩

set_option maxRecDepth 100000 in
set_option maxHeartbeats 2000000 in
theorem DrawRunRound_g (A : Option Addr) (n c hi : Nat) (bs : List Value) (hn : n ≤ maxLen) (w : World) (h : Rd w 0 hi 1 A n bs) (hhi : hi ≤ w.heap.size) (hv : ∀ v ∈ bs, ∃ x : Int, v = .int .u8 x ∧ 0 ≤ x ∧ x ≤ 255) :
    Calls Try.prog 28 #[.slice A n c] w fun e w' => ∃ (v : Value) (x y a0 a1 a2 a3 a4 d0 d1 d2 d3 d4 : Int) (x1 x2 : Bool), e = .returned (.tuple #[v, .agg #[.int .i64 x, .int .i64 y], .agg #[.int .i64 a0, .int .i64 a1, .int .i64 a2, .int .i64 a3, .int .i64 a4], .agg #[.int .i64 d0, .int .i64 d1, .int .i64 d2, .int .i64 d3, .int .i64 d4], .agg #[.bool x1, .bool x2]]) ∧ TabR w' w.heap.size w'.heap.size v ∧ Below w.heap.size w w' := by
  have HR := hide h
  have HV := hide hv
  have HT := hide (show Blw w w from Below.refl _ _)
  clear h hv
  go_enter Try.func28, Try.ntmps28
  go_wp2_with fail
  obtain ⟨w_1, hW⟩ : ∃ W : World, W = ((((w.alloc (.cells #[.int .i64 0, .int .i64 0] 51)).alloc (.cells #[.int .i64 0, .int .i64 0, .int .i64 0, .int .i64 0, .int .i64 0] 53)).alloc (.cells #[.int .i64 0, .int .i64 0, .int .i64 0, .int .i64 0, .int .i64 0] 53)).alloc (.cells #[.bool false, .bool false] 55)) := ⟨_, rfl⟩
  rw [← hW]
  have hs_w_1 : w_1.heap.size = w.heap.size + 4 := by rw [hW]; simp
  have bR : Box w_1 w.heap.size [.int .i64 0, .int .i64 0] := by rw [hW]; exact ((((box_at _ _ _ _ (by simp)).alloc (by first | omega | (simp <;> omega) | simp) _).alloc (by first | omega | (simp <;> omega) | simp) _).alloc (by first | omega | (simp <;> omega) | simp) _)
  have fR : Fz w_1 w.heap.size := by rw [hW]; exact ((((fz_at _ _ _ _ (by simp)).alloc (by first | omega | (simp <;> omega) | simp) _).alloc (by first | omega | (simp <;> omega) | simp) _).alloc (by first | omega | (simp <;> omega) | simp) _)
  have bP : Box w_1 (w.heap.size + 1) [.int .i64 0, .int .i64 0, .int .i64 0, .int .i64 0, .int .i64 0] := by rw [hW]; exact (((box_at _ _ _ _ (by simp)).alloc (by first | omega | (simp <;> omega) | simp) _).alloc (by first | omega | (simp <;> omega) | simp) _)
  have fP : Fz w_1 (w.heap.size + 1) := by rw [hW]; exact (((fz_at _ _ _ _ (by simp)).alloc (by first | omega | (simp <;> omega) | simp) _).alloc (by first | omega | (simp <;> omega) | simp) _)
  have bQ : Box w_1 (w.heap.size + 1 + 1) [.int .i64 0, .int .i64 0, .int .i64 0, .int .i64 0, .int .i64 0] := by rw [hW]; exact ((box_at _ _ _ _ (by simp)).alloc (by first | omega | (simp <;> omega) | simp) _)
  have fQ : Fz w_1 (w.heap.size + 1 + 1) := by rw [hW]; exact ((fz_at _ _ _ _ (by simp)).alloc (by first | omega | (simp <;> omega) | simp) _)
  have bX : Box w_1 (w.heap.size + 1 + 1 + 1) [.bool false, .bool false] := by rw [hW]; exact (box_at _ _ _ _ (by simp))
  have fX : Fz w_1 (w.heap.size + 1 + 1 + 1) := by rw [hW]; exact (fz_at _ _ _ _ (by simp))
  replace HT := hide (show Blw w w_1 by rw [hW]; exact ((((HT.out.alloc_ _).alloc_ _).alloc_ _).alloc_ _))
  clear hW
  refine (l00From_any A n c hi bs hn _ (HR.out.below HT.out hhi) (by omega) HV.out).mono ?_
  rintro e w_2 ⟨rfl, S1, hq1⟩
  have t1 : Tch w_1.heap.size (w_1.heap.size + 1) w_1 w_2 := Tch.of_below hq1 _ _
  clear hq1
  have hs_w_2 : w_1.heap.size ≤ w_2.heap.size := t1.size
  replace bR := bR.tch t1 (by omega) (by omega)
  replace fR := fR.tch t1 (by omega) (by omega)
  replace bP := bP.tch t1 (by omega) (by omega)
  replace fP := fP.tch t1 (by omega) (by omega)
  replace bQ := bQ.tch t1 (by omega) (by omega)
  replace fQ := fQ.tch t1 (by omega) (by omega)
  replace bX := bX.tch t1 (by omega) (by omega)
  replace fX := fX.tch t1 (by omega) (by omega)
  replace HT := hide (HT.out.thenT t1 (by omega))
  clear t1
  have HS := hide (show Src w_2 (w.heap.size + 4) 0 by rw [← hs_w_1]; exact S1)
  have hlt := HS.out.lt
  clear S1 HV HR
  go_wp2_with fail
  refine (l18Pair_g (w.heap.size + 4) 0 (by omega) _ HS.out).mono ?_
  rintro e w_3 ⟨v, x, y, a0, a1, a2, a3, a4, d0, d1, d2, d3, d4, rfl, hv, S1, t1⟩
  replace HS := hide S1
  clear S1
  have hs_w_3 : w_2.heap.size ≤ w_3.heap.size := t1.size
  replace bR := bR.tch t1 (by omega) (by omega)
  replace fR := fR.tch t1 (by omega) (by omega)
  replace bP := bP.tch t1 (by omega) (by omega)
  replace fP := fP.tch t1 (by omega) (by omega)
  replace bQ := bQ.tch t1 (by omega) (by omega)
  replace fQ := fQ.tch t1 (by omega) (by omega)
  replace bX := bX.tch t1 (by omega) (by omega)
  replace fX := fX.tch t1 (by omega) (by omega)
  replace HT := hide (HT.out.thenT t1 (by omega))
  clear t1
  have TA := hide hv
  clear hv
  go_wp2_with fail
  obtain ⟨w_4, hW⟩ : ∃ W : World, W = (((w_3.alloc (.cells #[.int .i64 x, .int .i64 y] 51)).alloc (.cells #[.int .i64 a0, .int .i64 a1, .int .i64 a2, .int .i64 a3, .int .i64 a4] 53)).alloc (.cells #[.int .i64 d0, .int .i64 d1, .int .i64 d2, .int .i64 d3, .int .i64 d4] 53)) := ⟨_, rfl⟩
  rw [← hW]
  have hs_w_4 : w_4.heap.size = w_3.heap.size + 3 := by rw [hW]; simp
  replace bR : Box w_4 w.heap.size [.int .i64 0, .int .i64 0] := by rw [hW]; exact (((bR.alloc (by first | omega | (simp <;> omega) | simp) _).alloc (by first | omega | (simp <;> omega) | simp) _).alloc (by first | omega | (simp <;> omega) | simp) _)
  replace fR : Fz w_4 w.heap.size := by rw [hW]; exact (((fR.alloc (by first | omega | (simp <;> omega) | simp) _).alloc (by first | omega | (simp <;> omega) | simp) _).alloc (by first | omega | (simp <;> omega) | simp) _)
  replace bP : Box w_4 (w.heap.size + 1) [.int .i64 0, .int .i64 0, .int .i64 0, .int .i64 0, .int .i64 0] := by rw [hW]; exact (((bP.alloc (by first | omega | (simp <;> omega) | simp) _).alloc (by first | omega | (simp <;> omega) | simp) _).alloc (by first | omega | (simp <;> omega) | simp) _)
  replace fP : Fz w_4 (w.heap.size + 1) := by rw [hW]; exact (((fP.alloc (by first | omega | (simp <;> omega) | simp) _).alloc (by first | omega | (simp <;> omega) | simp) _).alloc (by first | omega | (simp <;> omega) | simp) _)
  replace bQ : Box w_4 (w.heap.size + 1 + 1) [.int .i64 0, .int .i64 0, .int .i64 0, .int .i64 0, .int .i64 0] := by rw [hW]; exact (((bQ.alloc (by first | omega | (simp <;> omega) | simp) _).alloc (by first | omega | (simp <;> omega) | simp) _).alloc (by first | omega | (simp <;> omega) | simp) _)
  replace fQ : Fz w_4 (w.heap.size + 1 + 1) := by rw [hW]; exact (((fQ.alloc (by first | omega | (simp <;> omega) | simp) _).alloc (by first | omega | (simp <;> omega) | simp) _).alloc (by first | omega | (simp <;> omega) | simp) _)
  replace bX : Box w_4 (w.heap.size + 1 + 1 + 1) [.bool false, .bool false] := by rw [hW]; exact (((bX.alloc (by first | omega | (simp <;> omega) | simp) _).alloc (by first | omega | (simp <;> omega) | simp) _).alloc (by first | omega | (simp <;> omega) | simp) _)
  replace fX : Fz w_4 (w.heap.size + 1 + 1 + 1) := by rw [hW]; exact (((fX.alloc (by first | omega | (simp <;> omega) | simp) _).alloc (by first | omega | (simp <;> omega) | simp) _).alloc (by first | omega | (simp <;> omega) | simp) _)
  replace TA := hide (show TabR w_4 w_2.heap.size w_3.heap.size v by rw [hW]; exact (((TA.out.alloc (by first | omega | (simp <;> omega) | simp) _).alloc (by first | omega | (simp <;> omega) | simp) _).alloc (by first | omega | (simp <;> omega) | simp) _))
  have bC : Box w_4 w_3.heap.size [.int .i64 x, .int .i64 y] := by rw [hW]; exact (((box_at _ _ _ _ (by simp)).alloc (by first | omega | (simp <;> omega) | simp) _).alloc (by first | omega | (simp <;> omega) | simp) _)
  have fC : Fz w_4 w_3.heap.size := by rw [hW]; exact (((fz_at _ _ _ _ (by simp)).alloc (by first | omega | (simp <;> omega) | simp) _).alloc (by first | omega | (simp <;> omega) | simp) _)
  have bD : Box w_4 (w_3.heap.size + 1) [.int .i64 a0, .int .i64 a1, .int .i64 a2, .int .i64 a3, .int .i64 a4] := by rw [hW]; exact ((box_at _ _ _ _ (by simp)).alloc (by first | omega | (simp <;> omega) | simp) _)
  have fD : Fz w_4 (w_3.heap.size + 1) := by rw [hW]; exact ((fz_at _ _ _ _ (by simp)).alloc (by first | omega | (simp <;> omega) | simp) _)
  have bE : Box w_4 (w_3.heap.size + 1 + 1) [.int .i64 d0, .int .i64 d1, .int .i64 d2, .int .i64 d3, .int .i64 d4] := by rw [hW]; exact (box_at _ _ _ _ (by simp))
  have fE : Fz w_4 (w_3.heap.size + 1 + 1) := by rw [hW]; exact (fz_at _ _ _ _ (by simp))
  replace HS := hide (show Src w_4 (w.heap.size + 4) (0 + 2900) by rw [hW]; exact (((HS.out.alloc _).alloc _).alloc _))
  replace HT := hide (show Blw w w_4 by rw [hW]; exact (((HT.out.alloc_ _).alloc_ _).alloc_ _))
  clear hW
  refine (one_any (w.heap.size + 4) (0 + 2900) 2 (by omega) (by omega) (by omega) _ HS.out).mono ?_
  rintro e w_5 ⟨p5, rfl, S1, t1⟩
  replace HS := hide S1
  clear S1
  have hs_w_5 : w_4.heap.size ≤ w_5.heap.size := t1.size
  replace bR := bR.tch t1 (by omega) (by omega)
  replace fR := fR.tch t1 (by omega) (by omega)
  replace bP := bP.tch t1 (by omega) (by omega)
  replace fP := fP.tch t1 (by omega) (by omega)
  replace bQ := bQ.tch t1 (by omega) (by omega)
  replace fQ := fQ.tch t1 (by omega) (by omega)
  replace bX := bX.tch t1 (by omega) (by omega)
  replace fX := fX.tch t1 (by omega) (by omega)
  replace bC := bC.tch t1 (by omega) (by omega)
  replace fC := fC.tch t1 (by omega) (by omega)
  replace bD := bD.tch t1 (by omega) (by omega)
  replace fD := fD.tch t1 (by omega) (by omega)
  replace bE := bE.tch t1 (by omega) (by omega)
  replace fE := fE.tch t1 (by omega) (by omega)
  replace TA := hide (TA.out.tch t1 (by omega) (by omega))
  replace HT := hide (HT.out.thenT t1 (by omega))
  clear t1
  go_wp2_with fail
  have hdz5 : (World.drew w_5).heap.size = w_5.heap.size := rfl
  replace bR : Box (World.drew w_5) w.heap.size [.int .i64 0, .int .i64 0] := bR
  replace fR : Fz (World.drew w_5) w.heap.size := fR
  replace bP : Box (World.drew w_5) (w.heap.size + 1) [.int .i64 0, .int .i64 0, .int .i64 0, .int .i64 0, .int .i64 0] := bP
  replace fP : Fz (World.drew w_5) (w.heap.size + 1) := fP
  replace bQ : Box (World.drew w_5) (w.heap.size + 1 + 1) [.int .i64 0, .int .i64 0, .int .i64 0, .int .i64 0, .int .i64 0] := bQ
  replace fQ : Fz (World.drew w_5) (w.heap.size + 1 + 1) := fQ
  replace bX : Box (World.drew w_5) (w.heap.size + 1 + 1 + 1) [.bool false, .bool false] := bX
  replace fX : Fz (World.drew w_5) (w.heap.size + 1 + 1 + 1) := fX
  replace bC : Box (World.drew w_5) w_3.heap.size [.int .i64 x, .int .i64 y] := bC
  replace fC : Fz (World.drew w_5) w_3.heap.size := fC
  replace bD : Box (World.drew w_5) (w_3.heap.size + 1) [.int .i64 a0, .int .i64 a1, .int .i64 a2, .int .i64 a3, .int .i64 a4] := bD
  replace fD : Fz (World.drew w_5) (w_3.heap.size + 1) := fD
  replace bE : Box (World.drew w_5) (w_3.heap.size + 1 + 1) [.int .i64 d0, .int .i64 d1, .int .i64 d2, .int .i64 d3, .int .i64 d4] := bE
  replace fE : Fz (World.drew w_5) (w_3.heap.size + 1 + 1) := fE
  replace TA := hide (show TabR (World.drew w_5) w_2.heap.size w_3.heap.size v from TA.out.drew)
  replace HS := hide (show Src (World.drew w_5) (w.heap.size + 4) (0 + 2902) from HS.out.drew)
  replace HT := hide (show Blw w (World.drew w_5) from HT.out.drew_)
  refine wp_region_held_drew (S := fun W => W.cell? ⟨w_3.heap.size, 0, none⟩ = some (.int .i64 x) ∧ W.cell? ⟨w_3.heap.size, 1, none⟩ = some (.int .i64 y) ∧ W.cell? ⟨(w_3.heap.size + 1), 0, none⟩ = some (.int .i64 a0) ∧ W.cell? ⟨(w_3.heap.size + 1), 1, none⟩ = some (.int .i64 a1) ∧ W.cell? ⟨(w_3.heap.size + 1), 2, none⟩ = some (.int .i64 a2) ∧ W.cell? ⟨(w_3.heap.size + 1), 3, none⟩ = some (.int .i64 a3) ∧ W.cell? ⟨(w_3.heap.size + 1), 4, none⟩ = some (.int .i64 a4) ∧ W.cell? ⟨(w_3.heap.size + 1 + 1), 0, none⟩ = some (.int .i64 d0) ∧ W.cell? ⟨(w_3.heap.size + 1 + 1), 1, none⟩ = some (.int .i64 d1) ∧ W.cell? ⟨(w_3.heap.size + 1 + 1), 2, none⟩ = some (.int .i64 d2) ∧ W.cell? ⟨(w_3.heap.size + 1 + 1), 3, none⟩ = some (.int .i64 d3) ∧ W.cell? ⟨(w_3.heap.size + 1 + 1), 4, none⟩ = some (.int .i64 d4)) (by kernel_rfl) (⟨bC 0 _ rfl, bC 1 _ rfl, bD 0 _ rfl, bD 1 _ rfl, bD 2 _ rfl, bD 3 _ rfl, bD 4 _ rfl, bE 0 _ rfl, bE 1 _ rfl, bE 2 _ rfl, bE 3 _ rfl, bE 4 _ rfl⟩) (fun hHeld => ?_)
  try simp only [Array.replicate, List.replicate]
  refine wpAnyH_take (i := 0) (v := ?_) rfl (by kernel_rfl) (by kernel_rfl) (by kernel_rfl) (fun _ _ _ h => h) (Or.inl ⟨by rfl, ?_⟩) (by assumption) ?_
  rotate_left
  · (intro w hSw; (try dsimp only at hSw); go_simp; try (with_reducible rfl))
  try simp only [Act.put, List.getElem_toArray, List.getElem_cons_succ, List.getElem_cons_zero, List.setIfInBounds_toArray, List.set_cons_succ, List.set_cons_zero]
  refine wpAnyH_take (i := 1) (v := ?_) rfl (by kernel_rfl) (by kernel_rfl) (by kernel_rfl) (fun _ _ _ h => h) (Or.inl ⟨by rfl, ?_⟩) (by assumption) ?_
  rotate_left
  · (intro w hSw; (try dsimp only at hSw); go_simp; try (with_reducible rfl))
  try simp only [Act.put, List.getElem_toArray, List.getElem_cons_succ, List.getElem_cons_zero, List.setIfInBounds_toArray, List.set_cons_succ, List.set_cons_zero]
  refine wpAnyH_take (i := 2) (v := ?_) rfl (by kernel_rfl) (by kernel_rfl) (by kernel_rfl) (fun _ _ _ h => h) (Or.inl ⟨by rfl, ?_⟩) (by assumption) ?_
  rotate_left
  · (intro w hSw; (try dsimp only at hSw); go_simp; try (with_reducible rfl))
  try simp only [Act.put, List.getElem_toArray, List.getElem_cons_succ, List.getElem_cons_zero, List.setIfInBounds_toArray, List.set_cons_succ, List.set_cons_zero]
  refine wpAnyH_take (i := 3) (v := ?_) rfl (by kernel_rfl) (by kernel_rfl) (by kernel_rfl) (fun _ _ _ h => h) (Or.inl ⟨by rfl, ?_⟩) (by assumption) ?_
  rotate_left
  · (intro w hSw; (try dsimp only at hSw); go_simp; try (with_reducible rfl))
  try simp only [Act.put, List.getElem_toArray, List.getElem_cons_succ, List.getElem_cons_zero, List.setIfInBounds_toArray, List.set_cons_succ, List.set_cons_zero]
  refine wpAnyH_take (i := 4) (v := ?_) rfl (by kernel_rfl) (by kernel_rfl) (by kernel_rfl) (fun _ _ _ h => h) (Or.inl ⟨by rfl, ?_⟩) (by assumption) ?_
  rotate_left
  · (intro w hSw; (try dsimp only at hSw); go_simp; try (with_reducible rfl))
  try simp only [Act.put, List.getElem_toArray, List.getElem_cons_succ, List.getElem_cons_zero, List.setIfInBounds_toArray, List.set_cons_succ, List.set_cons_zero]
  refine wpAnyH_take (i := 5) (v := ?_) rfl (by kernel_rfl) (by kernel_rfl) (by kernel_rfl) (fun _ _ _ h => h) (Or.inl ⟨by rfl, ?_⟩) (by assumption) ?_
  rotate_left
  · (intro w hSw; (try dsimp only at hSw); go_simp; try (with_reducible rfl))
  try simp only [Act.put, List.getElem_toArray, List.getElem_cons_succ, List.getElem_cons_zero, List.setIfInBounds_toArray, List.set_cons_succ, List.set_cons_zero]
  refine wpAnyH_ready (rs := [6]) (by kernel_rfl) (by simp) ?_
  refine AllReadyH.cons rfl (fun KQ hK => ?_) AllReadyH.nil
  go_simp
  refine (one_any (w.heap.size + 4) (0 + 2902) 2 (by omega) (by omega) (by omega) _ HS.out).mono ?_
  rintro e w_6 ⟨p6, rfl, S1, t1⟩
  replace HS := hide S1
  clear S1
  have hs_w_6 : (World.drew w_5).heap.size ≤ w_6.heap.size := t1.size
  replace bR := bR.tch t1 (by omega) (by omega)
  replace fR := fR.tch t1 (by omega) (by omega)
  replace bP := bP.tch t1 (by omega) (by omega)
  replace fP := fP.tch t1 (by omega) (by omega)
  replace bQ := bQ.tch t1 (by omega) (by omega)
  replace fQ := fQ.tch t1 (by omega) (by omega)
  replace bX := bX.tch t1 (by omega) (by omega)
  replace fX := fX.tch t1 (by omega) (by omega)
  replace bC := bC.tch t1 (by omega) (by omega)
  replace fC := fC.tch t1 (by omega) (by omega)
  replace bD := bD.tch t1 (by omega) (by omega)
  replace fD := fD.tch t1 (by omega) (by omega)
  replace bE := bE.tch t1 (by omega) (by omega)
  replace fE := fE.tch t1 (by omega) (by omega)
  replace TA := hide (TA.out.tch t1 (by omega) (by omega))
  replace HT := hide (HT.out.thenT t1 (by omega))
  clear t1
  refine hK.out _ _ (⟨bC 0 _ rfl, bC 1 _ rfl, bD 0 _ rfl, bD 1 _ rfl, bD 2 _ rfl, bD 3 _ rfl, bD 4 _ rfl, bE 0 _ rfl, bE 1 _ rfl, bE 2 _ rfl, bE 3 _ rfl, bE 4 _ rfl⟩) (fun hHeld2 => ?_)
  clear hK KQ hHeld
  have hHeld := hHeld2
  clear hHeld2
  try simp only [Act.put, List.getElem_toArray, List.getElem_cons_succ, List.getElem_cons_zero, List.setIfInBounds_toArray, List.set_cons_succ, List.set_cons_zero]
  refine wpAnyH_take (i := 7) (v := ?_) rfl (by kernel_rfl) (by kernel_rfl) (by kernel_rfl) (fun _ _ _ h => h) (Or.inl ⟨by rfl, ?_⟩) (by assumption) ?_
  rotate_left
  · (intro w hSw; (try dsimp only at hSw); go_simp; try (with_reducible rfl))
  try simp only [Act.put, List.getElem_toArray, List.getElem_cons_succ, List.getElem_cons_zero, List.setIfInBounds_toArray, List.set_cons_succ, List.set_cons_zero]
  refine wpAnyH_take (i := 8) (v := ?_) rfl (by kernel_rfl) (by kernel_rfl) (by kernel_rfl) (fun _ _ _ h => h) (Or.inl ⟨by rfl, ?_⟩) (by assumption) ?_
  rotate_left
  · (intro w hSw; (try dsimp only at hSw); go_simp; try (with_reducible rfl))
  try simp only [Act.put, List.getElem_toArray, List.getElem_cons_succ, List.getElem_cons_zero, List.setIfInBounds_toArray, List.set_cons_succ, List.set_cons_zero]
  have lR0 := bR 0 _ rfl
  have lR1 := bR 1 _ rfl
  have mR0 := fR 0
  have mR1 := fR 1
  refine wpAnyH_ready (rs := [9]) (by kernel_rfl) (by simp) ?_
  refine AllReadyH.cons rfl (fun KQ hK => ?_) AllReadyH.nil
  go_simp
  refine hK.out _ _ (⟨far_c (far_c (bC 0 _ rfl) (by omega)) (by omega), far_c (far_c (bC 1 _ rfl) (by omega)) (by omega), far_c (far_c (bD 0 _ rfl) (by omega)) (by omega), far_c (far_c (bD 1 _ rfl) (by omega)) (by omega), far_c (far_c (bD 2 _ rfl) (by omega)) (by omega), far_c (far_c (bD 3 _ rfl) (by omega)) (by omega), far_c (far_c (bD 4 _ rfl) (by omega)) (by omega), far_c (far_c (bE 0 _ rfl) (by omega)) (by omega), far_c (far_c (bE 1 _ rfl) (by omega)) (by omega), far_c (far_c (bE 2 _ rfl) (by omega)) (by omega), far_c (far_c (bE 3 _ rfl) (by omega)) (by omega), far_c (far_c (bE 4 _ rfl) (by omega)) (by omega)⟩) (fun hHeld2 => ?_)
  clear hK KQ hHeld
  have hHeld := hHeld2
  clear hHeld2
  try simp only [Act.put, List.getElem_toArray, List.getElem_cons_succ, List.getElem_cons_zero, List.setIfInBounds_toArray, List.set_cons_succ, List.set_cons_zero]
  have lP0 := bP 0 _ rfl
  have lP1 := bP 1 _ rfl
  have lP2 := bP 2 _ rfl
  have lP3 := bP 3 _ rfl
  have lP4 := bP 4 _ rfl
  have mP0 := fP 0
  have mP1 := fP 1
  have mP2 := fP 2
  have mP3 := fP 3
  have mP4 := fP 4
  refine wpAnyH_ready (rs := [10]) (by kernel_rfl) (by simp) ?_
  refine AllReadyH.cons rfl (fun KQ hK => ?_) AllReadyH.nil
  go_simp
  refine hK.out _ _ (⟨far_c (far_c (far_c (far_c (far_c (far_c (far_c (bC 0 _ rfl) (by omega)) (by omega)) (by omega)) (by omega)) (by omega)) (by omega)) (by omega), far_c (far_c (far_c (far_c (far_c (far_c (far_c (bC 1 _ rfl) (by omega)) (by omega)) (by omega)) (by omega)) (by omega)) (by omega)) (by omega), far_c (far_c (far_c (far_c (far_c (far_c (far_c (bD 0 _ rfl) (by omega)) (by omega)) (by omega)) (by omega)) (by omega)) (by omega)) (by omega), far_c (far_c (far_c (far_c (far_c (far_c (far_c (bD 1 _ rfl) (by omega)) (by omega)) (by omega)) (by omega)) (by omega)) (by omega)) (by omega), far_c (far_c (far_c (far_c (far_c (far_c (far_c (bD 2 _ rfl) (by omega)) (by omega)) (by omega)) (by omega)) (by omega)) (by omega)) (by omega), far_c (far_c (far_c (far_c (far_c (far_c (far_c (bD 3 _ rfl) (by omega)) (by omega)) (by omega)) (by omega)) (by omega)) (by omega)) (by omega), far_c (far_c (far_c (far_c (far_c (far_c (far_c (bD 4 _ rfl) (by omega)) (by omega)) (by omega)) (by omega)) (by omega)) (by omega)) (by omega), far_c (far_c (far_c (far_c (far_c (far_c (far_c (bE 0 _ rfl) (by omega)) (by omega)) (by omega)) (by omega)) (by omega)) (by omega)) (by omega), far_c (far_c (far_c (far_c (far_c (far_c (far_c (bE 1 _ rfl) (by omega)) (by omega)) (by omega)) (by omega)) (by omega)) (by omega)) (by omega), far_c (far_c (far_c (far_c (far_c (far_c (far_c (bE 2 _ rfl) (by omega)) (by omega)) (by omega)) (by omega)) (by omega)) (by omega)) (by omega), far_c (far_c (far_c (far_c (far_c (far_c (far_c (bE 3 _ rfl) (by omega)) (by omega)) (by omega)) (by omega)) (by omega)) (by omega)) (by omega), far_c (far_c (far_c (far_c (far_c (far_c (far_c (bE 4 _ rfl) (by omega)) (by omega)) (by omega)) (by omega)) (by omega)) (by omega)) (by omega)⟩) (fun hHeld2 => ?_)
  clear hK KQ hHeld
  have hHeld := hHeld2
  clear hHeld2
  try simp only [Act.put, List.getElem_toArray, List.getElem_cons_succ, List.getElem_cons_zero, List.setIfInBounds_toArray, List.set_cons_succ, List.set_cons_zero]
  have lQ0 := bQ 0 _ rfl
  have lQ1 := bQ 1 _ rfl
  have lQ2 := bQ 2 _ rfl
  have lQ3 := bQ 3 _ rfl
  have lQ4 := bQ 4 _ rfl
  have mQ0 := fQ 0
  have mQ1 := fQ 1
  have mQ2 := fQ 2
  have mQ3 := fQ 3
  have mQ4 := fQ 4
  refine wpAnyH_ready (rs := [11]) (by kernel_rfl) (by simp) ?_
  refine AllReadyH.cons rfl (fun KQ hK => ?_) AllReadyH.nil
  go_simp
  refine hK.out _ _ (⟨far_c (far_c (far_c (far_c (far_c (far_c (far_c (far_c (far_c (far_c (far_c (far_c (bC 0 _ rfl) (by omega)) (by omega)) (by omega)) (by omega)) (by omega)) (by omega)) (by omega)) (by omega)) (by omega)) (by omega)) (by omega)) (by omega), far_c (far_c (far_c (far_c (far_c (far_c (far_c (far_c (far_c (far_c (far_c (far_c (bC 1 _ rfl) (by omega)) (by omega)) (by omega)) (by omega)) (by omega)) (by omega)) (by omega)) (by omega)) (by omega)) (by omega)) (by omega)) (by omega), far_c (far_c (far_c (far_c (far_c (far_c (far_c (far_c (far_c (far_c (far_c (far_c (bD 0 _ rfl) (by omega)) (by omega)) (by omega)) (by omega)) (by omega)) (by omega)) (by omega)) (by omega)) (by omega)) (by omega)) (by omega)) (by omega), far_c (far_c (far_c (far_c (far_c (far_c (far_c (far_c (far_c (far_c (far_c (far_c (bD 1 _ rfl) (by omega)) (by omega)) (by omega)) (by omega)) (by omega)) (by omega)) (by omega)) (by omega)) (by omega)) (by omega)) (by omega)) (by omega), far_c (far_c (far_c (far_c (far_c (far_c (far_c (far_c (far_c (far_c (far_c (far_c (bD 2 _ rfl) (by omega)) (by omega)) (by omega)) (by omega)) (by omega)) (by omega)) (by omega)) (by omega)) (by omega)) (by omega)) (by omega)) (by omega), far_c (far_c (far_c (far_c (far_c (far_c (far_c (far_c (far_c (far_c (far_c (far_c (bD 3 _ rfl) (by omega)) (by omega)) (by omega)) (by omega)) (by omega)) (by omega)) (by omega)) (by omega)) (by omega)) (by omega)) (by omega)) (by omega), far_c (far_c (far_c (far_c (far_c (far_c (far_c (far_c (far_c (far_c (far_c (far_c (bD 4 _ rfl) (by omega)) (by omega)) (by omega)) (by omega)) (by omega)) (by omega)) (by omega)) (by omega)) (by omega)) (by omega)) (by omega)) (by omega), far_c (far_c (far_c (far_c (far_c (far_c (far_c (far_c (far_c (far_c (far_c (far_c (bE 0 _ rfl) (by omega)) (by omega)) (by omega)) (by omega)) (by omega)) (by omega)) (by omega)) (by omega)) (by omega)) (by omega)) (by omega)) (by omega), far_c (far_c (far_c (far_c (far_c (far_c (far_c (far_c (far_c (far_c (far_c (far_c (bE 1 _ rfl) (by omega)) (by omega)) (by omega)) (by omega)) (by omega)) (by omega)) (by omega)) (by omega)) (by omega)) (by omega)) (by omega)) (by omega), far_c (far_c (far_c (far_c (far_c (far_c (far_c (far_c (far_c (far_c (far_c (far_c (bE 2 _ rfl) (by omega)) (by omega)) (by omega)) (by omega)) (by omega)) (by omega)) (by omega)) (by omega)) (by omega)) (by omega)) (by omega)) (by omega), far_c (far_c (far_c (far_c (far_c (far_c (far_c (far_c (far_c (far_c (far_c (far_c (bE 3 _ rfl) (by omega)) (by omega)) (by omega)) (by omega)) (by omega)) (by omega)) (by omega)) (by omega)) (by omega)) (by omega)) (by omega)) (by omega), far_c (far_c (far_c (far_c (far_c (far_c (far_c (far_c (far_c (far_c (far_c (far_c (bE 4 _ rfl) (by omega)) (by omega)) (by omega)) (by omega)) (by omega)) (by omega)) (by omega)) (by omega)) (by omega)) (by omega)) (by omega)) (by omega)⟩) (fun hHeld2 => ?_)
  clear hK KQ hHeld
  have hHeld := hHeld2
  clear hHeld2
  try simp only [Act.put, List.getElem_toArray, List.getElem_cons_succ, List.getElem_cons_zero, List.setIfInBounds_toArray, List.set_cons_succ, List.set_cons_zero]
  have lX0 := bX 0 _ rfl
  have lX1 := bX 1 _ rfl
  have mX0 := fX 0
  have mX1 := fX 1
  refine wpAnyH_ready (rs := [12]) (by kernel_rfl) (by simp) ?_
  refine AllReadyH.cons rfl (fun KQ hK => ?_) AllReadyH.nil
  go_simp
  refine hK.out _ _ (⟨far_c (far_c (far_c (far_c (far_c (far_c (far_c (far_c (far_c (far_c (far_c (far_c (far_c (far_c (bC 0 _ rfl) (by omega)) (by omega)) (by omega)) (by omega)) (by omega)) (by omega)) (by omega)) (by omega)) (by omega)) (by omega)) (by omega)) (by omega)) (by omega)) (by omega), far_c (far_c (far_c (far_c (far_c (far_c (far_c (far_c (far_c (far_c (far_c (far_c (far_c (far_c (bC 1 _ rfl) (by omega)) (by omega)) (by omega)) (by omega)) (by omega)) (by omega)) (by omega)) (by omega)) (by omega)) (by omega)) (by omega)) (by omega)) (by omega)) (by omega), far_c (far_c (far_c (far_c (far_c (far_c (far_c (far_c (far_c (far_c (far_c (far_c (far_c (far_c (bD 0 _ rfl) (by omega)) (by omega)) (by omega)) (by omega)) (by omega)) (by omega)) (by omega)) (by omega)) (by omega)) (by omega)) (by omega)) (by omega)) (by omega)) (by omega), far_c (far_c (far_c (far_c (far_c (far_c (far_c (far_c (far_c (far_c (far_c (far_c (far_c (far_c (bD 1 _ rfl) (by omega)) (by omega)) (by omega)) (by omega)) (by omega)) (by omega)) (by omega)) (by omega)) (by omega)) (by omega)) (by omega)) (by omega)) (by omega)) (by omega), far_c (far_c (far_c (far_c (far_c (far_c (far_c (far_c (far_c (far_c (far_c (far_c (far_c (far_c (bD 2 _ rfl) (by omega)) (by omega)) (by omega)) (by omega)) (by omega)) (by omega)) (by omega)) (by omega)) (by omega)) (by omega)) (by omega)) (by omega)) (by omega)) (by omega), far_c (far_c (far_c (far_c (far_c (far_c (far_c (far_c (far_c (far_c (far_c (far_c (far_c (far_c (bD 3 _ rfl) (by omega)) (by omega)) (by omega)) (by omega)) (by omega)) (by omega)) (by omega)) (by omega)) (by omega)) (by omega)) (by omega)) (by omega)) (by omega)) (by omega), far_c (far_c (far_c (far_c (far_c (far_c (far_c (far_c (far_c (far_c (far_c (far_c (far_c (far_c (bD 4 _ rfl) (by omega)) (by omega)) (by omega)) (by omega)) (by omega)) (by omega)) (by omega)) (by omega)) (by omega)) (by omega)) (by omega)) (by omega)) (by omega)) (by omega), far_c (far_c (far_c (far_c (far_c (far_c (far_c (far_c (far_c (far_c (far_c (far_c (far_c (far_c (bE 0 _ rfl) (by omega)) (by omega)) (by omega)) (by omega)) (by omega)) (by omega)) (by omega)) (by omega)) (by omega)) (by omega)) (by omega)) (by omega)) (by omega)) (by omega), far_c (far_c (far_c (far_c (far_c (far_c (far_c (far_c (far_c (far_c (far_c (far_c (far_c (far_c (bE 1 _ rfl) (by omega)) (by omega)) (by omega)) (by omega)) (by omega)) (by omega)) (by omega)) (by omega)) (by omega)) (by omega)) (by omega)) (by omega)) (by omega)) (by omega), far_c (far_c (far_c (far_c (far_c (far_c (far_c (far_c (far_c (far_c (far_c (far_c (far_c (far_c (bE 2 _ rfl) (by omega)) (by omega)) (by omega)) (by omega)) (by omega)) (by omega)) (by omega)) (by omega)) (by omega)) (by omega)) (by omega)) (by omega)) (by omega)) (by omega), far_c (far_c (far_c (far_c (far_c (far_c (far_c (far_c (far_c (far_c (far_c (far_c (far_c (far_c (bE 3 _ rfl) (by omega)) (by omega)) (by omega)) (by omega)) (by omega)) (by omega)) (by omega)) (by omega)) (by omega)) (by omega)) (by omega)) (by omega)) (by omega)) (by omega), far_c (far_c (far_c (far_c (far_c (far_c (far_c (far_c (far_c (far_c (far_c (far_c (far_c (far_c (bE 4 _ rfl) (by omega)) (by omega)) (by omega)) (by omega)) (by omega)) (by omega)) (by omega)) (by omega)) (by omega)) (by omega)) (by omega)) (by omega)) (by omega)) (by omega)⟩) (fun hHeld2 => ?_)
  clear hK KQ hHeld
  have hHeld := hHeld2
  clear hHeld2
  try simp only [Act.put, List.getElem_toArray, List.getElem_cons_succ, List.getElem_cons_zero, List.setIfInBounds_toArray, List.set_cons_succ, List.set_cons_zero]
  refine wpAnyH_done (by kernel_rfl) ?_ _
  clear lR0 lR1 mR0 mR1
  clear lP0 lP1 lP2 lP3 lP4 mP0 mP1 mP2 mP3 mP4
  clear lQ0 lQ1 lQ2 lQ3 lQ4 mQ0 mQ1 mQ2 mQ3 mQ4
  clear lX0 lX1 mX0 mX1
  clear HS hHeld
  obtain ⟨w_7, hW⟩ : ∃ W : World, W = ((((((((((((w_6.setCell ⟨w.heap.size, 0, none⟩ (.int .i64 x)).setCell ⟨w.heap.size, 1, none⟩ (.int .i64 y)).setCell ⟨(w.heap.size + 1), 0, none⟩ (.int .i64 a0)).setCell ⟨(w.heap.size + 1), 1, none⟩ (.int .i64 a1)).setCell ⟨(w.heap.size + 1), 2, none⟩ (.int .i64 a2)).setCell ⟨(w.heap.size + 1), 3, none⟩ (.int .i64 a3)).setCell ⟨(w.heap.size + 1), 4, none⟩ (.int .i64 a4)).setCell ⟨(w.heap.size + 1 + 1), 0, none⟩ (.int .i64 d0)).setCell ⟨(w.heap.size + 1 + 1), 1, none⟩ (.int .i64 d1)).setCell ⟨(w.heap.size + 1 + 1), 2, none⟩ (.int .i64 d2)).setCell ⟨(w.heap.size + 1 + 1), 3, none⟩ (.int .i64 d3)).setCell ⟨(w.heap.size + 1 + 1), 4, none⟩ (.int .i64 d4)) := ⟨_, rfl⟩
  rw [← hW]
  have hs_w_7 : w_7.heap.size = w_6.heap.size := by rw [hW]; simp [World.setCell]
  have cR : Box w_7 w.heap.size [.int .i64 x, .int .i64 y] := by rw [hW]; exact ((((((((((((bR.put 0 _ (by simp)).put 1 _ (by simp)).far _ _ (by show (w.heap.size + 1) ≠ w.heap.size; omega)).far _ _ (by show (w.heap.size + 1) ≠ w.heap.size; omega)).far _ _ (by show (w.heap.size + 1) ≠ w.heap.size; omega)).far _ _ (by show (w.heap.size + 1) ≠ w.heap.size; omega)).far _ _ (by show (w.heap.size + 1) ≠ w.heap.size; omega)).far _ _ (by show (w.heap.size + 1 + 1) ≠ w.heap.size; omega)).far _ _ (by show (w.heap.size + 1 + 1) ≠ w.heap.size; omega)).far _ _ (by show (w.heap.size + 1 + 1) ≠ w.heap.size; omega)).far _ _ (by show (w.heap.size + 1 + 1) ≠ w.heap.size; omega)).far _ _ (by show (w.heap.size + 1 + 1) ≠ w.heap.size; omega))
  have cP : Box w_7 (w.heap.size + 1) [.int .i64 a0, .int .i64 a1, .int .i64 a2, .int .i64 a3, .int .i64 a4] := by rw [hW]; exact ((((((((((((bP.far _ _ (by show w.heap.size ≠ (w.heap.size + 1); omega)).far _ _ (by show w.heap.size ≠ (w.heap.size + 1); omega)).put 0 _ (by simp)).put 1 _ (by simp)).put 2 _ (by simp)).put 3 _ (by simp)).put 4 _ (by simp)).far _ _ (by show (w.heap.size + 1 + 1) ≠ (w.heap.size + 1); omega)).far _ _ (by show (w.heap.size + 1 + 1) ≠ (w.heap.size + 1); omega)).far _ _ (by show (w.heap.size + 1 + 1) ≠ (w.heap.size + 1); omega)).far _ _ (by show (w.heap.size + 1 + 1) ≠ (w.heap.size + 1); omega)).far _ _ (by show (w.heap.size + 1 + 1) ≠ (w.heap.size + 1); omega))
  have cQ : Box w_7 (w.heap.size + 1 + 1) [.int .i64 d0, .int .i64 d1, .int .i64 d2, .int .i64 d3, .int .i64 d4] := by rw [hW]; exact ((((((((((((bQ.far _ _ (by show w.heap.size ≠ (w.heap.size + 1 + 1); omega)).far _ _ (by show w.heap.size ≠ (w.heap.size + 1 + 1); omega)).far _ _ (by show (w.heap.size + 1) ≠ (w.heap.size + 1 + 1); omega)).far _ _ (by show (w.heap.size + 1) ≠ (w.heap.size + 1 + 1); omega)).far _ _ (by show (w.heap.size + 1) ≠ (w.heap.size + 1 + 1); omega)).far _ _ (by show (w.heap.size + 1) ≠ (w.heap.size + 1 + 1); omega)).far _ _ (by show (w.heap.size + 1) ≠ (w.heap.size + 1 + 1); omega)).put 0 _ (by simp)).put 1 _ (by simp)).put 2 _ (by simp)).put 3 _ (by simp)).put 4 _ (by simp))
  have cX : Box w_7 (w.heap.size + 1 + 1 + 1) [.bool false, .bool false] := by rw [hW]; exact ((((((((((((bX.far _ _ (by show w.heap.size ≠ (w.heap.size + 1 + 1 + 1); omega)).far _ _ (by show w.heap.size ≠ (w.heap.size + 1 + 1 + 1); omega)).far _ _ (by show (w.heap.size + 1) ≠ (w.heap.size + 1 + 1 + 1); omega)).far _ _ (by show (w.heap.size + 1) ≠ (w.heap.size + 1 + 1 + 1); omega)).far _ _ (by show (w.heap.size + 1) ≠ (w.heap.size + 1 + 1 + 1); omega)).far _ _ (by show (w.heap.size + 1) ≠ (w.heap.size + 1 + 1 + 1); omega)).far _ _ (by show (w.heap.size + 1) ≠ (w.heap.size + 1 + 1 + 1); omega)).far _ _ (by show (w.heap.size + 1 + 1) ≠ (w.heap.size + 1 + 1 + 1); omega)).far _ _ (by show (w.heap.size + 1 + 1) ≠ (w.heap.size + 1 + 1 + 1); omega)).far _ _ (by show (w.heap.size + 1 + 1) ≠ (w.heap.size + 1 + 1 + 1); omega)).far _ _ (by show (w.heap.size + 1 + 1) ≠ (w.heap.size + 1 + 1 + 1); omega)).far _ _ (by show (w.heap.size + 1 + 1) ≠ (w.heap.size + 1 + 1 + 1); omega))
  have cC : Box w_7 w_3.heap.size [.int .i64 x, .int .i64 y] := by rw [hW]; exact ((((((((((((bC.far _ _ (by show w.heap.size ≠ w_3.heap.size; omega)).far _ _ (by show w.heap.size ≠ w_3.heap.size; omega)).far _ _ (by show (w.heap.size + 1) ≠ w_3.heap.size; omega)).far _ _ (by show (w.heap.size + 1) ≠ w_3.heap.size; omega)).far _ _ (by show (w.heap.size + 1) ≠ w_3.heap.size; omega)).far _ _ (by show (w.heap.size + 1) ≠ w_3.heap.size; omega)).far _ _ (by show (w.heap.size + 1) ≠ w_3.heap.size; omega)).far _ _ (by show (w.heap.size + 1 + 1) ≠ w_3.heap.size; omega)).far _ _ (by show (w.heap.size + 1 + 1) ≠ w_3.heap.size; omega)).far _ _ (by show (w.heap.size + 1 + 1) ≠ w_3.heap.size; omega)).far _ _ (by show (w.heap.size + 1 + 1) ≠ w_3.heap.size; omega)).far _ _ (by show (w.heap.size + 1 + 1) ≠ w_3.heap.size; omega))
  have cD : Box w_7 (w_3.heap.size + 1) [.int .i64 a0, .int .i64 a1, .int .i64 a2, .int .i64 a3, .int .i64 a4] := by rw [hW]; exact ((((((((((((bD.far _ _ (by show w.heap.size ≠ (w_3.heap.size + 1); omega)).far _ _ (by show w.heap.size ≠ (w_3.heap.size + 1); omega)).far _ _ (by show (w.heap.size + 1) ≠ (w_3.heap.size + 1); omega)).far _ _ (by show (w.heap.size + 1) ≠ (w_3.heap.size + 1); omega)).far _ _ (by show (w.heap.size + 1) ≠ (w_3.heap.size + 1); omega)).far _ _ (by show (w.heap.size + 1) ≠ (w_3.heap.size + 1); omega)).far _ _ (by show (w.heap.size + 1) ≠ (w_3.heap.size + 1); omega)).far _ _ (by show (w.heap.size + 1 + 1) ≠ (w_3.heap.size + 1); omega)).far _ _ (by show (w.heap.size + 1 + 1) ≠ (w_3.heap.size + 1); omega)).far _ _ (by show (w.heap.size + 1 + 1) ≠ (w_3.heap.size + 1); omega)).far _ _ (by show (w.heap.size + 1 + 1) ≠ (w_3.heap.size + 1); omega)).far _ _ (by show (w.heap.size + 1 + 1) ≠ (w_3.heap.size + 1); omega))
  have cE : Box w_7 (w_3.heap.size + 1 + 1) [.int .i64 d0, .int .i64 d1, .int .i64 d2, .int .i64 d3, .int .i64 d4] := by rw [hW]; exact ((((((((((((bE.far _ _ (by show w.heap.size ≠ (w_3.heap.size + 1 + 1); omega)).far _ _ (by show w.heap.size ≠ (w_3.heap.size + 1 + 1); omega)).far _ _ (by show (w.heap.size + 1) ≠ (w_3.heap.size + 1 + 1); omega)).far _ _ (by show (w.heap.size + 1) ≠ (w_3.heap.size + 1 + 1); omega)).far _ _ (by show (w.heap.size + 1) ≠ (w_3.heap.size + 1 + 1); omega)).far _ _ (by show (w.heap.size + 1) ≠ (w_3.heap.size + 1 + 1); omega)).far _ _ (by show (w.heap.size + 1) ≠ (w_3.heap.size + 1 + 1); omega)).far _ _ (by show (w.heap.size + 1 + 1) ≠ (w_3.heap.size + 1 + 1); omega)).far _ _ (by show (w.heap.size + 1 + 1) ≠ (w_3.heap.size + 1 + 1); omega)).far _ _ (by show (w.heap.size + 1 + 1) ≠ (w_3.heap.size + 1 + 1); omega)).far _ _ (by show (w.heap.size + 1 + 1) ≠ (w_3.heap.size + 1 + 1); omega)).far _ _ (by show (w.heap.size + 1 + 1) ≠ (w_3.heap.size + 1 + 1); omega))
  replace bR := cR
  clear cR
  replace fR : Fz w_7 w.heap.size := by rw [hW]; exact ((((((((((((fR.set _ _).set _ _).set _ _).set _ _).set _ _).set _ _).set _ _).set _ _).set _ _).set _ _).set _ _).set _ _)
  replace bP := cP
  clear cP
  replace fP : Fz w_7 (w.heap.size + 1) := by rw [hW]; exact ((((((((((((fP.set _ _).set _ _).set _ _).set _ _).set _ _).set _ _).set _ _).set _ _).set _ _).set _ _).set _ _).set _ _)
  replace bQ := cQ
  clear cQ
  replace fQ : Fz w_7 (w.heap.size + 1 + 1) := by rw [hW]; exact ((((((((((((fQ.set _ _).set _ _).set _ _).set _ _).set _ _).set _ _).set _ _).set _ _).set _ _).set _ _).set _ _).set _ _)
  replace bX := cX
  clear cX
  replace fX : Fz w_7 (w.heap.size + 1 + 1 + 1) := by rw [hW]; exact ((((((((((((fX.set _ _).set _ _).set _ _).set _ _).set _ _).set _ _).set _ _).set _ _).set _ _).set _ _).set _ _).set _ _)
  replace bC := cC
  clear cC
  replace fC : Fz w_7 w_3.heap.size := by rw [hW]; exact ((((((((((((fC.set _ _).set _ _).set _ _).set _ _).set _ _).set _ _).set _ _).set _ _).set _ _).set _ _).set _ _).set _ _)
  replace bD := cD
  clear cD
  replace fD : Fz w_7 (w_3.heap.size + 1) := by rw [hW]; exact ((((((((((((fD.set _ _).set _ _).set _ _).set _ _).set _ _).set _ _).set _ _).set _ _).set _ _).set _ _).set _ _).set _ _)
  replace bE := cE
  clear cE
  replace fE : Fz w_7 (w_3.heap.size + 1 + 1) := by rw [hW]; exact ((((((((((((fE.set _ _).set _ _).set _ _).set _ _).set _ _).set _ _).set _ _).set _ _).set _ _).set _ _).set _ _).set _ _)
  replace TA := hide (show TabR w_7 w_2.heap.size w_3.heap.size v by rw [hW]; exact ((((((((((((TA.out.set (by omega) _ _).set (by omega) _ _).set (by omega) _ _).set (by omega) _ _).set (by omega) _ _).set (by omega) _ _).set (by omega) _ _).set (by omega) _ _).set (by omega) _ _).set (by omega) _ _).set (by omega) _ _).set (by omega) _ _))
  replace HT := hide (show Blw w w_7 by rw [hW]; exact ((((((((((((HT.out.setNew (by omega) _ _).setNew (by omega) _ _).setNew (by omega) _ _).setNew (by omega) _ _).setNew (by omega) _ _).setNew (by omega) _ _).setNew (by omega) _ _).setNew (by omega) _ _).setNew (by omega) _ _).setNew (by omega) _ _).setNew (by omega) _ _).setNew (by omega) _ _))
  clear hW
  obtain ⟨w_8, hW⟩ : ∃ W : World, W = w_7.setCell ⟨(w.heap.size + 1 + 1 + 1), 0, none⟩ (.bool p5) := ⟨_, rfl⟩
  rw [← hW]
  have hs_w_8 : w_8.heap.size = w_7.heap.size := by rw [hW]; simp [World.setCell]
  replace bR : Box w_8 w.heap.size [.int .i64 x, .int .i64 y] := by rw [hW]; exact bR.far _ _ (by show (w.heap.size + 1 + 1 + 1) ≠ w.heap.size; omega)
  replace fR : Fz w_8 w.heap.size := by rw [hW]; exact fR.set _ _
  replace bP : Box w_8 (w.heap.size + 1) [.int .i64 a0, .int .i64 a1, .int .i64 a2, .int .i64 a3, .int .i64 a4] := by rw [hW]; exact bP.far _ _ (by show (w.heap.size + 1 + 1 + 1) ≠ (w.heap.size + 1); omega)
  replace fP : Fz w_8 (w.heap.size + 1) := by rw [hW]; exact fP.set _ _
  replace bQ : Box w_8 (w.heap.size + 1 + 1) [.int .i64 d0, .int .i64 d1, .int .i64 d2, .int .i64 d3, .int .i64 d4] := by rw [hW]; exact bQ.far _ _ (by show (w.heap.size + 1 + 1 + 1) ≠ (w.heap.size + 1 + 1); omega)
  replace fQ : Fz w_8 (w.heap.size + 1 + 1) := by rw [hW]; exact fQ.set _ _
  replace bX : Box w_8 (w.heap.size + 1 + 1 + 1) [.bool p5, .bool false] := by rw [hW]; exact bX.put 0 _ (by simp)
  replace fX : Fz w_8 (w.heap.size + 1 + 1 + 1) := by rw [hW]; exact fX.set _ _
  replace bC : Box w_8 w_3.heap.size [.int .i64 x, .int .i64 y] := by rw [hW]; exact bC.far _ _ (by show (w.heap.size + 1 + 1 + 1) ≠ w_3.heap.size; omega)
  replace fC : Fz w_8 w_3.heap.size := by rw [hW]; exact fC.set _ _
  replace bD : Box w_8 (w_3.heap.size + 1) [.int .i64 a0, .int .i64 a1, .int .i64 a2, .int .i64 a3, .int .i64 a4] := by rw [hW]; exact bD.far _ _ (by show (w.heap.size + 1 + 1 + 1) ≠ (w_3.heap.size + 1); omega)
  replace fD : Fz w_8 (w_3.heap.size + 1) := by rw [hW]; exact fD.set _ _
  replace bE : Box w_8 (w_3.heap.size + 1 + 1) [.int .i64 d0, .int .i64 d1, .int .i64 d2, .int .i64 d3, .int .i64 d4] := by rw [hW]; exact bE.far _ _ (by show (w.heap.size + 1 + 1 + 1) ≠ (w_3.heap.size + 1 + 1); omega)
  replace fE : Fz w_8 (w_3.heap.size + 1 + 1) := by rw [hW]; exact fE.set _ _
  replace TA := hide (show TabR w_8 w_2.heap.size w_3.heap.size v by rw [hW]; exact TA.out.set (by omega) _ _)
  replace HT := hide (show Blw w w_8 by rw [hW]; exact HT.out.setNew (by omega) _ _)
  clear hW
  obtain ⟨w_9, hW⟩ : ∃ W : World, W = w_8.setCell ⟨(w.heap.size + 1 + 1 + 1), 1, none⟩ (.bool p6) := ⟨_, rfl⟩
  rw [← hW]
  have hs_w_9 : w_9.heap.size = w_8.heap.size := by rw [hW]; simp [World.setCell]
  replace bR : Box w_9 w.heap.size [.int .i64 x, .int .i64 y] := by rw [hW]; exact bR.far _ _ (by show (w.heap.size + 1 + 1 + 1) ≠ w.heap.size; omega)
  replace fR : Fz w_9 w.heap.size := by rw [hW]; exact fR.set _ _
  replace bP : Box w_9 (w.heap.size + 1) [.int .i64 a0, .int .i64 a1, .int .i64 a2, .int .i64 a3, .int .i64 a4] := by rw [hW]; exact bP.far _ _ (by show (w.heap.size + 1 + 1 + 1) ≠ (w.heap.size + 1); omega)
  replace fP : Fz w_9 (w.heap.size + 1) := by rw [hW]; exact fP.set _ _
  replace bQ : Box w_9 (w.heap.size + 1 + 1) [.int .i64 d0, .int .i64 d1, .int .i64 d2, .int .i64 d3, .int .i64 d4] := by rw [hW]; exact bQ.far _ _ (by show (w.heap.size + 1 + 1 + 1) ≠ (w.heap.size + 1 + 1); omega)
  replace fQ : Fz w_9 (w.heap.size + 1 + 1) := by rw [hW]; exact fQ.set _ _
  replace bX : Box w_9 (w.heap.size + 1 + 1 + 1) [.bool p5, .bool p6] := by rw [hW]; exact bX.put 1 _ (by simp)
  replace fX : Fz w_9 (w.heap.size + 1 + 1 + 1) := by rw [hW]; exact fX.set _ _
  replace bC : Box w_9 w_3.heap.size [.int .i64 x, .int .i64 y] := by rw [hW]; exact bC.far _ _ (by show (w.heap.size + 1 + 1 + 1) ≠ w_3.heap.size; omega)
  replace fC : Fz w_9 w_3.heap.size := by rw [hW]; exact fC.set _ _
  replace bD : Box w_9 (w_3.heap.size + 1) [.int .i64 a0, .int .i64 a1, .int .i64 a2, .int .i64 a3, .int .i64 a4] := by rw [hW]; exact bD.far _ _ (by show (w.heap.size + 1 + 1 + 1) ≠ (w_3.heap.size + 1); omega)
  replace fD : Fz w_9 (w_3.heap.size + 1) := by rw [hW]; exact fD.set _ _
  replace bE : Box w_9 (w_3.heap.size + 1 + 1) [.int .i64 d0, .int .i64 d1, .int .i64 d2, .int .i64 d3, .int .i64 d4] := by rw [hW]; exact bE.far _ _ (by show (w.heap.size + 1 + 1 + 1) ≠ (w_3.heap.size + 1 + 1); omega)
  replace fE : Fz w_9 (w_3.heap.size + 1 + 1) := by rw [hW]; exact fE.set _ _
  replace TA := hide (show TabR w_9 w_2.heap.size w_3.heap.size v by rw [hW]; exact TA.out.set (by omega) _ _)
  replace HT := hide (show Blw w w_9 by rw [hW]; exact HT.out.setNew (by omega) _ _)
  clear hW
  go_wp2_with fail
  have lR0 := bR 0 _ rfl
  have lR1 := bR 1 _ rfl
  have lP0 := bP 0 _ rfl
  have lP1 := bP 1 _ rfl
  have lP2 := bP 2 _ rfl
  have lP3 := bP 3 _ rfl
  have lP4 := bP 4 _ rfl
  have lQ0 := bQ 0 _ rfl
  have lQ1 := bQ 1 _ rfl
  have lQ2 := bQ 2 _ rfl
  have lQ3 := bQ 3 _ rfl
  have lQ4 := bQ 4 _ rfl
  have lX0 := bX 0 _ rfl
  have lX1 := bX 1 _ rfl
  refine bodyPost_ret (v := .tuple #[v, .agg #[.int .i64 x, .int .i64 y], .agg #[.int .i64 a0, .int .i64 a1, .int .i64 a2, .int .i64 a3, .int .i64 a4], .agg #[.int .i64 d0, .int .i64 d1, .int .i64 d2, .int .i64 d3, .int .i64 d4], .agg #[.bool p5, .bool p6]]) (by simp [results, Try.results28, go_sem, dcell2, lR0, lR1, lP0, lP1, lP2, lP3, lP4, lQ0, lQ1, lQ2, lQ3, lQ4, lX0, lX1]) rfl ⟨_, _, _, _, _, _, _, _, _, _, _, _, _, _, _, rfl, TA.out.mono (lo' := w.heap.size) (hi' := w_9.heap.size) (by omega) (by omega), HT.out⟩


end Go.Proofs.Ytnbahmjimnhfbaa
