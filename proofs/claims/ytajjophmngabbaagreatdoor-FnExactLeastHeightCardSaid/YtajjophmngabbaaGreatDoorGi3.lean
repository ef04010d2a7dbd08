/-
  GEOMETRY of the program, exactly: whether segments meet. No condition but those that each theorem names.
-/
import Derived.Test.YtajjophmngabbaaGreatDoorGi2
namespace Go.Proofs.YtajjophmngabbaaGreatDoor
open Go.RowKit
set_option linter.unusedVariables false
set_option linter.unusedSimpArgs false

theorem mt_cv {ax ay bx cy px py qx qy : Int} {b1 b2 b3 b4 R : Bool} (h1 : cvB ax ay bx cy px py = b1) (h2 : cvB ax ay bx cy qx qy = b2) (h3 : cvB px py qx qy ax ay = b3) (h4 : cvB px py qx qy bx cy = b4) (hR : mtB ax ay bx cy px py qx qy = R) (h : (b1 || (b2 || (b3 || b4))) = true) : true = R := by
  rw [← hR]; unfold mtB; rw [h1, h2, h3, h4, h, Bool.or_true]
theorem mt_op {ax ay bx cy px py qx qy s1 s2 s3 s4 : Int} {R : Bool} (h1 : cvB ax ay bx cy px py = false) (h2 : cvB ax ay bx cy qx qy = false) (h3 : cvB px py qx qy ax ay = false) (h4 : cvB px py qx qy bx cy = false) (k1 : sgI (crI ax ay bx cy px py) = s1) (k2 : sgI (crI ax ay bx cy qx qy) = s2) (k3 : sgI (crI px py qx qy ax ay) = s3) (k4 : sgI (crI px py qx qy bx cy) = s4) (hR : mtB ax ay bx cy px py qx qy = R) : (decide (s1 * s2 < 0) && decide (s3 * s4 < 0)) = R := by
  rw [← hR]; unfold mtB opB; rw [h1, h2, h3, h4, k1, k2, k3, k4]; simp

set_option maxRecDepth 100000 in
set_option maxHeartbeats 2000000 in
theorem meet_is {ax ay bx cy px py qx qy : Int} {b : Bool} (hA : CoS ax ay bx cy) (hP : CoS px py qx qy) (hb : mtB ax ay bx cy px py qx qy = b) {w : World} :
    Calls Tryz.prog 60 #[.agg #[.int .i64 ax, .int .i64 ay, .int .i64 bx, .int .i64 cy], .agg #[.int .i64 px, .int .i64 py, .int .i64 qx, .int .i64 qy]] w fun e w' => e = .returned (.bool b) ∧ Below w.heap.size w w' := by
  have HA := hide hA
  have HP := hide hP
  have HR := hide hb
  clear hA hP hb
  obtain ⟨v1, hv1⟩ : ∃ v, cvB ax ay bx cy px py = v := ⟨_, rfl⟩
  have HC1 := hide hv1
  clear hv1
  obtain ⟨v2, hv2⟩ : ∃ v, cvB ax ay bx cy qx qy = v := ⟨_, rfl⟩
  have HC2 := hide hv2
  clear hv2
  obtain ⟨v3, hv3⟩ : ∃ v, cvB px py qx qy ax ay = v := ⟨_, rfl⟩
  have HC3 := hide hv3
  clear hv3
  obtain ⟨v4, hv4⟩ : ∃ v, cvB px py qx qy bx cy = v := ⟨_, rfl⟩
  have HC4 := hide hv4
  clear hv4
  cases v1
  · cases v2
    · cases v3
      · cases v4
        · obtain ⟨c1, hc1⟩ : ∃ c, crI ax ay bx cy px py = c := ⟨_, rfl⟩
          obtain ⟨s1, hg1⟩ : ∃ c, sgI c1 = c := ⟨_, rfl⟩
          obtain ⟨c2, hc2⟩ : ∃ c, crI ax ay bx cy qx qy = c := ⟨_, rfl⟩
          obtain ⟨s2, hg2⟩ : ∃ c, sgI c2 = c := ⟨_, rfl⟩
          obtain ⟨c3, hc3⟩ : ∃ c, crI px py qx qy ax ay = c := ⟨_, rfl⟩
          obtain ⟨s3, hg3⟩ : ∃ c, sgI c3 = c := ⟨_, rfl⟩
          obtain ⟨c4, hc4⟩ : ∃ c, crI px py qx qy bx cy = c := ⟨_, rfl⟩
          obtain ⟨s4, hg4⟩ : ∃ c, sgI c4 = c := ⟨_, rfl⟩
          have HV := hide (mt_op HC1.out HC2.out HC3.out HC4.out (by rw [hc1, hg1]) (by rw [hc2, hg2]) (by rw [hc3, hg3]) (by rw [hc4, hg4]) HR.out)
          have p1 := sgI_prod c1 c2
          have p2 := sgI_prod c3 c4
          rw [hg1, hg2] at p1
          rw [hg3, hg4] at p2
          have hw1 : IntKind.i64.wrap (s1 * s2) = s1 * s2 := IntWalk.i64_in _ (by omega)
          have hw2 : IntKind.i64.wrap (s3 * s4) = s3 * s4 := IntWalk.i64_in _ (by omega)
          have HE1 := hide hc1
          have HG1 := hide hg1
          have HE2 := hide hc2
          have HG2 := hide hg2
          have HE3 := hide hc3
          have HG3 := hide hg3
          have HE4 := hide hc4
          have HG4 := hide hg4
          clear HR hc1 hg1 hc2 hg2 hc3 hg3 hc4 hg4
          cases g1 : decide (s1 * s2 < 0)
          · have HV2 := hide (show false = b by have h := HV.out; rw [g1] at h; exact h)
            clear HV hw2 p2
            go_enter Tryz.func60, Tryz.ntmps60
            go_wp2_with fail
            obtain ⟨W0, hW0⟩ : ∃ W0 : World, W0 = ((w.alloc (.cells #[.int .i64 ax, .int .i64 ay, .int .i64 bx, .int .i64 cy] 70)).alloc (.cells #[.int .i64 px, .int .i64 py, .int .i64 qx, .int .i64 qy] 70)) := ⟨_, rfl⟩
            rw [← hW0]
            have bA : Box W0 w.heap.size [.int .i64 ax, .int .i64 ay, .int .i64 bx, .int .i64 cy] := by rw [hW0]; exact (box_at _ _ _ _ (by simp)).alloc (by simp) _
            have bB : Box W0 (w.heap.size + 1) [.int .i64 px, .int .i64 py, .int .i64 qx, .int .i64 qy] := by rw [hW0]; exact box_at _ _ _ _ (by simp)
            have HB0 := hide (show Below w.heap.size w W0 by rw [hW0]; exact ((Below.refl _ _).alloc (Nat.le_refl _) _).alloc (by simp) _)
            have hs0 : w.heap.size + 2 ≤ W0.heap.size := by rw [hW0]; simp
            clear hW0
            have bac0 := bA 0 _ rfl
            have bac1 := bA 1 _ rfl
            have bac2 := bA 2 _ rfl
            have bac3 := bA 3 _ rfl
            have bbc0 := bB 0 _ rfl
            have bbc1 := bB 1 _ rfl
            have bbc2 := bB 2 _ rfl
            have bbc3 := bB 3 _ rfl
            go_wp2_with fail
            refine (covers_is HA.out HP.out.a HC1.out).mono ?_
            rintro e w1 ⟨rfl, hb1⟩
            clear bac0 bac1 bac2 bac3 bbc0 bbc1 bbc2 bbc3
            have hs1 := hb1.size
            replace bA := bA.below hb1 (by omega)
            replace bB := bB.below hb1 (by omega)
            have bac0 := bA 0 _ rfl
            have bac1 := bA 1 _ rfl
            have bac2 := bA 2 _ rfl
            have bac3 := bA 3 _ rfl
            have bbc0 := bB 0 _ rfl
            have bbc1 := bB 1 _ rfl
            have bbc2 := bB 2 _ rfl
            have bbc3 := bB 3 _ rfl
            have HB1 := hide (HB0.out.trans (hb1.mono (by omega)))
            clear hb1 HB0
            go_wp2_with fail
            refine (covers_is HA.out HP.out.b HC2.out).mono ?_
            rintro e w2 ⟨rfl, hb2⟩
            clear bac0 bac1 bac2 bac3 bbc0 bbc1 bbc2 bbc3
            have hs2 := hb2.size
            replace bA := bA.below hb2 (by omega)
            replace bB := bB.below hb2 (by omega)
            have bac0 := bA 0 _ rfl
            have bac1 := bA 1 _ rfl
            have bac2 := bA 2 _ rfl
            have bac3 := bA 3 _ rfl
            have bbc0 := bB 0 _ rfl
            have bbc1 := bB 1 _ rfl
            have bbc2 := bB 2 _ rfl
            have bbc3 := bB 3 _ rfl
            have HB2 := hide (HB1.out.trans (hb2.mono (by omega)))
            clear hb2 HB1
            go_wp2_with fail
            refine (covers_is HP.out HA.out.a HC3.out).mono ?_
            rintro e w3 ⟨rfl, hb3⟩
            clear bac0 bac1 bac2 bac3 bbc0 bbc1 bbc2 bbc3
            have hs3 := hb3.size
            replace bA := bA.below hb3 (by omega)
            replace bB := bB.below hb3 (by omega)
            have bac0 := bA 0 _ rfl
            have bac1 := bA 1 _ rfl
            have bac2 := bA 2 _ rfl
            have bac3 := bA 3 _ rfl
            have bbc0 := bB 0 _ rfl
            have bbc1 := bB 1 _ rfl
            have bbc2 := bB 2 _ rfl
            have bbc3 := bB 3 _ rfl
            have HB3 := hide (HB2.out.trans (hb3.mono (by omega)))
            clear hb3 HB2
            go_wp2_with fail
            refine (covers_is HP.out HA.out.b HC4.out).mono ?_
            rintro e w4 ⟨rfl, hb4⟩
            clear bac0 bac1 bac2 bac3 bbc0 bbc1 bbc2 bbc3
            have hs4 := hb4.size
            replace bA := bA.below hb4 (by omega)
            replace bB := bB.below hb4 (by omega)
            have bac0 := bA 0 _ rfl
            have bac1 := bA 1 _ rfl
            have bac2 := bA 2 _ rfl
            have bac3 := bA 3 _ rfl
            have bbc0 := bB 0 _ rfl
            have bbc1 := bB 1 _ rfl
            have bbc2 := bB 2 _ rfl
            have bbc3 := bB 3 _ rfl
            have HB4 := hide (HB3.out.trans (hb4.mono (by omega)))
            clear hb4 HB3
            go_wp2_with fail
            obtain ⟨wd, hwd⟩ : ∃ wd, World.drew w4 = wd := ⟨_, rfl⟩
            have HSS : Hid (wd.cell? ⟨w.heap.size, 0, none⟩ = some (.int .i64 ax) ∧ wd.cell? ⟨w.heap.size, 1, none⟩ = some (.int .i64 ay) ∧ wd.cell? ⟨w.heap.size, 2, none⟩ = some (.int .i64 bx) ∧ wd.cell? ⟨w.heap.size, 3, none⟩ = some (.int .i64 cy) ∧ wd.cell? ⟨(w.heap.size + 1), 0, none⟩ = some (.int .i64 px) ∧ wd.cell? ⟨(w.heap.size + 1), 1, none⟩ = some (.int .i64 py) ∧ wd.cell? ⟨(w.heap.size + 1), 2, none⟩ = some (.int .i64 qx) ∧ wd.cell? ⟨(w.heap.size + 1), 3, none⟩ = some (.int .i64 qy)) := hide ⟨by rw [← hwd]; exact bac0, by rw [← hwd]; exact bac1, by rw [← hwd]; exact bac2, by rw [← hwd]; exact bac3, by rw [← hwd]; exact bbc0, by rw [← hwd]; exact bbc1, by rw [← hwd]; exact bbc2, by rw [← hwd]; exact bbc3⟩
            have HWD := hide hwd
            have hbd : Below w.heap.size w wd := by rw [← hwd]; exact HB4.out.trans (Joins.below_draws _ _ 1)
            have hzd : w.heap.size + 2 ≤ wd.heap.size := by rw [← hwd]; show _ ≤ w4.heap.size; omega
            clear hwd bA bB bac0 bbc0 bac1 bbc1 bac2 bbc2 bac3 bbc3
            refine wp_region_held_drew (S := fun W => W.cell? ⟨w.heap.size, 0, none⟩ = some (.int .i64 ax) ∧ W.cell? ⟨w.heap.size, 1, none⟩ = some (.int .i64 ay) ∧ W.cell? ⟨w.heap.size, 2, none⟩ = some (.int .i64 bx) ∧ W.cell? ⟨w.heap.size, 3, none⟩ = some (.int .i64 cy) ∧ W.cell? ⟨(w.heap.size + 1), 0, none⟩ = some (.int .i64 px) ∧ W.cell? ⟨(w.heap.size + 1), 1, none⟩ = some (.int .i64 py) ∧ W.cell? ⟨(w.heap.size + 1), 2, none⟩ = some (.int .i64 qx) ∧ W.cell? ⟨(w.heap.size + 1), 3, none⟩ = some (.int .i64 qy)) (by kernel_rfl) (HWD.out ▸ HSS.out) (fun hHeld => ?_)
            try rw [HWD.out]
            try simp only [Array.replicate, List.replicate]
            refine wpAnyH_take (i := 0) (v := ?_) rfl (by kernel_rfl) (by kernel_rfl) (by kernel_rfl) (fun _ _ _ h => h) (Or.inl ⟨by rfl, ?_⟩) (by assumption) ?_
            rotate_left
            · (intro w hSw; (try dsimp only at hSw); go_simp; try (with_reducible rfl))
            try simp only [Act.put, List.getElem_toArray, List.getElem_cons_succ, List.getElem_cons_zero, List.setIfInBounds_toArray, List.set_cons_succ, List.set_cons_zero]
            refine wpAnyH_take (i := 1) (v := ?_) rfl (by kernel_rfl) (by kernel_rfl) (by kernel_rfl) (fun _ _ _ h => h) (Or.inl ⟨by rfl, ?_⟩) (by assumption) ?_
            rotate_left
            · (intro w hSw; (try dsimp only at hSw); go_simp; try (with_reducible rfl))
            try simp only [Act.put, List.getElem_toArray, List.getElem_cons_succ, List.getElem_cons_zero, List.setIfInBounds_toArray, List.set_cons_succ, List.set_cons_zero]
            refine wpAnyH_take (i := 2) (v := ?_) rfl (by kernel_rfl) (by kernel_rfl) (by kernel_rfl) (fun _ _ _ h => h) (Or.inl ⟨by rfl, ?_⟩) (by assumption) ?_
            rotate_left
            · (intro w hSw; (try dsimp only at hSw); go_simp; try (with_reducible rfl))
            try simp only [Act.put, List.getElem_toArray, List.getElem_cons_succ, List.getElem_cons_zero, List.setIfInBounds_toArray, List.set_cons_succ, List.set_cons_zero]
            refine wpAnyH_take (i := 3) (v := ?_) rfl (by kernel_rfl) (by kernel_rfl) (by kernel_rfl) (fun _ _ _ h => h) (Or.inl ⟨by rfl, ?_⟩) (by assumption) ?_
            rotate_left
            · (intro w hSw; (try dsimp only at hSw); go_simp; try (with_reducible rfl))
            try simp only [Act.put, List.getElem_toArray, List.getElem_cons_succ, List.getElem_cons_zero, List.setIfInBounds_toArray, List.set_cons_succ, List.set_cons_zero]
            refine wpAnyH_take (i := 4) (v := ?_) rfl (by kernel_rfl) (by kernel_rfl) (by kernel_rfl) (fun _ _ _ h => h) (Or.inl ⟨by rfl, ?_⟩) (by assumption) ?_
            rotate_left
            · (intro w hSw; (try dsimp only at hSw); go_simp; try (with_reducible rfl))
            try simp only [Act.put, List.getElem_toArray, List.getElem_cons_succ, List.getElem_cons_zero, List.setIfInBounds_toArray, List.set_cons_succ, List.set_cons_zero]
            refine wpAnyH_take (i := 5) (v := ?_) rfl (by kernel_rfl) (by kernel_rfl) (by kernel_rfl) (fun _ _ _ h => h) (Or.inl ⟨by rfl, ?_⟩) (by assumption) ?_
            rotate_left
            · (intro w hSw; (try dsimp only at hSw); go_simp; try (with_reducible rfl))
            try simp only [Act.put, List.getElem_toArray, List.getElem_cons_succ, List.getElem_cons_zero, List.setIfInBounds_toArray, List.set_cons_succ, List.set_cons_zero]
            refine wpAnyH_take (i := 8) (v := ?_) rfl (by kernel_rfl) (by kernel_rfl) (by kernel_rfl) (fun _ _ _ h => h) (Or.inl ⟨by rfl, ?_⟩) (by assumption) ?_
            rotate_left
            · (intro w hSw; (try dsimp only at hSw); go_simp; try (with_reducible rfl))
            try simp only [Act.put, List.getElem_toArray, List.getElem_cons_succ, List.getElem_cons_zero, List.setIfInBounds_toArray, List.set_cons_succ, List.set_cons_zero]
            refine wpAnyH_take (i := 9) (v := ?_) rfl (by kernel_rfl) (by kernel_rfl) (by kernel_rfl) (fun _ _ _ h => h) (Or.inl ⟨by rfl, ?_⟩) (by assumption) ?_
            rotate_left
            · (intro w hSw; (try dsimp only at hSw); go_simp; try (with_reducible rfl))
            try simp only [Act.put, List.getElem_toArray, List.getElem_cons_succ, List.getElem_cons_zero, List.setIfInBounds_toArray, List.set_cons_succ, List.set_cons_zero]
            refine wpAnyH_take (i := 10) (v := ?_) rfl (by kernel_rfl) (by kernel_rfl) (by kernel_rfl) (fun _ _ _ h => h) (Or.inl ⟨by rfl, ?_⟩) (by assumption) ?_
            rotate_left
            · (intro w hSw; (try dsimp only at hSw); go_simp; try (with_reducible rfl))
            try simp only [Act.put, List.getElem_toArray, List.getElem_cons_succ, List.getElem_cons_zero, List.setIfInBounds_toArray, List.set_cons_succ, List.set_cons_zero]
            refine wpAnyH_take (i := 11) (v := ?_) rfl (by kernel_rfl) (by kernel_rfl) (by kernel_rfl) (fun _ _ _ h => h) (Or.inl ⟨by rfl, ?_⟩) (by assumption) ?_
            rotate_left
            · (intro w hSw; (try dsimp only at hSw); go_simp; try (with_reducible rfl))
            try simp only [Act.put, List.getElem_toArray, List.getElem_cons_succ, List.getElem_cons_zero, List.setIfInBounds_toArray, List.set_cons_succ, List.set_cons_zero]
            refine wpAnyH_take (i := 12) (v := ?_) rfl (by kernel_rfl) (by kernel_rfl) (by kernel_rfl) (fun _ _ _ h => h) (Or.inl ⟨by rfl, ?_⟩) (by assumption) ?_
            rotate_left
            · (intro w hSw; (try dsimp only at hSw); go_simp; try (with_reducible rfl))
            try simp only [Act.put, List.getElem_toArray, List.getElem_cons_succ, List.getElem_cons_zero, List.setIfInBounds_toArray, List.set_cons_succ, List.set_cons_zero]
            refine wpAnyH_take (i := 13) (v := ?_) rfl (by kernel_rfl) (by kernel_rfl) (by kernel_rfl) (fun _ _ _ h => h) (Or.inl ⟨by rfl, ?_⟩) (by assumption) ?_
            rotate_left
            · (intro w hSw; (try dsimp only at hSw); go_simp; try (with_reducible rfl))
            try simp only [Act.put, List.getElem_toArray, List.getElem_cons_succ, List.getElem_cons_zero, List.setIfInBounds_toArray, List.set_cons_succ, List.set_cons_zero]
            refine wpAnyH_ready (rs := [6]) (by kernel_rfl) (by simp) ?_
            refine AllReadyH.cons rfl (fun KQ hK => ?_) AllReadyH.nil
            go_simp
            refine (side_is HA.out HP.out.a HE1.out).mono ?_
            rintro e y1 ⟨rfl, hq0⟩
            have hz0 : wd.heap.size ≤ y1.heap.size := hq0.size
            have HSS : Hid (y1.cell? ⟨w.heap.size, 0, none⟩ = some (.int .i64 ax) ∧ y1.cell? ⟨w.heap.size, 1, none⟩ = some (.int .i64 ay) ∧ y1.cell? ⟨w.heap.size, 2, none⟩ = some (.int .i64 bx) ∧ y1.cell? ⟨w.heap.size, 3, none⟩ = some (.int .i64 cy) ∧ y1.cell? ⟨(w.heap.size + 1), 0, none⟩ = some (.int .i64 px) ∧ y1.cell? ⟨(w.heap.size + 1), 1, none⟩ = some (.int .i64 py) ∧ y1.cell? ⟨(w.heap.size + 1), 2, none⟩ = some (.int .i64 qx) ∧ y1.cell? ⟨(w.heap.size + 1), 3, none⟩ = some (.int .i64 qy)) := hide ⟨(hq0.cell (p := ⟨w.heap.size, 0, none⟩) (by show w.heap.size < wd.heap.size; omega)).trans HSS.out.1, (hq0.cell (p := ⟨w.heap.size, 1, none⟩) (by show w.heap.size < wd.heap.size; omega)).trans HSS.out.2.1, (hq0.cell (p := ⟨w.heap.size, 2, none⟩) (by show w.heap.size < wd.heap.size; omega)).trans HSS.out.2.2.1, (hq0.cell (p := ⟨w.heap.size, 3, none⟩) (by show w.heap.size < wd.heap.size; omega)).trans HSS.out.2.2.2.1, (hq0.cell (p := ⟨(w.heap.size + 1), 0, none⟩) (by show (w.heap.size + 1) < wd.heap.size; omega)).trans HSS.out.2.2.2.2.1, (hq0.cell (p := ⟨(w.heap.size + 1), 1, none⟩) (by show (w.heap.size + 1) < wd.heap.size; omega)).trans HSS.out.2.2.2.2.2.1, (hq0.cell (p := ⟨(w.heap.size + 1), 2, none⟩) (by show (w.heap.size + 1) < wd.heap.size; omega)).trans HSS.out.2.2.2.2.2.2.1, (hq0.cell (p := ⟨(w.heap.size + 1), 3, none⟩) (by show (w.heap.size + 1) < wd.heap.size; omega)).trans HSS.out.2.2.2.2.2.2.2⟩
            refine hK.out _ _ (HSS.out) (fun hHeld2 => ?_)
            clear hK KQ hHeld
            have hHeld := hHeld2
            clear hHeld2
            try simp only [Act.put, List.getElem_toArray, List.getElem_cons_succ, List.getElem_cons_zero, List.setIfInBounds_toArray, List.set_cons_succ, List.set_cons_zero]
            refine wpAnyH_ready (rs := [7]) (by kernel_rfl) (by simp) ?_
            refine AllReadyH.cons rfl (fun KQ hK => ?_) AllReadyH.nil
            go_simp
            refine (sign_is HG1.out).mono ?_
            rintro e wx ⟨rfl, hw⟩
            obtain rfl := hw.symm
            refine hK.out _ _ (HSS.out) (fun hHeld2 => ?_)
            clear hK KQ hHeld
            have hHeld := hHeld2
            clear hHeld2
            try simp only [Act.put, List.getElem_toArray, List.getElem_cons_succ, List.getElem_cons_zero, List.setIfInBounds_toArray, List.set_cons_succ, List.set_cons_zero]
            refine wpAnyH_ready (rs := [14]) (by kernel_rfl) (by simp) ?_
            refine AllReadyH.cons rfl (fun KQ hK => ?_) AllReadyH.nil
            go_simp
            refine (side_is HA.out HP.out.b HE2.out).mono ?_
            rintro e y2 ⟨rfl, hq1⟩
            have hz1 : y1.heap.size ≤ y2.heap.size := hq1.size
            have HSS : Hid (y2.cell? ⟨w.heap.size, 0, none⟩ = some (.int .i64 ax) ∧ y2.cell? ⟨w.heap.size, 1, none⟩ = some (.int .i64 ay) ∧ y2.cell? ⟨w.heap.size, 2, none⟩ = some (.int .i64 bx) ∧ y2.cell? ⟨w.heap.size, 3, none⟩ = some (.int .i64 cy) ∧ y2.cell? ⟨(w.heap.size + 1), 0, none⟩ = some (.int .i64 px) ∧ y2.cell? ⟨(w.heap.size + 1), 1, none⟩ = some (.int .i64 py) ∧ y2.cell? ⟨(w.heap.size + 1), 2, none⟩ = some (.int .i64 qx) ∧ y2.cell? ⟨(w.heap.size + 1), 3, none⟩ = some (.int .i64 qy)) := hide ⟨(hq1.cell (p := ⟨w.heap.size, 0, none⟩) (by show w.heap.size < y1.heap.size; omega)).trans HSS.out.1, (hq1.cell (p := ⟨w.heap.size, 1, none⟩) (by show w.heap.size < y1.heap.size; omega)).trans HSS.out.2.1, (hq1.cell (p := ⟨w.heap.size, 2, none⟩) (by show w.heap.size < y1.heap.size; omega)).trans HSS.out.2.2.1, (hq1.cell (p := ⟨w.heap.size, 3, none⟩) (by show w.heap.size < y1.heap.size; omega)).trans HSS.out.2.2.2.1, (hq1.cell (p := ⟨(w.heap.size + 1), 0, none⟩) (by show (w.heap.size + 1) < y1.heap.size; omega)).trans HSS.out.2.2.2.2.1, (hq1.cell (p := ⟨(w.heap.size + 1), 1, none⟩) (by show (w.heap.size + 1) < y1.heap.size; omega)).trans HSS.out.2.2.2.2.2.1, (hq1.cell (p := ⟨(w.heap.size + 1), 2, none⟩) (by show (w.heap.size + 1) < y1.heap.size; omega)).trans HSS.out.2.2.2.2.2.2.1, (hq1.cell (p := ⟨(w.heap.size + 1), 3, none⟩) (by show (w.heap.size + 1) < y1.heap.size; omega)).trans HSS.out.2.2.2.2.2.2.2⟩
            refine hK.out _ _ (HSS.out) (fun hHeld2 => ?_)
            clear hK KQ hHeld
            have hHeld := hHeld2
            clear hHeld2
            try simp only [Act.put, List.getElem_toArray, List.getElem_cons_succ, List.getElem_cons_zero, List.setIfInBounds_toArray, List.set_cons_succ, List.set_cons_zero]
            refine wpAnyH_ready (rs := [15]) (by kernel_rfl) (by simp) ?_
            refine AllReadyH.cons rfl (fun KQ hK => ?_) AllReadyH.nil
            go_simp
            refine (sign_is HG2.out).mono ?_
            rintro e wx ⟨rfl, hw⟩
            obtain rfl := hw.symm
            refine hK.out _ _ (HSS.out) (fun hHeld2 => ?_)
            clear hK KQ hHeld
            have hHeld := hHeld2
            clear hHeld2
            try simp only [Act.put, List.getElem_toArray, List.getElem_cons_succ, List.getElem_cons_zero, List.setIfInBounds_toArray, List.set_cons_succ, List.set_cons_zero]
            refine wpAnyH_take (i := 16) (v := ?_) rfl (by kernel_rfl) (by kernel_rfl) (by kernel_rfl) (fun _ _ _ h => h) (Or.inl ⟨by rfl, ?_⟩) (by assumption) ?_
            rotate_left
            · (intro w hSw; (try dsimp only at hSw); go_simp; try (with_reducible rfl))
            try simp only [Act.put, List.getElem_toArray, List.getElem_cons_succ, List.getElem_cons_zero, List.setIfInBounds_toArray, List.set_cons_succ, List.set_cons_zero]
            refine wpAnyH_take (i := 17) (v := .bool false) rfl (by kernel_rfl) (by kernel_rfl) (by kernel_rfl) (fun _ _ _ h => h) (Or.inl ⟨by rfl, (by intro w hSw; (try dsimp only at hSw); go_simp)⟩) (by assumption) ?_
            try simp only [Act.put, List.getElem_toArray, List.getElem_cons_succ, List.getElem_cons_zero, List.setIfInBounds_toArray, List.set_cons_succ, List.set_cons_zero]
            refine wpAnyH_take (i := 18) (v := ?_) rfl (by kernel_rfl) (by kernel_rfl) (by kernel_rfl) (fun _ _ _ h => h) (Or.inl ⟨by rfl, ?_⟩) (by assumption) ?_
            rotate_left
            · (intro w hSw; (try dsimp only at hSw); go_simp; try (with_reducible rfl))
            try simp only [Act.put, List.getElem_toArray, List.getElem_cons_succ, List.getElem_cons_zero, List.setIfInBounds_toArray, List.set_cons_succ, List.set_cons_zero]
            refine wpAnyH_take (i := 19) (v := undef) rfl (by kernel_rfl) (by kernel_rfl) (by kernel_rfl) (fun _ _ _ h => h) (Or.inr ⟨by rfl, rfl⟩) (by assumption) ?_
            try simp only [Act.put, List.getElem_toArray, List.getElem_cons_succ, List.getElem_cons_zero, List.setIfInBounds_toArray, List.set_cons_succ, List.set_cons_zero]
            refine wpAnyH_take (i := 20) (v := undef) rfl (by kernel_rfl) (by kernel_rfl) (by kernel_rfl) (fun _ _ _ h => h) (Or.inr ⟨by rfl, rfl⟩) (by assumption) ?_
            try simp only [Act.put, List.getElem_toArray, List.getElem_cons_succ, List.getElem_cons_zero, List.setIfInBounds_toArray, List.set_cons_succ, List.set_cons_zero]
            refine wpAnyH_take (i := 21) (v := undef) rfl (by kernel_rfl) (by kernel_rfl) (by kernel_rfl) (fun _ _ _ h => h) (Or.inr ⟨by rfl, rfl⟩) (by assumption) ?_
            try simp only [Act.put, List.getElem_toArray, List.getElem_cons_succ, List.getElem_cons_zero, List.setIfInBounds_toArray, List.set_cons_succ, List.set_cons_zero]
            refine wpAnyH_take (i := 22) (v := undef) rfl (by kernel_rfl) (by kernel_rfl) (by kernel_rfl) (fun _ _ _ h => h) (Or.inr ⟨by rfl, rfl⟩) (by assumption) ?_
            try simp only [Act.put, List.getElem_toArray, List.getElem_cons_succ, List.getElem_cons_zero, List.setIfInBounds_toArray, List.set_cons_succ, List.set_cons_zero]
            refine wpAnyH_take (i := 23) (v := undef) rfl (by kernel_rfl) (by kernel_rfl) (by kernel_rfl) (fun _ _ _ h => h) (Or.inr ⟨by rfl, rfl⟩) (by assumption) ?_
            try simp only [Act.put, List.getElem_toArray, List.getElem_cons_succ, List.getElem_cons_zero, List.setIfInBounds_toArray, List.set_cons_succ, List.set_cons_zero]
            refine wpAnyH_take (i := 24) (v := undef) rfl (by kernel_rfl) (by kernel_rfl) (by kernel_rfl) (fun _ _ _ h => h) (Or.inr ⟨by rfl, rfl⟩) (by assumption) ?_
            try simp only [Act.put, List.getElem_toArray, List.getElem_cons_succ, List.getElem_cons_zero, List.setIfInBounds_toArray, List.set_cons_succ, List.set_cons_zero]
            refine wpAnyH_take (i := 25) (v := undef) rfl (by kernel_rfl) (by kernel_rfl) (by kernel_rfl) (fun _ _ _ h => h) (Or.inr ⟨by rfl, rfl⟩) (by assumption) ?_
            try simp only [Act.put, List.getElem_toArray, List.getElem_cons_succ, List.getElem_cons_zero, List.setIfInBounds_toArray, List.set_cons_succ, List.set_cons_zero]
            refine wpAnyH_take (i := 26) (v := undef) rfl (by kernel_rfl) (by kernel_rfl) (by kernel_rfl) (fun _ _ _ h => h) (Or.inr ⟨by rfl, rfl⟩) (by assumption) ?_
            try simp only [Act.put, List.getElem_toArray, List.getElem_cons_succ, List.getElem_cons_zero, List.setIfInBounds_toArray, List.set_cons_succ, List.set_cons_zero]
            refine wpAnyH_take (i := 27) (v := undef) rfl (by kernel_rfl) (by kernel_rfl) (by kernel_rfl) (fun _ _ _ h => h) (Or.inr ⟨by rfl, rfl⟩) (by assumption) ?_
            try simp only [Act.put, List.getElem_toArray, List.getElem_cons_succ, List.getElem_cons_zero, List.setIfInBounds_toArray, List.set_cons_succ, List.set_cons_zero]
            refine wpAnyH_take (i := 28) (v := undef) rfl (by kernel_rfl) (by kernel_rfl) (by kernel_rfl) (fun _ _ _ h => h) (Or.inr ⟨by rfl, rfl⟩) (by assumption) ?_
            try simp only [Act.put, List.getElem_toArray, List.getElem_cons_succ, List.getElem_cons_zero, List.setIfInBounds_toArray, List.set_cons_succ, List.set_cons_zero]
            refine wpAnyH_take (i := 29) (v := undef) rfl (by kernel_rfl) (by kernel_rfl) (by kernel_rfl) (fun _ _ _ h => h) (Or.inr ⟨by rfl, rfl⟩) (by assumption) ?_
            try simp only [Act.put, List.getElem_toArray, List.getElem_cons_succ, List.getElem_cons_zero, List.setIfInBounds_toArray, List.set_cons_succ, List.set_cons_zero]
            refine wpAnyH_take (i := 30) (v := undef) rfl (by kernel_rfl) (by kernel_rfl) (by kernel_rfl) (fun _ _ _ h => h) (Or.inr ⟨by rfl, rfl⟩) (by assumption) ?_
            try simp only [Act.put, List.getElem_toArray, List.getElem_cons_succ, List.getElem_cons_zero, List.setIfInBounds_toArray, List.set_cons_succ, List.set_cons_zero]
            refine wpAnyH_take (i := 31) (v := undef) rfl (by kernel_rfl) (by kernel_rfl) (by kernel_rfl) (fun _ _ _ h => h) (Or.inr ⟨by rfl, rfl⟩) (by assumption) ?_
            try simp only [Act.put, List.getElem_toArray, List.getElem_cons_succ, List.getElem_cons_zero, List.setIfInBounds_toArray, List.set_cons_succ, List.set_cons_zero]
            refine wpAnyH_take (i := 32) (v := undef) rfl (by kernel_rfl) (by kernel_rfl) (by kernel_rfl) (fun _ _ _ h => h) (Or.inr ⟨by rfl, rfl⟩) (by assumption) ?_
            try simp only [Act.put, List.getElem_toArray, List.getElem_cons_succ, List.getElem_cons_zero, List.setIfInBounds_toArray, List.set_cons_succ, List.set_cons_zero]
            refine wpAnyH_take (i := 33) (v := undef) rfl (by kernel_rfl) (by kernel_rfl) (by kernel_rfl) (fun _ _ _ h => h) (Or.inr ⟨by rfl, rfl⟩) (by assumption) ?_
            try simp only [Act.put, List.getElem_toArray, List.getElem_cons_succ, List.getElem_cons_zero, List.setIfInBounds_toArray, List.set_cons_succ, List.set_cons_zero]
            refine wpAnyH_take (i := 34) (v := undef) rfl (by kernel_rfl) (by kernel_rfl) (by kernel_rfl) (fun _ _ _ h => h) (Or.inr ⟨by rfl, rfl⟩) (by assumption) ?_
            try simp only [Act.put, List.getElem_toArray, List.getElem_cons_succ, List.getElem_cons_zero, List.setIfInBounds_toArray, List.set_cons_succ, List.set_cons_zero]
            refine wpAnyH_take (i := 35) (v := undef) rfl (by kernel_rfl) (by kernel_rfl) (by kernel_rfl) (fun _ _ _ h => h) (Or.inr ⟨by rfl, rfl⟩) (by assumption) ?_
            try simp only [Act.put, List.getElem_toArray, List.getElem_cons_succ, List.getElem_cons_zero, List.setIfInBounds_toArray, List.set_cons_succ, List.set_cons_zero]
            refine wpAnyH_take (i := 36) (v := undef) rfl (by kernel_rfl) (by kernel_rfl) (by kernel_rfl) (fun _ _ _ h => h) (Or.inr ⟨by rfl, rfl⟩) (by assumption) ?_
            try simp only [Act.put, List.getElem_toArray, List.getElem_cons_succ, List.getElem_cons_zero, List.setIfInBounds_toArray, List.set_cons_succ, List.set_cons_zero]
            refine wpAnyH_take (i := 37) (v := ?_) rfl (by kernel_rfl) (by kernel_rfl) (by kernel_rfl) (fun _ _ _ h => h) (Or.inl ⟨by rfl, ?_⟩) (by assumption) ?_
            rotate_left
            · (intro w hSw; (try dsimp only at hSw); go_simp; try (with_reducible rfl))
            try simp only [Act.put, List.getElem_toArray, List.getElem_cons_succ, List.getElem_cons_zero, List.setIfInBounds_toArray, List.set_cons_succ, List.set_cons_zero]
            refine wpAnyH_take (i := 38) (v := ?_) rfl (by kernel_rfl) (by kernel_rfl) (by kernel_rfl) (fun _ _ _ h => h) (Or.inl ⟨by rfl, ?_⟩) (by assumption) ?_
            rotate_left
            · (intro w hSw; (try dsimp only at hSw); go_simp; try (with_reducible rfl))
            try simp only [Act.put, List.getElem_toArray, List.getElem_cons_succ, List.getElem_cons_zero, List.setIfInBounds_toArray, List.set_cons_succ, List.set_cons_zero]
            refine wpAnyH_done (by kernel_rfl) ?_ _
            have hb9 := hbd.trans ((hq0.trans (hq1.mono hz0)).mono (by omega))
            go_wp2_with fail
            go_ret
            exact ⟨ret_bool HV2.out, hb9⟩
          · have HV2 := hide (show decide (s3 * s4 < 0) = b by have h := HV.out; rw [g1] at h; exact h)
            clear HV
            go_enter Tryz.func60, Tryz.ntmps60
            go_wp2_with fail
            obtain ⟨W0, hW0⟩ : ∃ W0 : World, W0 = ((w.alloc (.cells #[.int .i64 ax, .int .i64 ay, .int .i64 bx, .int .i64 cy] 70)).alloc (.cells #[.int .i64 px, .int .i64 py, .int .i64 qx, .int .i64 qy] 70)) := ⟨_, rfl⟩
            rw [← hW0]
            have bA : Box W0 w.heap.size [.int .i64 ax, .int .i64 ay, .int .i64 bx, .int .i64 cy] := by rw [hW0]; exact (box_at _ _ _ _ (by simp)).alloc (by simp) _
            have bB : Box W0 (w.heap.size + 1) [.int .i64 px, .int .i64 py, .int .i64 qx, .int .i64 qy] := by rw [hW0]; exact box_at _ _ _ _ (by simp)
            have HB0 := hide (show Below w.heap.size w W0 by rw [hW0]; exact ((Below.refl _ _).alloc (Nat.le_refl _) _).alloc (by simp) _)
            have hs0 : w.heap.size + 2 ≤ W0.heap.size := by rw [hW0]; simp
            clear hW0
            have bac0 := bA 0 _ rfl
            have bac1 := bA 1 _ rfl
            have bac2 := bA 2 _ rfl
            have bac3 := bA 3 _ rfl
            have bbc0 := bB 0 _ rfl
            have bbc1 := bB 1 _ rfl
            have bbc2 := bB 2 _ rfl
            have bbc3 := bB 3 _ rfl
            go_wp2_with fail
            refine (covers_is HA.out HP.out.a HC1.out).mono ?_
            rintro e w1 ⟨rfl, hb1⟩
            clear bac0 bac1 bac2 bac3 bbc0 bbc1 bbc2 bbc3
            have hs1 := hb1.size
            replace bA := bA.below hb1 (by omega)
            replace bB := bB.below hb1 (by omega)
            have bac0 := bA 0 _ rfl
            have bac1 := bA 1 _ rfl
            have bac2 := bA 2 _ rfl
            have bac3 := bA 3 _ rfl
            have bbc0 := bB 0 _ rfl
            have bbc1 := bB 1 _ rfl
            have bbc2 := bB 2 _ rfl
            have bbc3 := bB 3 _ rfl
            have HB1 := hide (HB0.out.trans (hb1.mono (by omega)))
            clear hb1 HB0
            go_wp2_with fail
            refine (covers_is HA.out HP.out.b HC2.out).mono ?_
            rintro e w2 ⟨rfl, hb2⟩
            clear bac0 bac1 bac2 bac3 bbc0 bbc1 bbc2 bbc3
            have hs2 := hb2.size
            replace bA := bA.below hb2 (by omega)
            replace bB := bB.below hb2 (by omega)
            have bac0 := bA 0 _ rfl
            have bac1 := bA 1 _ rfl
            have bac2 := bA 2 _ rfl
            have bac3 := bA 3 _ rfl
            have bbc0 := bB 0 _ rfl
            have bbc1 := bB 1 _ rfl
            have bbc2 := bB 2 _ rfl
            have bbc3 := bB 3 _ rfl
            have HB2 := hide (HB1.out.trans (hb2.mono (by omega)))
            clear hb2 HB1
            go_wp2_with fail
            refine (covers_is HP.out HA.out.a HC3.out).mono ?_
            rintro e w3 ⟨rfl, hb3⟩
            clear bac0 bac1 bac2 bac3 bbc0 bbc1 bbc2 bbc3
            have hs3 := hb3.size
            replace bA := bA.below hb3 (by omega)
            replace bB := bB.below hb3 (by omega)
            have bac0 := bA 0 _ rfl
            have bac1 := bA 1 _ rfl
            have bac2 := bA 2 _ rfl
            have bac3 := bA 3 _ rfl
            have bbc0 := bB 0 _ rfl
            have bbc1 := bB 1 _ rfl
            have bbc2 := bB 2 _ rfl
            have bbc3 := bB 3 _ rfl
            have HB3 := hide (HB2.out.trans (hb3.mono (by omega)))
            clear hb3 HB2
            go_wp2_with fail
            refine (covers_is HP.out HA.out.b HC4.out).mono ?_
            rintro e w4 ⟨rfl, hb4⟩
            clear bac0 bac1 bac2 bac3 bbc0 bbc1 bbc2 bbc3
            have hs4 := hb4.size
            replace bA := bA.below hb4 (by omega)
            replace bB := bB.below hb4 (by omega)
            have bac0 := bA 0 _ rfl
            have bac1 := bA 1 _ rfl
            have bac2 := bA 2 _ rfl
            have bac3 := bA 3 _ rfl
            have bbc0 := bB 0 _ rfl
            have bbc1 := bB 1 _ rfl
            have bbc2 := bB 2 _ rfl
            have bbc3 := bB 3 _ rfl
            have HB4 := hide (HB3.out.trans (hb4.mono (by omega)))
            clear hb4 HB3
            go_wp2_with fail
            obtain ⟨wd, hwd⟩ : ∃ wd, World.drew w4 = wd := ⟨_, rfl⟩
            have HSS : Hid (wd.cell? ⟨w.heap.size, 0, none⟩ = some (.int .i64 ax) ∧ wd.cell? ⟨w.heap.size, 1, none⟩ = some (.int .i64 ay) ∧ wd.cell? ⟨w.heap.size, 2, none⟩ = some (.int .i64 bx) ∧ wd.cell? ⟨w.heap.size, 3, none⟩ = some (.int .i64 cy) ∧ wd.cell? ⟨(w.heap.size + 1), 0, none⟩ = some (.int .i64 px) ∧ wd.cell? ⟨(w.heap.size + 1), 1, none⟩ = some (.int .i64 py) ∧ wd.cell? ⟨(w.heap.size + 1), 2, none⟩ = some (.int .i64 qx) ∧ wd.cell? ⟨(w.heap.size + 1), 3, none⟩ = some (.int .i64 qy)) := hide ⟨by rw [← hwd]; exact bac0, by rw [← hwd]; exact bac1, by rw [← hwd]; exact bac2, by rw [← hwd]; exact bac3, by rw [← hwd]; exact bbc0, by rw [← hwd]; exact bbc1, by rw [← hwd]; exact bbc2, by rw [← hwd]; exact bbc3⟩
            have HWD := hide hwd
            have hbd : Below w.heap.size w wd := by rw [← hwd]; exact HB4.out.trans (Joins.below_draws _ _ 1)
            have hzd : w.heap.size + 2 ≤ wd.heap.size := by rw [← hwd]; show _ ≤ w4.heap.size; omega
            clear hwd bA bB bac0 bbc0 bac1 bbc1 bac2 bbc2 bac3 bbc3
            have HSS : Hid ((World.drew w4).cell? ⟨w.heap.size, 0, none⟩ = some (.int .i64 ax) ∧ (World.drew w4).cell? ⟨w.heap.size, 1, none⟩ = some (.int .i64 ay) ∧ (World.drew w4).cell? ⟨w.heap.size, 2, none⟩ = some (.int .i64 bx) ∧ (World.drew w4).cell? ⟨w.heap.size, 3, none⟩ = some (.int .i64 cy) ∧ (World.drew w4).cell? ⟨(w.heap.size + 1), 0, none⟩ = some (.int .i64 px) ∧ (World.drew w4).cell? ⟨(w.heap.size + 1), 1, none⟩ = some (.int .i64 py) ∧ (World.drew w4).cell? ⟨(w.heap.size + 1), 2, none⟩ = some (.int .i64 qx) ∧ (World.drew w4).cell? ⟨(w.heap.size + 1), 3, none⟩ = some (.int .i64 qy)) := hide (HWD.out ▸ HSS.out)
            have hzd4 : w.heap.size + 2 ≤ (World.drew w4).heap.size := by rw [HWD.out]; exact hzd
            go_region_held3 (fun W => W.cell? ⟨w.heap.size, 0, none⟩ = some (.int .i64 ax) ∧ W.cell? ⟨w.heap.size, 1, none⟩ = some (.int .i64 ay) ∧ W.cell? ⟨w.heap.size, 2, none⟩ = some (.int .i64 bx) ∧ W.cell? ⟨w.heap.size, 3, none⟩ = some (.int .i64 cy) ∧ W.cell? ⟨(w.heap.size + 1), 0, none⟩ = some (.int .i64 px) ∧ W.cell? ⟨(w.heap.size + 1), 1, none⟩ = some (.int .i64 py) ∧ W.cell? ⟨(w.heap.size + 1), 2, none⟩ = some (.int .i64 qx) ∧ W.cell? ⟨(w.heap.size + 1), 3, none⟩ = some (.int .i64 qy)) (with_reducible exact HSS.out) (first | (go_at_call 82; (with_reducible refine (side_is HA.out HP.out.a HE1.out).mono ?_); rintro e w5 ⟨rfl, hq5⟩; have hz5 : (World.drew w4).heap.size ≤ w5.heap.size := hq5.size; have HSS : Hid (w5.cell? ⟨w.heap.size, 0, none⟩ = some (.int .i64 ax) ∧ w5.cell? ⟨w.heap.size, 1, none⟩ = some (.int .i64 ay) ∧ w5.cell? ⟨w.heap.size, 2, none⟩ = some (.int .i64 bx) ∧ w5.cell? ⟨w.heap.size, 3, none⟩ = some (.int .i64 cy) ∧ w5.cell? ⟨(w.heap.size + 1), 0, none⟩ = some (.int .i64 px) ∧ w5.cell? ⟨(w.heap.size + 1), 1, none⟩ = some (.int .i64 py) ∧ w5.cell? ⟨(w.heap.size + 1), 2, none⟩ = some (.int .i64 qx) ∧ w5.cell? ⟨(w.heap.size + 1), 3, none⟩ = some (.int .i64 qy)) := hide ⟨(hq5.cell (p := ⟨w.heap.size, 0, none⟩) (by show w.heap.size < (World.drew w4).heap.size; omega)).trans HSS.out.1, (hq5.cell (p := ⟨w.heap.size, 1, none⟩) (by show w.heap.size < (World.drew w4).heap.size; omega)).trans HSS.out.2.1, (hq5.cell (p := ⟨w.heap.size, 2, none⟩) (by show w.heap.size < (World.drew w4).heap.size; omega)).trans HSS.out.2.2.1, (hq5.cell (p := ⟨w.heap.size, 3, none⟩) (by show w.heap.size < (World.drew w4).heap.size; omega)).trans HSS.out.2.2.2.1, (hq5.cell (p := ⟨(w.heap.size + 1), 0, none⟩) (by show (w.heap.size + 1) < (World.drew w4).heap.size; omega)).trans HSS.out.2.2.2.2.1, (hq5.cell (p := ⟨(w.heap.size + 1), 1, none⟩) (by show (w.heap.size + 1) < (World.drew w4).heap.size; omega)).trans HSS.out.2.2.2.2.2.1, (hq5.cell (p := ⟨(w.heap.size + 1), 2, none⟩) (by show (w.heap.size + 1) < (World.drew w4).heap.size; omega)).trans HSS.out.2.2.2.2.2.2.1, (hq5.cell (p := ⟨(w.heap.size + 1), 3, none⟩) (by show (w.heap.size + 1) < (World.drew w4).heap.size; omega)).trans HSS.out.2.2.2.2.2.2.2⟩) | (go_at_call 81; (with_reducible refine (sign_is HG1.out).mono ?_); rintro e wx ⟨rfl, hw⟩; obtain rfl := hw.symm) | (go_at_call 82; (with_reducible refine (side_is HA.out HP.out.b HE2.out).mono ?_); rintro e w6 ⟨rfl, hq6⟩; have hz6 : w5.heap.size ≤ w6.heap.size := hq6.size; have HSS : Hid (w6.cell? ⟨w.heap.size, 0, none⟩ = some (.int .i64 ax) ∧ w6.cell? ⟨w.heap.size, 1, none⟩ = some (.int .i64 ay) ∧ w6.cell? ⟨w.heap.size, 2, none⟩ = some (.int .i64 bx) ∧ w6.cell? ⟨w.heap.size, 3, none⟩ = some (.int .i64 cy) ∧ w6.cell? ⟨(w.heap.size + 1), 0, none⟩ = some (.int .i64 px) ∧ w6.cell? ⟨(w.heap.size + 1), 1, none⟩ = some (.int .i64 py) ∧ w6.cell? ⟨(w.heap.size + 1), 2, none⟩ = some (.int .i64 qx) ∧ w6.cell? ⟨(w.heap.size + 1), 3, none⟩ = some (.int .i64 qy)) := hide ⟨(hq6.cell (p := ⟨w.heap.size, 0, none⟩) (by show w.heap.size < w5.heap.size; omega)).trans HSS.out.1, (hq6.cell (p := ⟨w.heap.size, 1, none⟩) (by show w.heap.size < w5.heap.size; omega)).trans HSS.out.2.1, (hq6.cell (p := ⟨w.heap.size, 2, none⟩) (by show w.heap.size < w5.heap.size; omega)).trans HSS.out.2.2.1, (hq6.cell (p := ⟨w.heap.size, 3, none⟩) (by show w.heap.size < w5.heap.size; omega)).trans HSS.out.2.2.2.1, (hq6.cell (p := ⟨(w.heap.size + 1), 0, none⟩) (by show (w.heap.size + 1) < w5.heap.size; omega)).trans HSS.out.2.2.2.2.1, (hq6.cell (p := ⟨(w.heap.size + 1), 1, none⟩) (by show (w.heap.size + 1) < w5.heap.size; omega)).trans HSS.out.2.2.2.2.2.1, (hq6.cell (p := ⟨(w.heap.size + 1), 2, none⟩) (by show (w.heap.size + 1) < w5.heap.size; omega)).trans HSS.out.2.2.2.2.2.2.1, (hq6.cell (p := ⟨(w.heap.size + 1), 3, none⟩) (by show (w.heap.size + 1) < w5.heap.size; omega)).trans HSS.out.2.2.2.2.2.2.2⟩) | (go_at_call 81; (with_reducible refine (sign_is HG2.out).mono ?_); rintro e wx ⟨rfl, hw⟩; obtain rfl := hw.symm) | (go_at_call 82; (with_reducible refine (side_is HP.out HA.out.a HE3.out).mono ?_); rintro e w7 ⟨rfl, hq7⟩; have hz7 : w6.heap.size ≤ w7.heap.size := hq7.size; have HSS : Hid (w7.cell? ⟨w.heap.size, 0, none⟩ = some (.int .i64 ax) ∧ w7.cell? ⟨w.heap.size, 1, none⟩ = some (.int .i64 ay) ∧ w7.cell? ⟨w.heap.size, 2, none⟩ = some (.int .i64 bx) ∧ w7.cell? ⟨w.heap.size, 3, none⟩ = some (.int .i64 cy) ∧ w7.cell? ⟨(w.heap.size + 1), 0, none⟩ = some (.int .i64 px) ∧ w7.cell? ⟨(w.heap.size + 1), 1, none⟩ = some (.int .i64 py) ∧ w7.cell? ⟨(w.heap.size + 1), 2, none⟩ = some (.int .i64 qx) ∧ w7.cell? ⟨(w.heap.size + 1), 3, none⟩ = some (.int .i64 qy)) := hide ⟨(hq7.cell (p := ⟨w.heap.size, 0, none⟩) (by show w.heap.size < w6.heap.size; omega)).trans HSS.out.1, (hq7.cell (p := ⟨w.heap.size, 1, none⟩) (by show w.heap.size < w6.heap.size; omega)).trans HSS.out.2.1, (hq7.cell (p := ⟨w.heap.size, 2, none⟩) (by show w.heap.size < w6.heap.size; omega)).trans HSS.out.2.2.1, (hq7.cell (p := ⟨w.heap.size, 3, none⟩) (by show w.heap.size < w6.heap.size; omega)).trans HSS.out.2.2.2.1, (hq7.cell (p := ⟨(w.heap.size + 1), 0, none⟩) (by show (w.heap.size + 1) < w6.heap.size; omega)).trans HSS.out.2.2.2.2.1, (hq7.cell (p := ⟨(w.heap.size + 1), 1, none⟩) (by show (w.heap.size + 1) < w6.heap.size; omega)).trans HSS.out.2.2.2.2.2.1, (hq7.cell (p := ⟨(w.heap.size + 1), 2, none⟩) (by show (w.heap.size + 1) < w6.heap.size; omega)).trans HSS.out.2.2.2.2.2.2.1, (hq7.cell (p := ⟨(w.heap.size + 1), 3, none⟩) (by show (w.heap.size + 1) < w6.heap.size; omega)).trans HSS.out.2.2.2.2.2.2.2⟩) | (go_at_call 81; (with_reducible refine (sign_is HG3.out).mono ?_); rintro e wx ⟨rfl, hw⟩; obtain rfl := hw.symm) | (go_at_call 82; (with_reducible refine (side_is HP.out HA.out.b HE4.out).mono ?_); rintro e w8 ⟨rfl, hq8⟩; have hz8 : w7.heap.size ≤ w8.heap.size := hq8.size; have HSS : Hid (w8.cell? ⟨w.heap.size, 0, none⟩ = some (.int .i64 ax) ∧ w8.cell? ⟨w.heap.size, 1, none⟩ = some (.int .i64 ay) ∧ w8.cell? ⟨w.heap.size, 2, none⟩ = some (.int .i64 bx) ∧ w8.cell? ⟨w.heap.size, 3, none⟩ = some (.int .i64 cy) ∧ w8.cell? ⟨(w.heap.size + 1), 0, none⟩ = some (.int .i64 px) ∧ w8.cell? ⟨(w.heap.size + 1), 1, none⟩ = some (.int .i64 py) ∧ w8.cell? ⟨(w.heap.size + 1), 2, none⟩ = some (.int .i64 qx) ∧ w8.cell? ⟨(w.heap.size + 1), 3, none⟩ = some (.int .i64 qy)) := hide ⟨(hq8.cell (p := ⟨w.heap.size, 0, none⟩) (by show w.heap.size < w7.heap.size; omega)).trans HSS.out.1, (hq8.cell (p := ⟨w.heap.size, 1, none⟩) (by show w.heap.size < w7.heap.size; omega)).trans HSS.out.2.1, (hq8.cell (p := ⟨w.heap.size, 2, none⟩) (by show w.heap.size < w7.heap.size; omega)).trans HSS.out.2.2.1, (hq8.cell (p := ⟨w.heap.size, 3, none⟩) (by show w.heap.size < w7.heap.size; omega)).trans HSS.out.2.2.2.1, (hq8.cell (p := ⟨(w.heap.size + 1), 0, none⟩) (by show (w.heap.size + 1) < w7.heap.size; omega)).trans HSS.out.2.2.2.2.1, (hq8.cell (p := ⟨(w.heap.size + 1), 1, none⟩) (by show (w.heap.size + 1) < w7.heap.size; omega)).trans HSS.out.2.2.2.2.2.1, (hq8.cell (p := ⟨(w.heap.size + 1), 2, none⟩) (by show (w.heap.size + 1) < w7.heap.size; omega)).trans HSS.out.2.2.2.2.2.2.1, (hq8.cell (p := ⟨(w.heap.size + 1), 3, none⟩) (by show (w.heap.size + 1) < w7.heap.size; omega)).trans HSS.out.2.2.2.2.2.2.2⟩) | (go_at_call 81; (with_reducible refine (sign_is HG4.out).mono ?_); rintro e wx ⟨rfl, hw⟩; obtain rfl := hw.symm))
            have hb9 := (show Below w.heap.size w (World.drew w4) by rw [HWD.out]; exact hbd).trans ((((hq5.trans (hq6.mono hz5)).trans (hq7.mono (Nat.le_trans hz5 hz6))).trans (hq8.mono (Nat.le_trans hz5 (Nat.le_trans hz6 hz7)))).mono (by rw [HWD.out]; omega))
            go_wp2_with fail
            go_ret
            exact ⟨ret_bool HV2.out, hb9⟩
        · have HV := hide (mt_cv HC1.out HC2.out HC3.out HC4.out HR.out (by simp))
          go_enter Tryz.func60, Tryz.ntmps60
          go_wp2_with fail
          obtain ⟨W0, hW0⟩ : ∃ W0 : World, W0 = ((w.alloc (.cells #[.int .i64 ax, .int .i64 ay, .int .i64 bx, .int .i64 cy] 70)).alloc (.cells #[.int .i64 px, .int .i64 py, .int .i64 qx, .int .i64 qy] 70)) := ⟨_, rfl⟩
          rw [← hW0]
          have bA : Box W0 w.heap.size [.int .i64 ax, .int .i64 ay, .int .i64 bx, .int .i64 cy] := by rw [hW0]; exact (box_at _ _ _ _ (by simp)).alloc (by simp) _
          have bB : Box W0 (w.heap.size + 1) [.int .i64 px, .int .i64 py, .int .i64 qx, .int .i64 qy] := by rw [hW0]; exact box_at _ _ _ _ (by simp)
          have HB0 := hide (show Below w.heap.size w W0 by rw [hW0]; exact ((Below.refl _ _).alloc (Nat.le_refl _) _).alloc (by simp) _)
          have hs0 : w.heap.size + 2 ≤ W0.heap.size := by rw [hW0]; simp
          clear hW0
          have bac0 := bA 0 _ rfl
          have bac1 := bA 1 _ rfl
          have bac2 := bA 2 _ rfl
          have bac3 := bA 3 _ rfl
          have bbc0 := bB 0 _ rfl
          have bbc1 := bB 1 _ rfl
          have bbc2 := bB 2 _ rfl
          have bbc3 := bB 3 _ rfl
          go_wp2_with fail
          refine (covers_is HA.out HP.out.a HC1.out).mono ?_
          rintro e w1 ⟨rfl, hb1⟩
          clear bac0 bac1 bac2 bac3 bbc0 bbc1 bbc2 bbc3
          have hs1 := hb1.size
          replace bA := bA.below hb1 (by omega)
          replace bB := bB.below hb1 (by omega)
          have bac0 := bA 0 _ rfl
          have bac1 := bA 1 _ rfl
          have bac2 := bA 2 _ rfl
          have bac3 := bA 3 _ rfl
          have bbc0 := bB 0 _ rfl
          have bbc1 := bB 1 _ rfl
          have bbc2 := bB 2 _ rfl
          have bbc3 := bB 3 _ rfl
          have HB1 := hide (HB0.out.trans (hb1.mono (by omega)))
          clear hb1 HB0
          go_wp2_with fail
          refine (covers_is HA.out HP.out.b HC2.out).mono ?_
          rintro e w2 ⟨rfl, hb2⟩
          clear bac0 bac1 bac2 bac3 bbc0 bbc1 bbc2 bbc3
          have hs2 := hb2.size
          replace bA := bA.below hb2 (by omega)
          replace bB := bB.below hb2 (by omega)
          have bac0 := bA 0 _ rfl
          have bac1 := bA 1 _ rfl
          have bac2 := bA 2 _ rfl
          have bac3 := bA 3 _ rfl
          have bbc0 := bB 0 _ rfl
          have bbc1 := bB 1 _ rfl
          have bbc2 := bB 2 _ rfl
          have bbc3 := bB 3 _ rfl
          have HB2 := hide (HB1.out.trans (hb2.mono (by omega)))
          clear hb2 HB1
          go_wp2_with fail
          refine (covers_is HP.out HA.out.a HC3.out).mono ?_
          rintro e w3 ⟨rfl, hb3⟩
          clear bac0 bac1 bac2 bac3 bbc0 bbc1 bbc2 bbc3
          have hs3 := hb3.size
          replace bA := bA.below hb3 (by omega)
          replace bB := bB.below hb3 (by omega)
          have bac0 := bA 0 _ rfl
          have bac1 := bA 1 _ rfl
          have bac2 := bA 2 _ rfl
          have bac3 := bA 3 _ rfl
          have bbc0 := bB 0 _ rfl
          have bbc1 := bB 1 _ rfl
          have bbc2 := bB 2 _ rfl
          have bbc3 := bB 3 _ rfl
          have HB3 := hide (HB2.out.trans (hb3.mono (by omega)))
          clear hb3 HB2
          go_wp2_with fail
          refine (covers_is HP.out HA.out.b HC4.out).mono ?_
          rintro e w4 ⟨rfl, hb4⟩
          clear bac0 bac1 bac2 bac3 bbc0 bbc1 bbc2 bbc3
          have hs4 := hb4.size
          replace bA := bA.below hb4 (by omega)
          replace bB := bB.below hb4 (by omega)
          have bac0 := bA 0 _ rfl
          have bac1 := bA 1 _ rfl
          have bac2 := bA 2 _ rfl
          have bac3 := bA 3 _ rfl
          have bbc0 := bB 0 _ rfl
          have bbc1 := bB 1 _ rfl
          have bbc2 := bB 2 _ rfl
          have bbc3 := bB 3 _ rfl
          have HB4 := hide (HB3.out.trans (hb4.mono (by omega)))
          clear hb4 HB3
          go_wp2_with fail
          go_ret
          exact ⟨ret_bool HV.out, HB4.out⟩
      · have HV := hide (mt_cv HC1.out HC2.out HC3.out HC4.out HR.out (by simp))
        go_enter Tryz.func60, Tryz.ntmps60
        go_wp2_with fail
        obtain ⟨W0, hW0⟩ : ∃ W0 : World, W0 = ((w.alloc (.cells #[.int .i64 ax, .int .i64 ay, .int .i64 bx, .int .i64 cy] 70)).alloc (.cells #[.int .i64 px, .int .i64 py, .int .i64 qx, .int .i64 qy] 70)) := ⟨_, rfl⟩
        rw [← hW0]
        have bA : Box W0 w.heap.size [.int .i64 ax, .int .i64 ay, .int .i64 bx, .int .i64 cy] := by rw [hW0]; exact (box_at _ _ _ _ (by simp)).alloc (by simp) _
        have bB : Box W0 (w.heap.size + 1) [.int .i64 px, .int .i64 py, .int .i64 qx, .int .i64 qy] := by rw [hW0]; exact box_at _ _ _ _ (by simp)
        have HB0 := hide (show Below w.heap.size w W0 by rw [hW0]; exact ((Below.refl _ _).alloc (Nat.le_refl _) _).alloc (by simp) _)
        have hs0 : w.heap.size + 2 ≤ W0.heap.size := by rw [hW0]; simp
        clear hW0
        have bac0 := bA 0 _ rfl
        have bac1 := bA 1 _ rfl
        have bac2 := bA 2 _ rfl
        have bac3 := bA 3 _ rfl
        have bbc0 := bB 0 _ rfl
        have bbc1 := bB 1 _ rfl
        have bbc2 := bB 2 _ rfl
        have bbc3 := bB 3 _ rfl
        go_wp2_with fail
        refine (covers_is HA.out HP.out.a HC1.out).mono ?_
        rintro e w1 ⟨rfl, hb1⟩
        clear bac0 bac1 bac2 bac3 bbc0 bbc1 bbc2 bbc3
        have hs1 := hb1.size
        replace bA := bA.below hb1 (by omega)
        replace bB := bB.below hb1 (by omega)
        have bac0 := bA 0 _ rfl
        have bac1 := bA 1 _ rfl
        have bac2 := bA 2 _ rfl
        have bac3 := bA 3 _ rfl
        have bbc0 := bB 0 _ rfl
        have bbc1 := bB 1 _ rfl
        have bbc2 := bB 2 _ rfl
        have bbc3 := bB 3 _ rfl
        have HB1 := hide (HB0.out.trans (hb1.mono (by omega)))
        clear hb1 HB0
        go_wp2_with fail
        refine (covers_is HA.out HP.out.b HC2.out).mono ?_
        rintro e w2 ⟨rfl, hb2⟩
        clear bac0 bac1 bac2 bac3 bbc0 bbc1 bbc2 bbc3
        have hs2 := hb2.size
        replace bA := bA.below hb2 (by omega)
        replace bB := bB.below hb2 (by omega)
        have bac0 := bA 0 _ rfl
        have bac1 := bA 1 _ rfl
        have bac2 := bA 2 _ rfl
        have bac3 := bA 3 _ rfl
        have bbc0 := bB 0 _ rfl
        have bbc1 := bB 1 _ rfl
        have bbc2 := bB 2 _ rfl
        have bbc3 := bB 3 _ rfl
        have HB2 := hide (HB1.out.trans (hb2.mono (by omega)))
        clear hb2 HB1
        go_wp2_with fail
        refine (covers_is HP.out HA.out.a HC3.out).mono ?_
        rintro e w3 ⟨rfl, hb3⟩
        clear bac0 bac1 bac2 bac3 bbc0 bbc1 bbc2 bbc3
        have hs3 := hb3.size
        replace bA := bA.below hb3 (by omega)
        replace bB := bB.below hb3 (by omega)
        have bac0 := bA 0 _ rfl
        have bac1 := bA 1 _ rfl
        have bac2 := bA 2 _ rfl
        have bac3 := bA 3 _ rfl
        have bbc0 := bB 0 _ rfl
        have bbc1 := bB 1 _ rfl
        have bbc2 := bB 2 _ rfl
        have bbc3 := bB 3 _ rfl
        have HB3 := hide (HB2.out.trans (hb3.mono (by omega)))
        clear hb3 HB2
        go_wp2_with fail
        go_ret
        exact ⟨ret_bool HV.out, HB3.out⟩
    · have HV := hide (mt_cv HC1.out HC2.out HC3.out HC4.out HR.out (by simp))
      go_enter Tryz.func60, Tryz.ntmps60
      go_wp2_with fail
      obtain ⟨W0, hW0⟩ : ∃ W0 : World, W0 = ((w.alloc (.cells #[.int .i64 ax, .int .i64 ay, .int .i64 bx, .int .i64 cy] 70)).alloc (.cells #[.int .i64 px, .int .i64 py, .int .i64 qx, .int .i64 qy] 70)) := ⟨_, rfl⟩
      rw [← hW0]
      have bA : Box W0 w.heap.size [.int .i64 ax, .int .i64 ay, .int .i64 bx, .int .i64 cy] := by rw [hW0]; exact (box_at _ _ _ _ (by simp)).alloc (by simp) _
      have bB : Box W0 (w.heap.size + 1) [.int .i64 px, .int .i64 py, .int .i64 qx, .int .i64 qy] := by rw [hW0]; exact box_at _ _ _ _ (by simp)
      have HB0 := hide (show Below w.heap.size w W0 by rw [hW0]; exact ((Below.refl _ _).alloc (Nat.le_refl _) _).alloc (by simp) _)
      have hs0 : w.heap.size + 2 ≤ W0.heap.size := by rw [hW0]; simp
      clear hW0
      have bac0 := bA 0 _ rfl
      have bac1 := bA 1 _ rfl
      have bac2 := bA 2 _ rfl
      have bac3 := bA 3 _ rfl
      have bbc0 := bB 0 _ rfl
      have bbc1 := bB 1 _ rfl
      have bbc2 := bB 2 _ rfl
      have bbc3 := bB 3 _ rfl
      go_wp2_with fail
      refine (covers_is HA.out HP.out.a HC1.out).mono ?_
      rintro e w1 ⟨rfl, hb1⟩
      clear bac0 bac1 bac2 bac3 bbc0 bbc1 bbc2 bbc3
      have hs1 := hb1.size
      replace bA := bA.below hb1 (by omega)
      replace bB := bB.below hb1 (by omega)
      have bac0 := bA 0 _ rfl
      have bac1 := bA 1 _ rfl
      have bac2 := bA 2 _ rfl
      have bac3 := bA 3 _ rfl
      have bbc0 := bB 0 _ rfl
      have bbc1 := bB 1 _ rfl
      have bbc2 := bB 2 _ rfl
      have bbc3 := bB 3 _ rfl
      have HB1 := hide (HB0.out.trans (hb1.mono (by omega)))
      clear hb1 HB0
      go_wp2_with fail
      refine (covers_is HA.out HP.out.b HC2.out).mono ?_
      rintro e w2 ⟨rfl, hb2⟩
      clear bac0 bac1 bac2 bac3 bbc0 bbc1 bbc2 bbc3
      have hs2 := hb2.size
      replace bA := bA.below hb2 (by omega)
      replace bB := bB.below hb2 (by omega)
      have bac0 := bA 0 _ rfl
      have bac1 := bA 1 _ rfl
      have bac2 := bA 2 _ rfl
      have bac3 := bA 3 _ rfl
      have bbc0 := bB 0 _ rfl
      have bbc1 := bB 1 _ rfl
      have bbc2 := bB 2 _ rfl
      have bbc3 := bB 3 _ rfl
      have HB2 := hide (HB1.out.trans (hb2.mono (by omega)))
      clear hb2 HB1
      go_wp2_with fail
      go_ret
      exact ⟨ret_bool HV.out, HB2.out⟩
  · have HV := hide (mt_cv HC1.out HC2.out HC3.out HC4.out HR.out (by simp))
    go_enter Tryz.func60, Tryz.ntmps60
    go_wp2_with fail
    obtain ⟨W0, hW0⟩ : ∃ W0 : World, W0 = ((w.alloc (.cells #[.int .i64 ax, .int .i64 ay, .int .i64 bx, .int .i64 cy] 70)).alloc (.cells #[.int .i64 px, .int .i64 py, .int .i64 qx, .int .i64 qy] 70)) := ⟨_, rfl⟩
    rw [← hW0]
    have bA : Box W0 w.heap.size [.int .i64 ax, .int .i64 ay, .int .i64 bx, .int .i64 cy] := by rw [hW0]; exact (box_at _ _ _ _ (by simp)).alloc (by simp) _
    have bB : Box W0 (w.heap.size + 1) [.int .i64 px, .int .i64 py, .int .i64 qx, .int .i64 qy] := by rw [hW0]; exact box_at _ _ _ _ (by simp)
    have HB0 := hide (show Below w.heap.size w W0 by rw [hW0]; exact ((Below.refl _ _).alloc (Nat.le_refl _) _).alloc (by simp) _)
    have hs0 : w.heap.size + 2 ≤ W0.heap.size := by rw [hW0]; simp
    clear hW0
    have bac0 := bA 0 _ rfl
    have bac1 := bA 1 _ rfl
    have bac2 := bA 2 _ rfl
    have bac3 := bA 3 _ rfl
    have bbc0 := bB 0 _ rfl
    have bbc1 := bB 1 _ rfl
    have bbc2 := bB 2 _ rfl
    have bbc3 := bB 3 _ rfl
    go_wp2_with fail
    refine (covers_is HA.out HP.out.a HC1.out).mono ?_
    rintro e w1 ⟨rfl, hb1⟩
    clear bac0 bac1 bac2 bac3 bbc0 bbc1 bbc2 bbc3
    have hs1 := hb1.size
    replace bA := bA.below hb1 (by omega)
    replace bB := bB.below hb1 (by omega)
    have bac0 := bA 0 _ rfl
    have bac1 := bA 1 _ rfl
    have bac2 := bA 2 _ rfl
    have bac3 := bA 3 _ rfl
    have bbc0 := bB 0 _ rfl
    have bbc1 := bB 1 _ rfl
    have bbc2 := bB 2 _ rfl
    have bbc3 := bB 3 _ rfl
    have HB1 := hide (HB0.out.trans (hb1.mono (by omega)))
    clear hb1 HB0
    go_wp2_with fail
    go_ret
    exact ⟨ret_bool HV.out, HB1.out⟩


end Go.Proofs.YtajjophmngabbaaGreatDoor
