/-
  GEOMETRY of the program, exactly: sides, signs, whether segments meet. No condition but those that each theorem names.
-/
import Derived.Test.YtajjophmngabbaaGreatDoorGi1
import Derived.Test.YtajjophmngabbaaGreatDoorSite
import Derived.IntWalk
import Derived.BigQuiet
import Derived.Deep.RegionHeld3
namespace Go.Proofs.YtajjophmngabbaaGreatDoor
open Go.RowKit
set_option linter.unusedVariables false
set_option linter.unusedSimpArgs false

set_option maxRecDepth 100000 in
set_option maxHeartbeats 2000000 in
theorem side_is {ax ay bx cy px py c : Int} (h : CoS ax ay bx cy) (h' : CoP px py) (hc : crI ax ay bx cy px py = c) {w : World} :
    Calls Tryz.prog 82 #[.agg #[.int .i64 ax, .int .i64 ay], .agg #[.int .i64 bx, .int .i64 cy], .agg #[.int .i64 px, .int .i64 py]] w fun e w' => e = .returned (.int .i64 c) ∧ Below w.heap.size w w' := by
  subst hc
  obtain ⟨⟨a1, a2⟩, ⟨b1, b2⟩, ⟨c1, c2⟩, ⟨d1, d2⟩⟩ := h
  obtain ⟨⟨e1, e2⟩, ⟨f1, f2⟩⟩ := h'
  obtain ⟨p1, p2⟩ := mul_fit (u := bx - ax) (v := py - ay) (by omega) (by omega)
  obtain ⟨q1, q2⟩ := mul_fit (u := cy - ay) (v := px - ax) (by omega) (by omega)
  unfold crI
  go_enter Tryz.func82, Tryz.ntmps82
  go_wp2_with fail
  try go_quiet (fail)
  try go_wp2_with fail
  go_ret
  exact ⟨ret_int (by first | rfl | omega), by first | exact ((((Below.refl _ _).alloc (Nat.le_refl _) _).alloc (by simp) _).alloc (by simp; try omega) _) | exact ((((Below.refl _ _).alloc (Nat.le_refl _) _).alloc (by simp) _).alloc (by simp; try omega) _).trans (Joins.below_draws _ _ _)⟩

set_option maxRecDepth 100000 in
set_option maxHeartbeats 2000000 in
theorem square_c {ax ay px py c : Int} (h : CoP ax ay) (h' : CoP px py) (hc : sqD ax ay px py = c) {w : World} :
    Calls Tryz.prog 78 #[.agg #[.int .i64 ax, .int .i64 ay], .agg #[.int .i64 px, .int .i64 py]] w fun e w' => e = .returned (.int .i64 c) ∧ Below w.heap.size w w' := by
  subst hc
  obtain ⟨⟨a1, a2⟩, ⟨b1, b2⟩⟩ := h
  obtain ⟨⟨e1, e2⟩, ⟨f1, f2⟩⟩ := h'
  obtain ⟨p1, p2⟩ := mul_fit (u := ax - px) (v := ax - px) (by omega) (by omega)
  obtain ⟨q1, q2⟩ := mul_fit (u := ay - py) (v := ay - py) (by omega) (by omega)
  unfold sqD
  go_enter Tryz.func78, Tryz.ntmps78
  go_wp2_with fail
  go_quiet (fail)
  go_wp2_with fail
  go_ret
  exact ⟨ret_int (by first | rfl | omega), (((Below.refl _ _).alloc (Nat.le_refl _) _).alloc (by simp) _).trans (Joins.below_draws _ _ _)⟩

set_option maxRecDepth 100000 in
set_option maxHeartbeats 2000000 in
theorem sign_is {n s : Int} (hc : sgI n = s) {w : World} : Calls Tryz.prog 81 #[.int .i64 n] w fun e w' => e = .returned (.int .i64 s) ∧ w' = w := by
  have HS := hide (show cmI n 0 = s by rw [cmI_sg]; exact hc)
  clear hc
  go_enter Tryz.func81, Tryz.ntmps81
  go_wp2_with fail
  refine (compare_int64 _ _ _).mono ?_
  rintro e w1 ⟨rfl, hw⟩
  obtain rfl := hw.symm
  go_wp2_with fail
  go_ret
  exact ⟨ret_int HS.out, rfl⟩

theorem mm_lt {a b : Int} (h : a < b) : mnI a b = a ∧ mxI a b = b := by simp [mnI, mxI, h, show ¬ b < a by omega]
theorem mm_eq (a : Int) : mnI a a = a ∧ mxI a a = a := by simp [mnI, mxI]
theorem mm_gt {a b : Int} (h : b < a) : mnI a b = b ∧ mxI a b = a := by simp [mnI, mxI, h, show ¬ a < b by omega]
theorem cv_no {ax ay bx cy px py c : Int} {b : Bool} (hc : crI ax ay bx cy px py = c) (hz : ¬ c = 0) (hb : cvB ax ay bx cy px py = b) : false = b := by
  rw [← hb]; unfold cvB; rw [hc, show (c == 0) = false by simpa using hz]; rfl
theorem cv_yes {ax ay bx cy px py : Int} {b : Bool} (hc : crI ax ay bx cy px py = 0) (hb : cvB ax ay bx cy px py = b) : (inR px (mnI ax bx) (mxI ax bx) && inR py (mnI ay cy) (mxI ay cy)) = b := by
  rw [← hb]; unfold cvB; rw [hc]; rfl

set_option maxRecDepth 100000 in
set_option maxHeartbeats 2000000 in
theorem covers_is {ax ay bx cy px py : Int} {b : Bool} (hA : CoS ax ay bx cy) (hP : CoP px py) (hb : cvB ax ay bx cy px py = b) {w : World} :
    Calls Tryz.prog 80 #[.agg #[.int .i64 ax, .int .i64 ay, .int .i64 bx, .int .i64 cy], .agg #[.int .i64 px, .int .i64 py]] w fun e w' => e = .returned (.bool b) ∧ Below w.heap.size w w' := by
  have HA := hide hA
  have HP := hide hP
  obtain ⟨c, hcr⟩ : ∃ c, crI ax ay bx cy px py = c := ⟨_, rfl⟩
  have HCR := hide hcr
  have HBB := hide hb
  clear hA hP hcr hb
  by_cases hz : c = 0
  · subst hz
    have hv := cv_yes HCR.out HBB.out
    clear HBB
    rcases (show ax < bx ∨ ax = bx ∨ bx < ax by omega) with hx | hx | hx
    · rcases (show ay < cy ∨ ay = cy ∨ cy < ay by omega) with hy | hy | hy
      · have k1 := mm_lt hx
        have k2 := mm_lt hy
        rw [k1.1, k1.2, k2.1, k2.2] at hv
        obtain ⟨r1, hr1⟩ : ∃ r, inR px ax bx = r := ⟨_, rfl⟩
        obtain ⟨r2, hr2⟩ : ∃ r, inR py ay cy = r := ⟨_, rfl⟩
        rw [hr1, hr2] at hv
        have HV := hide hv
        have HR1 := hide hr1
        have HR2 := hide hr2
        clear hv hr1 hr2 k1 k2
        go_enter Tryz.func80, Tryz.ntmps80
        go_wp2_with fail
        obtain ⟨W0, hW0⟩ : ∃ W0 : World, W0 = ((w.alloc (.cells #[.int .i64 ax, .int .i64 ay, .int .i64 bx, .int .i64 cy] 70)).alloc (.cells #[.int .i64 px, .int .i64 py] 42)) := ⟨_, rfl⟩
        rw [← hW0]
        have bA : Box W0 w.heap.size [.int .i64 ax, .int .i64 ay, .int .i64 bx, .int .i64 cy] := by rw [hW0]; exact (box_at _ _ _ _ (by simp)).alloc (by simp) _
        have bB : Box W0 (w.heap.size + 1) [.int .i64 px, .int .i64 py] := by rw [hW0]; exact box_at _ _ _ _ (by simp)
        have HB0 := hide (show Below w.heap.size w W0 by rw [hW0]; exact ((Below.refl _ _).alloc (Nat.le_refl _) _).alloc (by simp) _)
        have hs0 : w.heap.size + 2 ≤ W0.heap.size := by rw [hW0]; simp
        clear hW0
        have bac0 := bA 0 _ rfl
        have bac1 := bA 1 _ rfl
        have bac2 := bA 2 _ rfl
        have bac3 := bA 3 _ rfl
        have bbc0 := bB 0 _ rfl
        have bbc1 := bB 1 _ rfl
        go_wp2_with fail
        refine (side_is HA.out HP.out HCR.out).mono ?_
        rintro e w1 ⟨rfl, hb1⟩
        clear bac0 bac1 bac2 bac3 bbc0 bbc1
        have hs1 := hb1.size
        replace bA := bA.below hb1 (by omega)
        replace bB := bB.below hb1 (by omega)
        have bac0 := bA 0 _ rfl
        have bac1 := bA 1 _ rfl
        have bac2 := bA 2 _ rfl
        have bac3 := bA 3 _ rfl
        have bbc0 := bB 0 _ rfl
        have bbc1 := bB 1 _ rfl
        have HB1 := hide (HB0.out.trans (hb1.mono (by omega)))
        clear hb1 HB0
        cases r1
        · go_wp2_with fail
          refine (within_is HR1.out).mono ?_
          rintro e w2 ⟨rfl, hw⟩
          obtain rfl := hw.symm
          go_wp2_with fail
          go_ret
          exact ⟨ret_bool HV.out, HB1.out⟩
        · go_wp2_with fail
          refine (within_is HR1.out).mono ?_
          rintro e w2 ⟨rfl, hw⟩
          obtain rfl := hw.symm
          go_wp2_with fail
          refine (within_is HR2.out).mono ?_
          rintro e w2 ⟨rfl, hw⟩
          obtain rfl := hw.symm
          go_wp2_with fail
          go_ret
          exact ⟨ret_bool HV.out, HB1.out⟩
      · have k1 := mm_lt hx
        subst hy
        have k2 := mm_eq ay
        rw [k1.1, k1.2, k2.1, k2.2] at hv
        obtain ⟨r1, hr1⟩ : ∃ r, inR px ax bx = r := ⟨_, rfl⟩
        obtain ⟨r2, hr2⟩ : ∃ r, inR py ay ay = r := ⟨_, rfl⟩
        rw [hr1, hr2] at hv
        have HV := hide hv
        have HR1 := hide hr1
        have HR2 := hide hr2
        clear hv hr1 hr2 k1 k2
        go_enter Tryz.func80, Tryz.ntmps80
        go_wp2_with fail
        obtain ⟨W0, hW0⟩ : ∃ W0 : World, W0 = ((w.alloc (.cells #[.int .i64 ax, .int .i64 ay, .int .i64 bx, .int .i64 ay] 70)).alloc (.cells #[.int .i64 px, .int .i64 py] 42)) := ⟨_, rfl⟩
        rw [← hW0]
        have bA : Box W0 w.heap.size [.int .i64 ax, .int .i64 ay, .int .i64 bx, .int .i64 ay] := by rw [hW0]; exact (box_at _ _ _ _ (by simp)).alloc (by simp) _
        have bB : Box W0 (w.heap.size + 1) [.int .i64 px, .int .i64 py] := by rw [hW0]; exact box_at _ _ _ _ (by simp)
        have HB0 := hide (show Below w.heap.size w W0 by rw [hW0]; exact ((Below.refl _ _).alloc (Nat.le_refl _) _).alloc (by simp) _)
        have hs0 : w.heap.size + 2 ≤ W0.heap.size := by rw [hW0]; simp
        clear hW0
        have bac0 := bA 0 _ rfl
        have bac1 := bA 1 _ rfl
        have bac2 := bA 2 _ rfl
        have bac3 := bA 3 _ rfl
        have bbc0 := bB 0 _ rfl
        have bbc1 := bB 1 _ rfl
        go_wp2_with fail
        refine (side_is HA.out HP.out HCR.out).mono ?_
        rintro e w1 ⟨rfl, hb1⟩
        clear bac0 bac1 bac2 bac3 bbc0 bbc1
        have hs1 := hb1.size
        replace bA := bA.below hb1 (by omega)
        replace bB := bB.below hb1 (by omega)
        have bac0 := bA 0 _ rfl
        have bac1 := bA 1 _ rfl
        have bac2 := bA 2 _ rfl
        have bac3 := bA 3 _ rfl
        have bbc0 := bB 0 _ rfl
        have bbc1 := bB 1 _ rfl
        have HB1 := hide (HB0.out.trans (hb1.mono (by omega)))
        clear hb1 HB0
        cases r1
        · go_wp2_with fail
          refine (within_is HR1.out).mono ?_
          rintro e w2 ⟨rfl, hw⟩
          obtain rfl := hw.symm
          go_wp2_with fail
          go_ret
          exact ⟨ret_bool HV.out, HB1.out⟩
        · go_wp2_with fail
          refine (within_is HR1.out).mono ?_
          rintro e w2 ⟨rfl, hw⟩
          obtain rfl := hw.symm
          go_wp2_with fail
          refine (within_is HR2.out).mono ?_
          rintro e w2 ⟨rfl, hw⟩
          obtain rfl := hw.symm
          go_wp2_with fail
          go_ret
          exact ⟨ret_bool HV.out, HB1.out⟩
      · have k1 := mm_lt hx
        have k2 := mm_gt hy
        rw [k1.1, k1.2, k2.1, k2.2] at hv
        obtain ⟨r1, hr1⟩ : ∃ r, inR px ax bx = r := ⟨_, rfl⟩
        obtain ⟨r2, hr2⟩ : ∃ r, inR py cy ay = r := ⟨_, rfl⟩
        rw [hr1, hr2] at hv
        have HV := hide hv
        have HR1 := hide hr1
        have HR2 := hide hr2
        clear hv hr1 hr2 k1 k2
        go_enter Tryz.func80, Tryz.ntmps80
        go_wp2_with fail
        obtain ⟨W0, hW0⟩ : ∃ W0 : World, W0 = ((w.alloc (.cells #[.int .i64 ax, .int .i64 ay, .int .i64 bx, .int .i64 cy] 70)).alloc (.cells #[.int .i64 px, .int .i64 py] 42)) := ⟨_, rfl⟩
        rw [← hW0]
        have bA : Box W0 w.heap.size [.int .i64 ax, .int .i64 ay, .int .i64 bx, .int .i64 cy] := by rw [hW0]; exact (box_at _ _ _ _ (by simp)).alloc (by simp) _
        have bB : Box W0 (w.heap.size + 1) [.int .i64 px, .int .i64 py] := by rw [hW0]; exact box_at _ _ _ _ (by simp)
        have HB0 := hide (show Below w.heap.size w W0 by rw [hW0]; exact ((Below.refl _ _).alloc (Nat.le_refl _) _).alloc (by simp) _)
        have hs0 : w.heap.size + 2 ≤ W0.heap.size := by rw [hW0]; simp
        clear hW0
        have bac0 := bA 0 _ rfl
        have bac1 := bA 1 _ rfl
        have bac2 := bA 2 _ rfl
        have bac3 := bA 3 _ rfl
        have bbc0 := bB 0 _ rfl
        have bbc1 := bB 1 _ rfl
        go_wp2_with fail
        refine (side_is HA.out HP.out HCR.out).mono ?_
        rintro e w1 ⟨rfl, hb1⟩
        clear bac0 bac1 bac2 bac3 bbc0 bbc1
        have hs1 := hb1.size
        replace bA := bA.below hb1 (by omega)
        replace bB := bB.below hb1 (by omega)
        have bac0 := bA 0 _ rfl
        have bac1 := bA 1 _ rfl
        have bac2 := bA 2 _ rfl
        have bac3 := bA 3 _ rfl
        have bbc0 := bB 0 _ rfl
        have bbc1 := bB 1 _ rfl
        have HB1 := hide (HB0.out.trans (hb1.mono (by omega)))
        clear hb1 HB0
        cases r1
        · go_wp2_with fail
          refine (within_is HR1.out).mono ?_
          rintro e w2 ⟨rfl, hw⟩
          obtain rfl := hw.symm
          go_wp2_with fail
          go_ret
          exact ⟨ret_bool HV.out, HB1.out⟩
        · go_wp2_with fail
          refine (within_is HR1.out).mono ?_
          rintro e w2 ⟨rfl, hw⟩
          obtain rfl := hw.symm
          go_wp2_with fail
          refine (within_is HR2.out).mono ?_
          rintro e w2 ⟨rfl, hw⟩
          obtain rfl := hw.symm
          go_wp2_with fail
          go_ret
          exact ⟨ret_bool HV.out, HB1.out⟩
    · rcases (show ay < cy ∨ ay = cy ∨ cy < ay by omega) with hy | hy | hy
      · subst hx
        have k1 := mm_eq ax
        have k2 := mm_lt hy
        rw [k1.1, k1.2, k2.1, k2.2] at hv
        obtain ⟨r1, hr1⟩ : ∃ r, inR px ax ax = r := ⟨_, rfl⟩
        obtain ⟨r2, hr2⟩ : ∃ r, inR py ay cy = r := ⟨_, rfl⟩
        rw [hr1, hr2] at hv
        have HV := hide hv
        have HR1 := hide hr1
        have HR2 := hide hr2
        clear hv hr1 hr2 k1 k2
        go_enter Tryz.func80, Tryz.ntmps80
        go_wp2_with fail
        obtain ⟨W0, hW0⟩ : ∃ W0 : World, W0 = ((w.alloc (.cells #[.int .i64 ax, .int .i64 ay, .int .i64 ax, .int .i64 cy] 70)).alloc (.cells #[.int .i64 px, .int .i64 py] 42)) := ⟨_, rfl⟩
        rw [← hW0]
        have bA : Box W0 w.heap.size [.int .i64 ax, .int .i64 ay, .int .i64 ax, .int .i64 cy] := by rw [hW0]; exact (box_at _ _ _ _ (by simp)).alloc (by simp) _
        have bB : Box W0 (w.heap.size + 1) [.int .i64 px, .int .i64 py] := by rw [hW0]; exact box_at _ _ _ _ (by simp)
        have HB0 := hide (show Below w.heap.size w W0 by rw [hW0]; exact ((Below.refl _ _).alloc (Nat.le_refl _) _).alloc (by simp) _)
        have hs0 : w.heap.size + 2 ≤ W0.heap.size := by rw [hW0]; simp
        clear hW0
        have bac0 := bA 0 _ rfl
        have bac1 := bA 1 _ rfl
        have bac2 := bA 2 _ rfl
        have bac3 := bA 3 _ rfl
        have bbc0 := bB 0 _ rfl
        have bbc1 := bB 1 _ rfl
        go_wp2_with fail
        refine (side_is HA.out HP.out HCR.out).mono ?_
        rintro e w1 ⟨rfl, hb1⟩
        clear bac0 bac1 bac2 bac3 bbc0 bbc1
        have hs1 := hb1.size
        replace bA := bA.below hb1 (by omega)
        replace bB := bB.below hb1 (by omega)
        have bac0 := bA 0 _ rfl
        have bac1 := bA 1 _ rfl
        have bac2 := bA 2 _ rfl
        have bac3 := bA 3 _ rfl
        have bbc0 := bB 0 _ rfl
        have bbc1 := bB 1 _ rfl
        have HB1 := hide (HB0.out.trans (hb1.mono (by omega)))
        clear hb1 HB0
        cases r1
        · go_wp2_with fail
          refine (within_is HR1.out).mono ?_
          rintro e w2 ⟨rfl, hw⟩
          obtain rfl := hw.symm
          go_wp2_with fail
          go_ret
          exact ⟨ret_bool HV.out, HB1.out⟩
        · go_wp2_with fail
          refine (within_is HR1.out).mono ?_
          rintro e w2 ⟨rfl, hw⟩
          obtain rfl := hw.symm
          go_wp2_with fail
          refine (within_is HR2.out).mono ?_
          rintro e w2 ⟨rfl, hw⟩
          obtain rfl := hw.symm
          go_wp2_with fail
          go_ret
          exact ⟨ret_bool HV.out, HB1.out⟩
      · subst hx
        have k1 := mm_eq ax
        subst hy
        have k2 := mm_eq ay
        rw [k1.1, k1.2, k2.1, k2.2] at hv
        obtain ⟨r1, hr1⟩ : ∃ r, inR px ax ax = r := ⟨_, rfl⟩
        obtain ⟨r2, hr2⟩ : ∃ r, inR py ay ay = r := ⟨_, rfl⟩
        rw [hr1, hr2] at hv
        have HV := hide hv
        have HR1 := hide hr1
        have HR2 := hide hr2
        clear hv hr1 hr2 k1 k2
        go_enter Tryz.func80, Tryz.ntmps80
        go_wp2_with fail
        obtain ⟨W0, hW0⟩ : ∃ W0 : World, W0 = ((w.alloc (.cells #[.int .i64 ax, .int .i64 ay, .int .i64 ax, .int .i64 ay] 70)).alloc (.cells #[.int .i64 px, .int .i64 py] 42)) := ⟨_, rfl⟩
        rw [← hW0]
        have bA : Box W0 w.heap.size [.int .i64 ax, .int .i64 ay, .int .i64 ax, .int .i64 ay] := by rw [hW0]; exact (box_at _ _ _ _ (by simp)).alloc (by simp) _
        have bB : Box W0 (w.heap.size + 1) [.int .i64 px, .int .i64 py] := by rw [hW0]; exact box_at _ _ _ _ (by simp)
        have HB0 := hide (show Below w.heap.size w W0 by rw [hW0]; exact ((Below.refl _ _).alloc (Nat.le_refl _) _).alloc (by simp) _)
        have hs0 : w.heap.size + 2 ≤ W0.heap.size := by rw [hW0]; simp
        clear hW0
        have bac0 := bA 0 _ rfl
        have bac1 := bA 1 _ rfl
        have bac2 := bA 2 _ rfl
        have bac3 := bA 3 _ rfl
        have bbc0 := bB 0 _ rfl
        have bbc1 := bB 1 _ rfl
        go_wp2_with fail
        refine (side_is HA.out HP.out HCR.out).mono ?_
        rintro e w1 ⟨rfl, hb1⟩
        clear bac0 bac1 bac2 bac3 bbc0 bbc1
        have hs1 := hb1.size
        replace bA := bA.below hb1 (by omega)
        replace bB := bB.below hb1 (by omega)
        have bac0 := bA 0 _ rfl
        have bac1 := bA 1 _ rfl
        have bac2 := bA 2 _ rfl
        have bac3 := bA 3 _ rfl
        have bbc0 := bB 0 _ rfl
        have bbc1 := bB 1 _ rfl
        have HB1 := hide (HB0.out.trans (hb1.mono (by omega)))
        clear hb1 HB0
        cases r1
        · go_wp2_with fail
          refine (within_is HR1.out).mono ?_
          rintro e w2 ⟨rfl, hw⟩
          obtain rfl := hw.symm
          go_wp2_with fail
          go_ret
          exact ⟨ret_bool HV.out, HB1.out⟩
        · go_wp2_with fail
          refine (within_is HR1.out).mono ?_
          rintro e w2 ⟨rfl, hw⟩
          obtain rfl := hw.symm
          go_wp2_with fail
          refine (within_is HR2.out).mono ?_
          rintro e w2 ⟨rfl, hw⟩
          obtain rfl := hw.symm
          go_wp2_with fail
          go_ret
          exact ⟨ret_bool HV.out, HB1.out⟩
      · subst hx
        have k1 := mm_eq ax
        have k2 := mm_gt hy
        rw [k1.1, k1.2, k2.1, k2.2] at hv
        obtain ⟨r1, hr1⟩ : ∃ r, inR px ax ax = r := ⟨_, rfl⟩
        obtain ⟨r2, hr2⟩ : ∃ r, inR py cy ay = r := ⟨_, rfl⟩
        rw [hr1, hr2] at hv
        have HV := hide hv
        have HR1 := hide hr1
        have HR2 := hide hr2
        clear hv hr1 hr2 k1 k2
        go_enter Tryz.func80, Tryz.ntmps80
        go_wp2_with fail
        obtain ⟨W0, hW0⟩ : ∃ W0 : World, W0 = ((w.alloc (.cells #[.int .i64 ax, .int .i64 ay, .int .i64 ax, .int .i64 cy] 70)).alloc (.cells #[.int .i64 px, .int .i64 py] 42)) := ⟨_, rfl⟩
        rw [← hW0]
        have bA : Box W0 w.heap.size [.int .i64 ax, .int .i64 ay, .int .i64 ax, .int .i64 cy] := by rw [hW0]; exact (box_at _ _ _ _ (by simp)).alloc (by simp) _
        have bB : Box W0 (w.heap.size + 1) [.int .i64 px, .int .i64 py] := by rw [hW0]; exact box_at _ _ _ _ (by simp)
        have HB0 := hide (show Below w.heap.size w W0 by rw [hW0]; exact ((Below.refl _ _).alloc (Nat.le_refl _) _).alloc (by simp) _)
        have hs0 : w.heap.size + 2 ≤ W0.heap.size := by rw [hW0]; simp
        clear hW0
        have bac0 := bA 0 _ rfl
        have bac1 := bA 1 _ rfl
        have bac2 := bA 2 _ rfl
        have bac3 := bA 3 _ rfl
        have bbc0 := bB 0 _ rfl
        have bbc1 := bB 1 _ rfl
        go_wp2_with fail
        refine (side_is HA.out HP.out HCR.out).mono ?_
        rintro e w1 ⟨rfl, hb1⟩
        clear bac0 bac1 bac2 bac3 bbc0 bbc1
        have hs1 := hb1.size
        replace bA := bA.below hb1 (by omega)
        replace bB := bB.below hb1 (by omega)
        have bac0 := bA 0 _ rfl
        have bac1 := bA 1 _ rfl
        have bac2 := bA 2 _ rfl
        have bac3 := bA 3 _ rfl
        have bbc0 := bB 0 _ rfl
        have bbc1 := bB 1 _ rfl
        have HB1 := hide (HB0.out.trans (hb1.mono (by omega)))
        clear hb1 HB0
        cases r1
        · go_wp2_with fail
          refine (within_is HR1.out).mono ?_
          rintro e w2 ⟨rfl, hw⟩
          obtain rfl := hw.symm
          go_wp2_with fail
          go_ret
          exact ⟨ret_bool HV.out, HB1.out⟩
        · go_wp2_with fail
          refine (within_is HR1.out).mono ?_
          rintro e w2 ⟨rfl, hw⟩
          obtain rfl := hw.symm
          go_wp2_with fail
          refine (within_is HR2.out).mono ?_
          rintro e w2 ⟨rfl, hw⟩
          obtain rfl := hw.symm
          go_wp2_with fail
          go_ret
          exact ⟨ret_bool HV.out, HB1.out⟩
    · rcases (show ay < cy ∨ ay = cy ∨ cy < ay by omega) with hy | hy | hy
      · have k1 := mm_gt hx
        have k2 := mm_lt hy
        rw [k1.1, k1.2, k2.1, k2.2] at hv
        obtain ⟨r1, hr1⟩ : ∃ r, inR px bx ax = r := ⟨_, rfl⟩
        obtain ⟨r2, hr2⟩ : ∃ r, inR py ay cy = r := ⟨_, rfl⟩
        rw [hr1, hr2] at hv
        have HV := hide hv
        have HR1 := hide hr1
        have HR2 := hide hr2
        clear hv hr1 hr2 k1 k2
        go_enter Tryz.func80, Tryz.ntmps80
        go_wp2_with fail
        obtain ⟨W0, hW0⟩ : ∃ W0 : World, W0 = ((w.alloc (.cells #[.int .i64 ax, .int .i64 ay, .int .i64 bx, .int .i64 cy] 70)).alloc (.cells #[.int .i64 px, .int .i64 py] 42)) := ⟨_, rfl⟩
        rw [← hW0]
        have bA : Box W0 w.heap.size [.int .i64 ax, .int .i64 ay, .int .i64 bx, .int .i64 cy] := by rw [hW0]; exact (box_at _ _ _ _ (by simp)).alloc (by simp) _
        have bB : Box W0 (w.heap.size + 1) [.int .i64 px, .int .i64 py] := by rw [hW0]; exact box_at _ _ _ _ (by simp)
        have HB0 := hide (show Below w.heap.size w W0 by rw [hW0]; exact ((Below.refl _ _).alloc (Nat.le_refl _) _).alloc (by simp) _)
        have hs0 : w.heap.size + 2 ≤ W0.heap.size := by rw [hW0]; simp
        clear hW0
        have bac0 := bA 0 _ rfl
        have bac1 := bA 1 _ rfl
        have bac2 := bA 2 _ rfl
        have bac3 := bA 3 _ rfl
        have bbc0 := bB 0 _ rfl
        have bbc1 := bB 1 _ rfl
        go_wp2_with fail
        refine (side_is HA.out HP.out HCR.out).mono ?_
        rintro e w1 ⟨rfl, hb1⟩
        clear bac0 bac1 bac2 bac3 bbc0 bbc1
        have hs1 := hb1.size
        replace bA := bA.below hb1 (by omega)
        replace bB := bB.below hb1 (by omega)
        have bac0 := bA 0 _ rfl
        have bac1 := bA 1 _ rfl
        have bac2 := bA 2 _ rfl
        have bac3 := bA 3 _ rfl
        have bbc0 := bB 0 _ rfl
        have bbc1 := bB 1 _ rfl
        have HB1 := hide (HB0.out.trans (hb1.mono (by omega)))
        clear hb1 HB0
        cases r1
        · go_wp2_with fail
          refine (within_is HR1.out).mono ?_
          rintro e w2 ⟨rfl, hw⟩
          obtain rfl := hw.symm
          go_wp2_with fail
          go_ret
          exact ⟨ret_bool HV.out, HB1.out⟩
        · go_wp2_with fail
          refine (within_is HR1.out).mono ?_
          rintro e w2 ⟨rfl, hw⟩
          obtain rfl := hw.symm
          go_wp2_with fail
          refine (within_is HR2.out).mono ?_
          rintro e w2 ⟨rfl, hw⟩
          obtain rfl := hw.symm
          go_wp2_with fail
          go_ret
          exact ⟨ret_bool HV.out, HB1.out⟩
      · have k1 := mm_gt hx
        subst hy
        have k2 := mm_eq ay
        rw [k1.1, k1.2, k2.1, k2.2] at hv
        obtain ⟨r1, hr1⟩ : ∃ r, inR px bx ax = r := ⟨_, rfl⟩
        obtain ⟨r2, hr2⟩ : ∃ r, inR py ay ay = r := ⟨_, rfl⟩
        rw [hr1, hr2] at hv
        have HV := hide hv
        have HR1 := hide hr1
        have HR2 := hide hr2
        clear hv hr1 hr2 k1 k2
        go_enter Tryz.func80, Tryz.ntmps80
        go_wp2_with fail
        obtain ⟨W0, hW0⟩ : ∃ W0 : World, W0 = ((w.alloc (.cells #[.int .i64 ax, .int .i64 ay, .int .i64 bx, .int .i64 ay] 70)).alloc (.cells #[.int .i64 px, .int .i64 py] 42)) := ⟨_, rfl⟩
        rw [← hW0]
        have bA : Box W0 w.heap.size [.int .i64 ax, .int .i64 ay, .int .i64 bx, .int .i64 ay] := by rw [hW0]; exact (box_at _ _ _ _ (by simp)).alloc (by simp) _
        have bB : Box W0 (w.heap.size + 1) [.int .i64 px, .int .i64 py] := by rw [hW0]; exact box_at _ _ _ _ (by simp)
        have HB0 := hide (show Below w.heap.size w W0 by rw [hW0]; exact ((Below.refl _ _).alloc (Nat.le_refl _) _).alloc (by simp) _)
        have hs0 : w.heap.size + 2 ≤ W0.heap.size := by rw [hW0]; simp
        clear hW0
        have bac0 := bA 0 _ rfl
        have bac1 := bA 1 _ rfl
        have bac2 := bA 2 _ rfl
        have bac3 := bA 3 _ rfl
        have bbc0 := bB 0 _ rfl
        have bbc1 := bB 1 _ rfl
        go_wp2_with fail
        refine (side_is HA.out HP.out HCR.out).mono ?_
        rintro e w1 ⟨rfl, hb1⟩
        clear bac0 bac1 bac2 bac3 bbc0 bbc1
        have hs1 := hb1.size
        replace bA := bA.below hb1 (by omega)
        replace bB := bB.below hb1 (by omega)
        have bac0 := bA 0 _ rfl
        have bac1 := bA 1 _ rfl
        have bac2 := bA 2 _ rfl
        have bac3 := bA 3 _ rfl
        have bbc0 := bB 0 _ rfl
        have bbc1 := bB 1 _ rfl
        have HB1 := hide (HB0.out.trans (hb1.mono (by omega)))
        clear hb1 HB0
        cases r1
        · go_wp2_with fail
          refine (within_is HR1.out).mono ?_
          rintro e w2 ⟨rfl, hw⟩
          obtain rfl := hw.symm
          go_wp2_with fail
          go_ret
          exact ⟨ret_bool HV.out, HB1.out⟩
        · go_wp2_with fail
          refine (within_is HR1.out).mono ?_
          rintro e w2 ⟨rfl, hw⟩
          obtain rfl := hw.symm
          go_wp2_with fail
          refine (within_is HR2.out).mono ?_
          rintro e w2 ⟨rfl, hw⟩
          obtain rfl := hw.symm
          go_wp2_with fail
          go_ret
          exact ⟨ret_bool HV.out, HB1.out⟩
      · have k1 := mm_gt hx
        have k2 := mm_gt hy
        rw [k1.1, k1.2, k2.1, k2.2] at hv
        obtain ⟨r1, hr1⟩ : ∃ r, inR px bx ax = r := ⟨_, rfl⟩
        obtain ⟨r2, hr2⟩ : ∃ r, inR py cy ay = r := ⟨_, rfl⟩
        rw [hr1, hr2] at hv
        have HV := hide hv
        have HR1 := hide hr1
        have HR2 := hide hr2
        clear hv hr1 hr2 k1 k2
        go_enter Tryz.func80, Tryz.ntmps80
        go_wp2_with fail
        obtain ⟨W0, hW0⟩ : ∃ W0 : World, W0 = ((w.alloc (.cells #[.int .i64 ax, .int .i64 ay, .int .i64 bx, .int .i64 cy] 70)).alloc (.cells #[.int .i64 px, .int .i64 py] 42)) := ⟨_, rfl⟩
        rw [← hW0]
        have bA : Box W0 w.heap.size [.int .i64 ax, .int .i64 ay, .int .i64 bx, .int .i64 cy] := by rw [hW0]; exact (box_at _ _ _ _ (by simp)).alloc (by simp) _
        have bB : Box W0 (w.heap.size + 1) [.int .i64 px, .int .i64 py] := by rw [hW0]; exact box_at _ _ _ _ (by simp)
        have HB0 := hide (show Below w.heap.size w W0 by rw [hW0]; exact ((Below.refl _ _).alloc (Nat.le_refl _) _).alloc (by simp) _)
        have hs0 : w.heap.size + 2 ≤ W0.heap.size := by rw [hW0]; simp
        clear hW0
        have bac0 := bA 0 _ rfl
        have bac1 := bA 1 _ rfl
        have bac2 := bA 2 _ rfl
        have bac3 := bA 3 _ rfl
        have bbc0 := bB 0 _ rfl
        have bbc1 := bB 1 _ rfl
        go_wp2_with fail
        refine (side_is HA.out HP.out HCR.out).mono ?_
        rintro e w1 ⟨rfl, hb1⟩
        clear bac0 bac1 bac2 bac3 bbc0 bbc1
        have hs1 := hb1.size
        replace bA := bA.below hb1 (by omega)
        replace bB := bB.below hb1 (by omega)
        have bac0 := bA 0 _ rfl
        have bac1 := bA 1 _ rfl
        have bac2 := bA 2 _ rfl
        have bac3 := bA 3 _ rfl
        have bbc0 := bB 0 _ rfl
        have bbc1 := bB 1 _ rfl
        have HB1 := hide (HB0.out.trans (hb1.mono (by omega)))
        clear hb1 HB0
        cases r1
        · go_wp2_with fail
          refine (within_is HR1.out).mono ?_
          rintro e w2 ⟨rfl, hw⟩
          obtain rfl := hw.symm
          go_wp2_with fail
          go_ret
          exact ⟨ret_bool HV.out, HB1.out⟩
        · go_wp2_with fail
          refine (within_is HR1.out).mono ?_
          rintro e w2 ⟨rfl, hw⟩
          obtain rfl := hw.symm
          go_wp2_with fail
          refine (within_is HR2.out).mono ?_
          rintro e w2 ⟨rfl, hw⟩
          obtain rfl := hw.symm
          go_wp2_with fail
          go_ret
          exact ⟨ret_bool HV.out, HB1.out⟩
  · have HV := hide (cv_no HCR.out hz HBB.out)
    have hz2 : (c == 0) = false := by simpa using hz
    clear HBB
    go_enter Tryz.func80, Tryz.ntmps80
    go_wp2_with fail
    obtain ⟨W0, hW0⟩ : ∃ W0 : World, W0 = ((w.alloc (.cells #[.int .i64 ax, .int .i64 ay, .int .i64 bx, .int .i64 cy] 70)).alloc (.cells #[.int .i64 px, .int .i64 py] 42)) := ⟨_, rfl⟩
    rw [← hW0]
    have bA : Box W0 w.heap.size [.int .i64 ax, .int .i64 ay, .int .i64 bx, .int .i64 cy] := by rw [hW0]; exact (box_at _ _ _ _ (by simp)).alloc (by simp) _
    have bB : Box W0 (w.heap.size + 1) [.int .i64 px, .int .i64 py] := by rw [hW0]; exact box_at _ _ _ _ (by simp)
    have HB0 := hide (show Below w.heap.size w W0 by rw [hW0]; exact ((Below.refl _ _).alloc (Nat.le_refl _) _).alloc (by simp) _)
    have hs0 : w.heap.size + 2 ≤ W0.heap.size := by rw [hW0]; simp
    clear hW0
    have bac0 := bA 0 _ rfl
    have bac1 := bA 1 _ rfl
    have bac2 := bA 2 _ rfl
    have bac3 := bA 3 _ rfl
    have bbc0 := bB 0 _ rfl
    have bbc1 := bB 1 _ rfl
    go_wp2_with fail
    refine (side_is HA.out HP.out HCR.out).mono ?_
    rintro e w1 ⟨rfl, hb1⟩
    clear bac0 bac1 bac2 bac3 bbc0 bbc1
    have hs1 := hb1.size
    replace bA := bA.below hb1 (by omega)
    replace bB := bB.below hb1 (by omega)
    have bac0 := bA 0 _ rfl
    have bac1 := bA 1 _ rfl
    have bac2 := bA 2 _ rfl
    have bac3 := bA 3 _ rfl
    have bbc0 := bB 0 _ rfl
    have bbc1 := bB 1 _ rfl
    have HB1 := hide (HB0.out.trans (hb1.mono (by omega)))
    clear hb1 HB0
    go_wp2_with fail
    go_ret
    exact ⟨ret_bool HV.out, HB1.out⟩


end Go.Proofs.YtajjophmngabbaaGreatDoor
