/-
  GEOMETRY of the reference, exactly: points beside segments, whether segments meet, the square of their distance. No condition but those that each theorem names.
-/
import Derived.Test.YtajjophmngabbaaGreatDoorGe1
import Derived.Deep.RegionHeld3
namespace Go.Proofs.YtajjophmngabbaaGreatDoor
open Go.RowKit
set_option linter.unusedVariables false
set_option linter.unusedSimpArgs false

theorem l00Min_is {a b m : Int} (h : mnI a b = m) {w : World} : Calls Tryz.prog 103 #[.int .i64 a, .int .i64 b] w fun e w' => e = .returned (.int .i64 m) ∧ w' = w := by subst h; exact l00Min_c a b w
theorem l00Max_is {a b m : Int} (h : mxI a b = m) {w : World} : Calls Tryz.prog 70 #[.int .i64 a, .int .i64 b] w fun e w' => e = .returned (.int .i64 m) ∧ w' = w := by subst h; exact l00Max_c a b w
theorem l00In_is2 {n lo hi : Int} {b : Bool} (h : inR n lo hi = b) {w : World} : Calls Tryz.prog 13 #[.int .i64 n, .int .i64 lo, .int .i64 hi] w fun e w' => e = .returned (.bool b) ∧ w' = w := by subst h; exact l00In_any n lo hi w
theorem l14Cross_is {ax ay bx cy px py c : Int} (h : CoS ax ay bx cy) (h' : CoP px py) (hc : crI ax ay bx cy px py = c) {w : World} : Calls Tryz.prog 97 #[.agg #[.int .i64 ax, .int .i64 ay, .int .i64 bx, .int .i64 cy], .agg #[.int .i64 px, .int .i64 py]] w fun e w' => e = .returned (.int .i64 c) ∧ Below w.heap.size w w' := by subst hc; exact l14Cross_c _ _ _ _ _ _ h h' w
theorem l14Dot_is {ax ay bx cy px py c : Int} (h : CoS ax ay bx cy) (h' : CoP px py) (hc : dtI ax ay bx cy px py = c) {w : World} : Calls Tryz.prog 99 #[.agg #[.int .i64 ax, .int .i64 ay, .int .i64 bx, .int .i64 cy], .agg #[.int .i64 px, .int .i64 py]] w fun e w' => e = .returned (.int .i64 c) ∧ Below w.heap.size w w' := by subst hc; exact l14Dot_c _ _ _ _ _ _ h h' w
theorem l02Square_is {ax ay px py c : Int} (h : CoP ax ay) (h' : CoP px py) (hc : sqD ax ay px py = c) {w : World} : Calls Tryz.prog 69 #[.agg #[.int .i64 ax, .int .i64 ay], .agg #[.int .i64 px, .int .i64 py]] w fun e w' => e = .returned (.int .i64 c) ∧ Below w.heap.size w w' := by subst hc; exact l02Square_c _ _ _ _ h h' w
theorem l14Sign_is {n s : Int} (hc : sgI n = s) {w : World} : Calls Tryz.prog 96 #[.int .i64 n] w fun e w' => e = .returned (.int .i64 s) ∧ Below w.heap.size w w' := by subst hc; exact (l14Sign_c n w).mono fun e w' ⟨h1, h2⟩ => ⟨h1, h2 ▸ Below.refl _ _⟩
theorem l14Make_is {n d x y : Int} (hn : 0 ≤ n) (hn2 : n ≤ 1000000000000000000) (hd : 0 < d) (hd2 : d ≤ 1000000000000000000) (hc : redF n d = (x, y)) {w : World} : Calls Tryz.prog 100 #[.int .i64 n, .int .i64 d] w fun e w' => e = .returned (.agg #[.int .i64 x, .int .i64 y]) ∧ Below w.heap.size w w' := by
  have h1 : x = (redF n d).1 := by rw [hc]
  have h2 : y = (redF n d).2 := by rw [hc]
  rw [h1, h2]; exact l14Make_c n d hn hn2 hd hd2 w
theorem l14Less_is {an ad bn bd : Int} {b : Bool} (ha : FOk (an, ad)) (hb : FOk (bn, bd)) (hc : ltF (an, ad) (bn, bd) = b) {w : World} : Calls Tryz.prog 71 #[.agg #[.int .i64 an, .int .i64 ad], .agg #[.int .i64 bn, .int .i64 bd]] w fun e w' => e = .returned (.bool b) ∧ Below w.heap.size w w' := by subst hc; exact l14Less_c _ _ _ _ ha hb w

theorem best_put {w w8 : World} {c l r b0 : Nat} {x y x' y' r0 r1 : Value} {vs : List Value} (hcl : c ≠ l) (hcr : c ≠ r) (hb : b0 ≤ c) (bC : Box w8 c [x, y]) (fC : Fz w8 c) (bL : Box w8 l vs) (bR : Box w8 r [r0, r1]) (fR : Fz w8 r) (h : Below b0 w w8) (hs : l + 1 ≤ w8.heap.size) :
    Box ((w8.setCell ⟨c, 0, none⟩ x').setCell ⟨c, 1, none⟩ y') c [x', y'] ∧ Fz ((w8.setCell ⟨c, 0, none⟩ x').setCell ⟨c, 1, none⟩ y') c ∧ Box ((w8.setCell ⟨c, 0, none⟩ x').setCell ⟨c, 1, none⟩ y') l vs ∧ Box ((w8.setCell ⟨c, 0, none⟩ x').setCell ⟨c, 1, none⟩ y') r [r0, r1] ∧ Fz ((w8.setCell ⟨c, 0, none⟩ x').setCell ⟨c, 1, none⟩ y') r ∧ Below b0 w ((w8.setCell ⟨c, 0, none⟩ x').setCell ⟨c, 1, none⟩ y') ∧ l + 1 ≤ ((w8.setCell ⟨c, 0, none⟩ x').setCell ⟨c, 1, none⟩ y').heap.size := by
  obtain ⟨W1, h1⟩ : ∃ W, W = w8.setCell ⟨c, 0, none⟩ x' := ⟨_, rfl⟩
  obtain ⟨W2, h2⟩ : ∃ W, W = W1.setCell ⟨c, 1, none⟩ y' := ⟨_, rfl⟩
  rw [← h1, ← h2]
  have c1 : Box W1 c [x', y] := by rw [h1]; exact bC.put 0 x' (by simp)
  have c2 : Box W2 c [x', y'] := by rw [h2]; exact c1.put 1 y' (by simp)
  have l1 : Box W1 l vs := by rw [h1]; exact bL.far _ _ hcl
  have l2 : Box W2 l vs := by rw [h2]; exact l1.far _ _ hcl
  have s1 : Box W1 r [r0, r1] := by rw [h1]; exact bR.far _ _ hcr
  have s2 : Box W2 r [r0, r1] := by rw [h2]; exact s1.far _ _ hcr
  have B1 : Below b0 w W1 := by rw [h1]; exact h.setCell hb _
  have B2 : Below b0 w W2 := by rw [h2]; exact B1.setCell hb _
  have f2 : Fz W2 c := by rw [h2, h1]; exact (fC.set _ _).set _ _
  have g2 : Fz W2 r := by rw [h2, h1]; exact (fR.set _ _).set _ _
  have e : W2.heap.size = w8.heap.size := by rw [h2, h1]; simp [World.setCell]
  exact ⟨c2, f2, l2, s2, g2, B2, by omega⟩

set_option maxRecDepth 100000 in
set_option maxHeartbeats 2000000 in
theorem l14On_is {ax ay bx cy px py : Int} {b : Bool} (hc : onB ax ay bx cy px py = b) {w : World} :
    Calls Tryz.prog 98 #[.agg #[.int .i64 ax, .int .i64 ay, .int .i64 bx, .int .i64 cy], .agg #[.int .i64 px, .int .i64 py]] w fun e w' => e = .returned (.bool b) ∧ Below w.heap.size w w' := by
  have HR := hide hc
  clear hc
  obtain ⟨m1, hm1⟩ : ∃ m, mnI ax bx = m := ⟨_, rfl⟩
  obtain ⟨M1, hM1⟩ : ∃ m, mxI ax bx = m := ⟨_, rfl⟩
  obtain ⟨m2, hm2⟩ : ∃ m, mnI ay cy = m := ⟨_, rfl⟩
  obtain ⟨M2, hM2⟩ : ∃ m, mxI ay cy = m := ⟨_, rfl⟩
  have A1 := hide hm1
  have A2 := hide hM1
  have A3 := hide hm2
  have A4 := hide hM2
  have HV := hide (show (inR px m1 M1 && inR py m2 M2) = b by rw [← hm1, ← hM1, ← hm2, ← hM2]; exact HR.out)
  clear hm1 hM1 hm2 hM2 HR
  cases e1 : inR px m1 M1
  · have HW := hide (show false = b by have h := HV.out; rw [e1] at h; exact h)
    clear HV
    go_enter Tryz.func98, Tryz.ntmps98
    go_wp2_with fail
    go_quiet (first | (go_at_call 103; with_reducible exact Calls.quiet_of_same (l00Min_is A1.out)) | (go_at_call 70; with_reducible exact Calls.quiet_of_same (l00Max_is A2.out)) | (go_at_call 13; with_reducible exact Calls.quiet_of_same (l00In_is2 e1)))
    go_wp2_with fail
    go_ret
    exact ⟨ret_bool HW.out, ((((Below.refl _ _).alloc (Nat.le_refl _) _).alloc (by simp) _)).trans (Joins.below_draws _ _ _)⟩
  · obtain ⟨y, e2⟩ : ∃ y, inR py m2 M2 = y := ⟨_, rfl⟩
    have HW := hide (show y = b by have h := HV.out; rw [e1, e2] at h; exact h)
    clear HV
    go_enter Tryz.func98, Tryz.ntmps98
    go_wp2_with fail
    go_quiet (first | (go_at_call 103; with_reducible exact Calls.quiet_of_same (l00Min_is A1.out)) | (go_at_call 70; with_reducible exact Calls.quiet_of_same (l00Max_is A2.out)) | (go_at_call 13; with_reducible exact Calls.quiet_of_same (l00In_is2 e1)) | (go_at_call 103; with_reducible exact Calls.quiet_of_same (l00Min_is A3.out)) | (go_at_call 70; with_reducible exact Calls.quiet_of_same (l00Max_is A4.out)) | (go_at_call 13; with_reducible exact Calls.quiet_of_same (l00In_is2 e2)))
    go_wp2_with fail
    go_ret
    exact ⟨ret_bool HW.out, ((((Below.refl _ _).alloc (Nat.le_refl _) _).alloc (by simp) _)).trans (Joins.below_draws _ _ _)⟩

theorem wrap_0 : wrap64 0 = 0 := by unfold wrap64; omega
theorem mt_is {ax ay bx cy px py qx qy c1 c2 c3 c4 s1 s2 s3 s4 : Int} {o1 o2 o3 o4 : Bool} (h1 : crI ax ay bx cy px py = c1) (h2 : crI ax ay bx cy qx qy = c2) (h3 : crI px py qx qy ax ay = c3) (h4 : crI px py qx qy bx cy = c4)
    (k1 : sgI c1 = s1) (k2 : sgI c2 = s2) (k3 : sgI c3 = s3) (k4 : sgI c4 = s4) (j1 : onB ax ay bx cy px py = o1) (j2 : onB ax ay bx cy qx qy = o2) (j3 : onB px py qx qy ax ay = o3) (j4 : onB px py qx qy bx cy = o4) :
    mtB ax ay bx cy px py qx qy = ((decide (wrap64 (s1 * s2) < 0) && decide (wrap64 (s3 * s4) < 0)) || (((s1 == 0) && o1) || (((s2 == 0) && o2) || (((s3 == 0) && o3) || ((s4 == 0) && o4))))) := by
  subst h1 h2 h3 h4 k1 k2 k3 k4 j1 j2 j3 j4
  have w : ∀ n m : Int, wrap64 (sgI n * sgI m) = sgI n * sgI m := fun n m => IntWalk.wrap64_in _ (by have := sgI_prod n m; omega)
  simp only [w, sgI_is0]
  rfl

set_option maxRecDepth 100000 in
set_option maxHeartbeats 2000000 in
theorem l14Meet_c (ax ay bx cy px py qx qy : Int) (hA : CoS ax ay bx cy) (hP : CoS px py qx qy) (w : World) :
    Calls Tryz.prog 90 #[.agg #[.int .i64 ax, .int .i64 ay, .int .i64 bx, .int .i64 cy], .agg #[.int .i64 px, .int .i64 py, .int .i64 qx, .int .i64 qy]] w fun e w' => e = .returned (.bool (mtB ax ay bx cy px py qx qy)) ∧ Below w.heap.size w w' := by
  have HA := hide hA
  have HP := hide hP
  clear hA hP
  obtain ⟨R, hR⟩ : ∃ R, mtB ax ay bx cy px py qx qy = R := ⟨_, rfl⟩
  rw [hR]
  obtain ⟨c1, hc1⟩ : ∃ c, crI ax ay bx cy px py = c := ⟨_, rfl⟩
  obtain ⟨c2, hc2⟩ : ∃ c, crI ax ay bx cy qx qy = c := ⟨_, rfl⟩
  obtain ⟨c3, hc3⟩ : ∃ c, crI px py qx qy ax ay = c := ⟨_, rfl⟩
  obtain ⟨c4, hc4⟩ : ∃ c, crI px py qx qy bx cy = c := ⟨_, rfl⟩
  obtain ⟨s1, hs1⟩ : ∃ c, sgI c1 = c := ⟨_, rfl⟩
  obtain ⟨s2, hs2⟩ : ∃ c, sgI c2 = c := ⟨_, rfl⟩
  obtain ⟨s3, hs3⟩ : ∃ c, sgI c3 = c := ⟨_, rfl⟩
  obtain ⟨s4, hs4⟩ : ∃ c, sgI c4 = c := ⟨_, rfl⟩
  obtain ⟨o1, ho1⟩ : ∃ c, onB ax ay bx cy px py = c := ⟨_, rfl⟩
  obtain ⟨o2, ho2⟩ : ∃ c, onB ax ay bx cy qx qy = c := ⟨_, rfl⟩
  obtain ⟨o3, ho3⟩ : ∃ c, onB px py qx qy ax ay = c := ⟨_, rfl⟩
  obtain ⟨o4, ho4⟩ : ∃ c, onB px py qx qy bx cy = c := ⟨_, rfl⟩
  have HM := hide (hR.symm.trans (mt_is hc1 hc2 hc3 hc4 hs1 hs2 hs3 hs4 ho1 ho2 ho3 ho4))
  have HC1 := hide hc1
  have HG1 := hide hs1
  have HO1 := hide ho1
  have HC2 := hide hc2
  have HG2 := hide hs2
  have HO2 := hide ho2
  have HC3 := hide hc3
  have HG3 := hide hs3
  have HO3 := hide ho3
  have HC4 := hide hc4
  have HG4 := hide hs4
  have HO4 := hide ho4
  clear hR hc1 hs1 ho1 hc2 hs2 ho2 hc3 hs3 ho3 hc4 hs4 ho4
  go_enter Tryz.func90, Tryz.ntmps90
  go_wp2_with fail
  obtain ⟨W0, hW0⟩ : ∃ W0 : World, W0 = ((w.alloc (.cells #[.int .i64 ax, .int .i64 ay, .int .i64 bx, .int .i64 cy] 70)).alloc (.cells #[.int .i64 px, .int .i64 py, .int .i64 qx, .int .i64 qy] 70)) := ⟨_, rfl⟩
  rw [← hW0]
  have bA : Box W0 w.heap.size [.int .i64 ax, .int .i64 ay, .int .i64 bx, .int .i64 cy] := by rw [hW0]; exact (box_at _ _ _ _ (by simp)).alloc (by simp) _
  have bB : Box W0 (w.heap.size + 1) [.int .i64 px, .int .i64 py, .int .i64 qx, .int .i64 qy] := by rw [hW0]; exact box_at _ _ _ _ (by simp)
  have HB0 := hide (show Below w.heap.size w W0 by rw [hW0]; exact ((Below.refl _ _).alloc (Nat.le_refl _) _).alloc (by simp) _)
  have hs0 : w.heap.size + 2 ≤ W0.heap.size := by rw [hW0]; simp
  clear hW0
  have bac0 := bA 0 _ rfl
  have bac1 := bA 1 _ rfl
  have bac2 := bA 2 _ rfl
  have bac3 := bA 3 _ rfl
  have bbc0 := bB 0 _ rfl
  have bbc1 := bB 1 _ rfl
  have bbc2 := bB 2 _ rfl
  have bbc3 := bB 3 _ rfl
  go_wp2_with fail
  refine (l14Cross_is HA.out HP.out.a HC1.out).mono ?_
  rintro e w1 ⟨rfl, hb1⟩
  clear bac0 bac1 bac2 bac3 bbc0 bbc1 bbc2 bbc3
  have hs1 := hb1.size
  replace bA := bA.below hb1 (by omega)
  replace bB := bB.below hb1 (by omega)
  have bac0 := bA 0 _ rfl
  have bac1 := bA 1 _ rfl
  have bac2 := bA 2 _ rfl
  have bac3 := bA 3 _ rfl
  have bbc0 := bB 0 _ rfl
  have bbc1 := bB 1 _ rfl
  have bbc2 := bB 2 _ rfl
  have bbc3 := bB 3 _ rfl
  have HB1 := hide (HB0.out.trans (hb1.mono (by omega)))
  clear hb1 HB0
  go_wp2_with fail
  refine (l14Sign_is HG1.out).mono ?_
  rintro e w2 ⟨rfl, hb2⟩
  clear bac0 bac1 bac2 bac3 bbc0 bbc1 bbc2 bbc3
  have hs2 := hb2.size
  replace bA := bA.below hb2 (by omega)
  replace bB := bB.below hb2 (by omega)
  have bac0 := bA 0 _ rfl
  have bac1 := bA 1 _ rfl
  have bac2 := bA 2 _ rfl
  have bac3 := bA 3 _ rfl
  have bbc0 := bB 0 _ rfl
  have bbc1 := bB 1 _ rfl
  have bbc2 := bB 2 _ rfl
  have bbc3 := bB 3 _ rfl
  have HB2 := hide (HB1.out.trans (hb2.mono (by omega)))
  clear hb2 HB1
  go_wp2_with fail
  refine (l14Cross_is HA.out HP.out.b HC2.out).mono ?_
  rintro e w3 ⟨rfl, hb3⟩
  clear bac0 bac1 bac2 bac3 bbc0 bbc1 bbc2 bbc3
  have hs3 := hb3.size
  replace bA := bA.below hb3 (by omega)
  replace bB := bB.below hb3 (by omega)
  have bac0 := bA 0 _ rfl
  have bac1 := bA 1 _ rfl
  have bac2 := bA 2 _ rfl
  have bac3 := bA 3 _ rfl
  have bbc0 := bB 0 _ rfl
  have bbc1 := bB 1 _ rfl
  have bbc2 := bB 2 _ rfl
  have bbc3 := bB 3 _ rfl
  have HB3 := hide (HB2.out.trans (hb3.mono (by omega)))
  clear hb3 HB2
  go_wp2_with fail
  refine (l14Sign_is HG2.out).mono ?_
  rintro e w4 ⟨rfl, hb4⟩
  clear bac0 bac1 bac2 bac3 bbc0 bbc1 bbc2 bbc3
  have hs4 := hb4.size
  replace bA := bA.below hb4 (by omega)
  replace bB := bB.below hb4 (by omega)
  have bac0 := bA 0 _ rfl
  have bac1 := bA 1 _ rfl
  have bac2 := bA 2 _ rfl
  have bac3 := bA 3 _ rfl
  have bbc0 := bB 0 _ rfl
  have bbc1 := bB 1 _ rfl
  have bbc2 := bB 2 _ rfl
  have bbc3 := bB 3 _ rfl
  have HB4 := hide (HB3.out.trans (hb4.mono (by omega)))
  clear hb4 HB3
  go_wp2_with fail
  refine (l14Cross_is HP.out HA.out.a HC3.out).mono ?_
  rintro e w5 ⟨rfl, hb5⟩
  clear bac0 bac1 bac2 bac3 bbc0 bbc1 bbc2 bbc3
  have hs5 := hb5.size
  replace bA := bA.below hb5 (by omega)
  replace bB := bB.below hb5 (by omega)
  have bac0 := bA 0 _ rfl
  have bac1 := bA 1 _ rfl
  have bac2 := bA 2 _ rfl
  have bac3 := bA 3 _ rfl
  have bbc0 := bB 0 _ rfl
  have bbc1 := bB 1 _ rfl
  have bbc2 := bB 2 _ rfl
  have bbc3 := bB 3 _ rfl
  have HB5 := hide (HB4.out.trans (hb5.mono (by omega)))
  clear hb5 HB4
  go_wp2_with fail
  refine (l14Sign_is HG3.out).mono ?_
  rintro e w6 ⟨rfl, hb6⟩
  clear bac0 bac1 bac2 bac3 bbc0 bbc1 bbc2 bbc3
  have hs6 := hb6.size
  replace bA := bA.below hb6 (by omega)
  replace bB := bB.below hb6 (by omega)
  have bac0 := bA 0 _ rfl
  have bac1 := bA 1 _ rfl
  have bac2 := bA 2 _ rfl
  have bac3 := bA 3 _ rfl
  have bbc0 := bB 0 _ rfl
  have bbc1 := bB 1 _ rfl
  have bbc2 := bB 2 _ rfl
  have bbc3 := bB 3 _ rfl
  have HB6 := hide (HB5.out.trans (hb6.mono (by omega)))
  clear hb6 HB5
  go_wp2_with fail
  refine (l14Cross_is HP.out HA.out.b HC4.out).mono ?_
  rintro e w7 ⟨rfl, hb7⟩
  clear bac0 bac1 bac2 bac3 bbc0 bbc1 bbc2 bbc3
  have hs7 := hb7.size
  replace bA := bA.below hb7 (by omega)
  replace bB := bB.below hb7 (by omega)
  have bac0 := bA 0 _ rfl
  have bac1 := bA 1 _ rfl
  have bac2 := bA 2 _ rfl
  have bac3 := bA 3 _ rfl
  have bbc0 := bB 0 _ rfl
  have bbc1 := bB 1 _ rfl
  have bbc2 := bB 2 _ rfl
  have bbc3 := bB 3 _ rfl
  have HB7 := hide (HB6.out.trans (hb7.mono (by omega)))
  clear hb7 HB6
  go_wp2_with fail
  refine (l14Sign_is HG4.out).mono ?_
  rintro e w8 ⟨rfl, hb8⟩
  clear bac0 bac1 bac2 bac3 bbc0 bbc1 bbc2 bbc3
  have hs8 := hb8.size
  replace bA := bA.below hb8 (by omega)
  replace bB := bB.below hb8 (by omega)
  have bac0 := bA 0 _ rfl
  have bac1 := bA 1 _ rfl
  have bac2 := bA 2 _ rfl
  have bac3 := bA 3 _ rfl
  have bbc0 := bB 0 _ rfl
  have bbc1 := bB 1 _ rfl
  have bbc2 := bB 2 _ rfl
  have bbc3 := bB 3 _ rfl
  have HB8 := hide (HB7.out.trans (hb8.mono (by omega)))
  clear hb8 HB7
  cases g1 : decide (wrap64 (s1 * s2) < 0)
  · by_cases z0 : s1 = 0
    · subst z0
      go_wp2_with fail
      refine (l14On_is HO1.out).mono ?_
      rintro e w9 ⟨rfl, hb9⟩
      clear bac0 bac1 bac2 bac3 bbc0 bbc1 bbc2 bbc3
      have hs9 := hb9.size
      replace bA := bA.below hb9 (by omega)
      replace bB := bB.below hb9 (by omega)
      have bac0 := bA 0 _ rfl
      have bac1 := bA 1 _ rfl
      have bac2 := bA 2 _ rfl
      have bac3 := bA 3 _ rfl
      have bbc0 := bB 0 _ rfl
      have bbc1 := bB 1 _ rfl
      have bbc2 := bB 2 _ rfl
      have bbc3 := bB 3 _ rfl
      have HB9 := hide (HB8.out.trans (hb9.mono (by omega)))
      clear hb9 HB8
      cases o1
      · by_cases z1 : s2 = 0
        · subst z1
          go_wp2_with fail
          refine (l14On_is HO2.out).mono ?_
          rintro e w10 ⟨rfl, hb10⟩
          clear bac0 bac1 bac2 bac3 bbc0 bbc1 bbc2 bbc3
          have hs10 := hb10.size
          replace bA := bA.below hb10 (by omega)
          replace bB := bB.below hb10 (by omega)
          have bac0 := bA 0 _ rfl
          have bac1 := bA 1 _ rfl
          have bac2 := bA 2 _ rfl
          have bac3 := bA 3 _ rfl
          have bbc0 := bB 0 _ rfl
          have bbc1 := bB 1 _ rfl
          have bbc2 := bB 2 _ rfl
          have bbc3 := bB 3 _ rfl
          have HB10 := hide (HB9.out.trans (hb10.mono (by omega)))
          clear hb10 HB9
          cases o2
          · by_cases z2 : s3 = 0
            · subst z2
              go_wp2_with fail
              refine (l14On_is HO3.out).mono ?_
              rintro e w11 ⟨rfl, hb11⟩
              clear bac0 bac1 bac2 bac3 bbc0 bbc1 bbc2 bbc3
              have hs11 := hb11.size
              replace bA := bA.below hb11 (by omega)
              replace bB := bB.below hb11 (by omega)
              have bac0 := bA 0 _ rfl
              have bac1 := bA 1 _ rfl
              have bac2 := bA 2 _ rfl
              have bac3 := bA 3 _ rfl
              have bbc0 := bB 0 _ rfl
              have bbc1 := bB 1 _ rfl
              have bbc2 := bB 2 _ rfl
              have bbc3 := bB 3 _ rfl
              have HB11 := hide (HB10.out.trans (hb11.mono (by omega)))
              clear hb11 HB10
              cases o3
              · by_cases z3 : s4 = 0
                · subst z3
                  go_wp2_with fail
                  refine (l14On_is HO4.out).mono ?_
                  rintro e w12 ⟨rfl, hb12⟩
                  clear bac0 bac1 bac2 bac3 bbc0 bbc1 bbc2 bbc3
                  have hs12 := hb12.size
                  replace bA := bA.below hb12 (by omega)
                  replace bB := bB.below hb12 (by omega)
                  have bac0 := bA 0 _ rfl
                  have bac1 := bA 1 _ rfl
                  have bac2 := bA 2 _ rfl
                  have bac3 := bA 3 _ rfl
                  have bbc0 := bB 0 _ rfl
                  have bbc1 := bB 1 _ rfl
                  have bbc2 := bB 2 _ rfl
                  have bbc3 := bB 3 _ rfl
                  have HB12 := hide (HB11.out.trans (hb12.mono (by omega)))
                  clear hb12 HB11
                  cases o4
                  · go_wp2_with fail
                    go_ret
                    exact ⟨ret_bool (by rw [HM.out]; simp [wrap_0, *]), HB12.out⟩
                  · go_wp2_with fail
                    go_ret
                    exact ⟨ret_bool (by rw [HM.out]; simp [wrap_0, *]), HB12.out⟩
                · have n3 : (s4 == 0) = false := by simpa using z3
                  go_wp2_with fail
                  go_ret
                  exact ⟨ret_bool (by rw [HM.out]; simp [wrap_0, *]), HB11.out⟩
              · go_wp2_with fail
                go_ret
                exact ⟨ret_bool (by rw [HM.out]; simp [wrap_0, *]), HB11.out⟩
            · have n2 : (s3 == 0) = false := by simpa using z2
              by_cases z3 : s4 = 0
              · subst z3
                go_wp2_with fail
                refine (l14On_is HO4.out).mono ?_
                rintro e w11 ⟨rfl, hb11⟩
                clear bac0 bac1 bac2 bac3 bbc0 bbc1 bbc2 bbc3
                have hs11 := hb11.size
                replace bA := bA.below hb11 (by omega)
                replace bB := bB.below hb11 (by omega)
                have bac0 := bA 0 _ rfl
                have bac1 := bA 1 _ rfl
                have bac2 := bA 2 _ rfl
                have bac3 := bA 3 _ rfl
                have bbc0 := bB 0 _ rfl
                have bbc1 := bB 1 _ rfl
                have bbc2 := bB 2 _ rfl
                have bbc3 := bB 3 _ rfl
                have HB11 := hide (HB10.out.trans (hb11.mono (by omega)))
                clear hb11 HB10
                cases o4
                · go_wp2_with fail
                  go_ret
                  exact ⟨ret_bool (by rw [HM.out]; simp [wrap_0, *]), HB11.out⟩
                · go_wp2_with fail
                  go_ret
                  exact ⟨ret_bool (by rw [HM.out]; simp [wrap_0, *]), HB11.out⟩
              · have n3 : (s4 == 0) = false := by simpa using z3
                go_wp2_with fail
                go_ret
                exact ⟨ret_bool (by rw [HM.out]; simp [wrap_0, *]), HB10.out⟩
          · go_wp2_with fail
            go_ret
            exact ⟨ret_bool (by rw [HM.out]; simp [wrap_0, *]), HB10.out⟩
        · have n1 : (s2 == 0) = false := by simpa using z1
          by_cases z2 : s3 = 0
          · subst z2
            go_wp2_with fail
            refine (l14On_is HO3.out).mono ?_
            rintro e w10 ⟨rfl, hb10⟩
            clear bac0 bac1 bac2 bac3 bbc0 bbc1 bbc2 bbc3
            have hs10 := hb10.size
            replace bA := bA.below hb10 (by omega)
            replace bB := bB.below hb10 (by omega)
            have bac0 := bA 0 _ rfl
            have bac1 := bA 1 _ rfl
            have bac2 := bA 2 _ rfl
            have bac3 := bA 3 _ rfl
            have bbc0 := bB 0 _ rfl
            have bbc1 := bB 1 _ rfl
            have bbc2 := bB 2 _ rfl
            have bbc3 := bB 3 _ rfl
            have HB10 := hide (HB9.out.trans (hb10.mono (by omega)))
            clear hb10 HB9
            cases o3
            · by_cases z3 : s4 = 0
              · subst z3
                go_wp2_with fail
                refine (l14On_is HO4.out).mono ?_
                rintro e w11 ⟨rfl, hb11⟩
                clear bac0 bac1 bac2 bac3 bbc0 bbc1 bbc2 bbc3
                have hs11 := hb11.size
                replace bA := bA.below hb11 (by omega)
                replace bB := bB.below hb11 (by omega)
                have bac0 := bA 0 _ rfl
                have bac1 := bA 1 _ rfl
                have bac2 := bA 2 _ rfl
                have bac3 := bA 3 _ rfl
                have bbc0 := bB 0 _ rfl
                have bbc1 := bB 1 _ rfl
                have bbc2 := bB 2 _ rfl
                have bbc3 := bB 3 _ rfl
                have HB11 := hide (HB10.out.trans (hb11.mono (by omega)))
                clear hb11 HB10
                cases o4
                · go_wp2_with fail
                  go_ret
                  exact ⟨ret_bool (by rw [HM.out]; simp [wrap_0, *]), HB11.out⟩
                · go_wp2_with fail
                  go_ret
                  exact ⟨ret_bool (by rw [HM.out]; simp [wrap_0, *]), HB11.out⟩
              · have n3 : (s4 == 0) = false := by simpa using z3
                go_wp2_with fail
                go_ret
                exact ⟨ret_bool (by rw [HM.out]; simp [wrap_0, *]), HB10.out⟩
            · go_wp2_with fail
              go_ret
              exact ⟨ret_bool (by rw [HM.out]; simp [wrap_0, *]), HB10.out⟩
          · have n2 : (s3 == 0) = false := by simpa using z2
            by_cases z3 : s4 = 0
            · subst z3
              go_wp2_with fail
              refine (l14On_is HO4.out).mono ?_
              rintro e w10 ⟨rfl, hb10⟩
              clear bac0 bac1 bac2 bac3 bbc0 bbc1 bbc2 bbc3
              have hs10 := hb10.size
              replace bA := bA.below hb10 (by omega)
              replace bB := bB.below hb10 (by omega)
              have bac0 := bA 0 _ rfl
              have bac1 := bA 1 _ rfl
              have bac2 := bA 2 _ rfl
              have bac3 := bA 3 _ rfl
              have bbc0 := bB 0 _ rfl
              have bbc1 := bB 1 _ rfl
              have bbc2 := bB 2 _ rfl
              have bbc3 := bB 3 _ rfl
              have HB10 := hide (HB9.out.trans (hb10.mono (by omega)))
              clear hb10 HB9
              cases o4
              · go_wp2_with fail
                go_ret
                exact ⟨ret_bool (by rw [HM.out]; simp [wrap_0, *]), HB10.out⟩
              · go_wp2_with fail
                go_ret
                exact ⟨ret_bool (by rw [HM.out]; simp [wrap_0, *]), HB10.out⟩
            · have n3 : (s4 == 0) = false := by simpa using z3
              go_wp2_with fail
              go_ret
              exact ⟨ret_bool (by rw [HM.out]; simp [wrap_0, *]), HB9.out⟩
      · go_wp2_with fail
        go_ret
        exact ⟨ret_bool (by rw [HM.out]; simp [wrap_0, *]), HB9.out⟩
    · have n0 : (s1 == 0) = false := by simpa using z0
      by_cases z1 : s2 = 0
      · subst z1
        go_wp2_with fail
        refine (l14On_is HO2.out).mono ?_
        rintro e w9 ⟨rfl, hb9⟩
        clear bac0 bac1 bac2 bac3 bbc0 bbc1 bbc2 bbc3
        have hs9 := hb9.size
        replace bA := bA.below hb9 (by omega)
        replace bB := bB.below hb9 (by omega)
        have bac0 := bA 0 _ rfl
        have bac1 := bA 1 _ rfl
        have bac2 := bA 2 _ rfl
        have bac3 := bA 3 _ rfl
        have bbc0 := bB 0 _ rfl
        have bbc1 := bB 1 _ rfl
        have bbc2 := bB 2 _ rfl
        have bbc3 := bB 3 _ rfl
        have HB9 := hide (HB8.out.trans (hb9.mono (by omega)))
        clear hb9 HB8
        cases o2
        · by_cases z2 : s3 = 0
          · subst z2
            go_wp2_with fail
            refine (l14On_is HO3.out).mono ?_
            rintro e w10 ⟨rfl, hb10⟩
            clear bac0 bac1 bac2 bac3 bbc0 bbc1 bbc2 bbc3
            have hs10 := hb10.size
            replace bA := bA.below hb10 (by omega)
            replace bB := bB.below hb10 (by omega)
            have bac0 := bA 0 _ rfl
            have bac1 := bA 1 _ rfl
            have bac2 := bA 2 _ rfl
            have bac3 := bA 3 _ rfl
            have bbc0 := bB 0 _ rfl
            have bbc1 := bB 1 _ rfl
            have bbc2 := bB 2 _ rfl
            have bbc3 := bB 3 _ rfl
            have HB10 := hide (HB9.out.trans (hb10.mono (by omega)))
            clear hb10 HB9
            cases o3
            · by_cases z3 : s4 = 0
              · subst z3
                go_wp2_with fail
                refine (l14On_is HO4.out).mono ?_
                rintro e w11 ⟨rfl, hb11⟩
                clear bac0 bac1 bac2 bac3 bbc0 bbc1 bbc2 bbc3
                have hs11 := hb11.size
                replace bA := bA.below hb11 (by omega)
                replace bB := bB.below hb11 (by omega)
                have bac0 := bA 0 _ rfl
                have bac1 := bA 1 _ rfl
                have bac2 := bA 2 _ rfl
                have bac3 := bA 3 _ rfl
                have bbc0 := bB 0 _ rfl
                have bbc1 := bB 1 _ rfl
                have bbc2 := bB 2 _ rfl
                have bbc3 := bB 3 _ rfl
                have HB11 := hide (HB10.out.trans (hb11.mono (by omega)))
                clear hb11 HB10
                cases o4
                · go_wp2_with fail
                  go_ret
                  exact ⟨ret_bool (by rw [HM.out]; simp [wrap_0, *]), HB11.out⟩
                · go_wp2_with fail
                  go_ret
                  exact ⟨ret_bool (by rw [HM.out]; simp [wrap_0, *]), HB11.out⟩
              · have n3 : (s4 == 0) = false := by simpa using z3
                go_wp2_with fail
                go_ret
                exact ⟨ret_bool (by rw [HM.out]; simp [wrap_0, *]), HB10.out⟩
            · go_wp2_with fail
              go_ret
              exact ⟨ret_bool (by rw [HM.out]; simp [wrap_0, *]), HB10.out⟩
          · have n2 : (s3 == 0) = false := by simpa using z2
            by_cases z3 : s4 = 0
            · subst z3
              go_wp2_with fail
              refine (l14On_is HO4.out).mono ?_
              rintro e w10 ⟨rfl, hb10⟩
              clear bac0 bac1 bac2 bac3 bbc0 bbc1 bbc2 bbc3
              have hs10 := hb10.size
              replace bA := bA.below hb10 (by omega)
              replace bB := bB.below hb10 (by omega)
              have bac0 := bA 0 _ rfl
              have bac1 := bA 1 _ rfl
              have bac2 := bA 2 _ rfl
              have bac3 := bA 3 _ rfl
              have bbc0 := bB 0 _ rfl
              have bbc1 := bB 1 _ rfl
              have bbc2 := bB 2 _ rfl
              have bbc3 := bB 3 _ rfl
              have HB10 := hide (HB9.out.trans (hb10.mono (by omega)))
              clear hb10 HB9
              cases o4
              · go_wp2_with fail
                go_ret
                exact ⟨ret_bool (by rw [HM.out]; simp [wrap_0, *]), HB10.out⟩
              · go_wp2_with fail
                go_ret
                exact ⟨ret_bool (by rw [HM.out]; simp [wrap_0, *]), HB10.out⟩
            · have n3 : (s4 == 0) = false := by simpa using z3
              go_wp2_with fail
              go_ret
              exact ⟨ret_bool (by rw [HM.out]; simp [wrap_0, *]), HB9.out⟩
        · go_wp2_with fail
          go_ret
          exact ⟨ret_bool (by rw [HM.out]; simp [wrap_0, *]), HB9.out⟩
      · have n1 : (s2 == 0) = false := by simpa using z1
        by_cases z2 : s3 = 0
        · subst z2
          go_wp2_with fail
          refine (l14On_is HO3.out).mono ?_
          rintro e w9 ⟨rfl, hb9⟩
          clear bac0 bac1 bac2 bac3 bbc0 bbc1 bbc2 bbc3
          have hs9 := hb9.size
          replace bA := bA.below hb9 (by omega)
          replace bB := bB.below hb9 (by omega)
          have bac0 := bA 0 _ rfl
          have bac1 := bA 1 _ rfl
          have bac2 := bA 2 _ rfl
          have bac3 := bA 3 _ rfl
          have bbc0 := bB 0 _ rfl
          have bbc1 := bB 1 _ rfl
          have bbc2 := bB 2 _ rfl
          have bbc3 := bB 3 _ rfl
          have HB9 := hide (HB8.out.trans (hb9.mono (by omega)))
          clear hb9 HB8
          cases o3
          · by_cases z3 : s4 = 0
            · subst z3
              go_wp2_with fail
              refine (l14On_is HO4.out).mono ?_
              rintro e w10 ⟨rfl, hb10⟩
              clear bac0 bac1 bac2 bac3 bbc0 bbc1 bbc2 bbc3
              have hs10 := hb10.size
              replace bA := bA.below hb10 (by omega)
              replace bB := bB.below hb10 (by omega)
              have bac0 := bA 0 _ rfl
              have bac1 := bA 1 _ rfl
              have bac2 := bA 2 _ rfl
              have bac3 := bA 3 _ rfl
              have bbc0 := bB 0 _ rfl
              have bbc1 := bB 1 _ rfl
              have bbc2 := bB 2 _ rfl
              have bbc3 := bB 3 _ rfl
              have HB10 := hide (HB9.out.trans (hb10.mono (by omega)))
              clear hb10 HB9
              cases o4
              · go_wp2_with fail
                go_ret
                exact ⟨ret_bool (by rw [HM.out]; simp [wrap_0, *]), HB10.out⟩
              · go_wp2_with fail
                go_ret
                exact ⟨ret_bool (by rw [HM.out]; simp [wrap_0, *]), HB10.out⟩
            · have n3 : (s4 == 0) = false := by simpa using z3
              go_wp2_with fail
              go_ret
              exact ⟨ret_bool (by rw [HM.out]; simp [wrap_0, *]), HB9.out⟩
          · go_wp2_with fail
            go_ret
            exact ⟨ret_bool (by rw [HM.out]; simp [wrap_0, *]), HB9.out⟩
        · have n2 : (s3 == 0) = false := by simpa using z2
          by_cases z3 : s4 = 0
          · subst z3
            go_wp2_with fail
            refine (l14On_is HO4.out).mono ?_
            rintro e w9 ⟨rfl, hb9⟩
            clear bac0 bac1 bac2 bac3 bbc0 bbc1 bbc2 bbc3
            have hs9 := hb9.size
            replace bA := bA.below hb9 (by omega)
            replace bB := bB.below hb9 (by omega)
            have bac0 := bA 0 _ rfl
            have bac1 := bA 1 _ rfl
            have bac2 := bA 2 _ rfl
            have bac3 := bA 3 _ rfl
            have bbc0 := bB 0 _ rfl
            have bbc1 := bB 1 _ rfl
            have bbc2 := bB 2 _ rfl
            have bbc3 := bB 3 _ rfl
            have HB9 := hide (HB8.out.trans (hb9.mono (by omega)))
            clear hb9 HB8
            cases o4
            · go_wp2_with fail
              go_ret
              exact ⟨ret_bool (by rw [HM.out]; simp [wrap_0, *]), HB9.out⟩
            · go_wp2_with fail
              go_ret
              exact ⟨ret_bool (by rw [HM.out]; simp [wrap_0, *]), HB9.out⟩
          · have n3 : (s4 == 0) = false := by simpa using z3
            go_wp2_with fail
            go_ret
            exact ⟨ret_bool (by rw [HM.out]; simp [wrap_0, *]), HB8.out⟩
  · cases g2 : decide (wrap64 (s3 * s4) < 0)
    · by_cases z0 : s1 = 0
      · subst z0
        go_wp2_with fail
        refine (l14On_is HO1.out).mono ?_
        rintro e w9 ⟨rfl, hb9⟩
        clear bac0 bac1 bac2 bac3 bbc0 bbc1 bbc2 bbc3
        have hs9 := hb9.size
        replace bA := bA.below hb9 (by omega)
        replace bB := bB.below hb9 (by omega)
        have bac0 := bA 0 _ rfl
        have bac1 := bA 1 _ rfl
        have bac2 := bA 2 _ rfl
        have bac3 := bA 3 _ rfl
        have bbc0 := bB 0 _ rfl
        have bbc1 := bB 1 _ rfl
        have bbc2 := bB 2 _ rfl
        have bbc3 := bB 3 _ rfl
        have HB9 := hide (HB8.out.trans (hb9.mono (by omega)))
        clear hb9 HB8
        cases o1
        · by_cases z1 : s2 = 0
          · subst z1
            go_wp2_with fail
            refine (l14On_is HO2.out).mono ?_
            rintro e w10 ⟨rfl, hb10⟩
            clear bac0 bac1 bac2 bac3 bbc0 bbc1 bbc2 bbc3
            have hs10 := hb10.size
            replace bA := bA.below hb10 (by omega)
            replace bB := bB.below hb10 (by omega)
            have bac0 := bA 0 _ rfl
            have bac1 := bA 1 _ rfl
            have bac2 := bA 2 _ rfl
            have bac3 := bA 3 _ rfl
            have bbc0 := bB 0 _ rfl
            have bbc1 := bB 1 _ rfl
            have bbc2 := bB 2 _ rfl
            have bbc3 := bB 3 _ rfl
            have HB10 := hide (HB9.out.trans (hb10.mono (by omega)))
            clear hb10 HB9
            cases o2
            · by_cases z2 : s3 = 0
              · subst z2
                go_wp2_with fail
                refine (l14On_is HO3.out).mono ?_
                rintro e w11 ⟨rfl, hb11⟩
                clear bac0 bac1 bac2 bac3 bbc0 bbc1 bbc2 bbc3
                have hs11 := hb11.size
                replace bA := bA.below hb11 (by omega)
                replace bB := bB.below hb11 (by omega)
                have bac0 := bA 0 _ rfl
                have bac1 := bA 1 _ rfl
                have bac2 := bA 2 _ rfl
                have bac3 := bA 3 _ rfl
                have bbc0 := bB 0 _ rfl
                have bbc1 := bB 1 _ rfl
                have bbc2 := bB 2 _ rfl
                have bbc3 := bB 3 _ rfl
                have HB11 := hide (HB10.out.trans (hb11.mono (by omega)))
                clear hb11 HB10
                cases o3
                · by_cases z3 : s4 = 0
                  · subst z3
                    go_wp2_with fail
                    refine (l14On_is HO4.out).mono ?_
                    rintro e w12 ⟨rfl, hb12⟩
                    clear bac0 bac1 bac2 bac3 bbc0 bbc1 bbc2 bbc3
                    have hs12 := hb12.size
                    replace bA := bA.below hb12 (by omega)
                    replace bB := bB.below hb12 (by omega)
                    have bac0 := bA 0 _ rfl
                    have bac1 := bA 1 _ rfl
                    have bac2 := bA 2 _ rfl
                    have bac3 := bA 3 _ rfl
                    have bbc0 := bB 0 _ rfl
                    have bbc1 := bB 1 _ rfl
                    have bbc2 := bB 2 _ rfl
                    have bbc3 := bB 3 _ rfl
                    have HB12 := hide (HB11.out.trans (hb12.mono (by omega)))
                    clear hb12 HB11
                    cases o4
                    · go_wp2_with fail
                      go_ret
                      exact ⟨ret_bool (by rw [HM.out]; simp [wrap_0, *]), HB12.out⟩
                    · go_wp2_with fail
                      go_ret
                      exact ⟨ret_bool (by rw [HM.out]; simp [wrap_0, *]), HB12.out⟩
                  · have n3 : (s4 == 0) = false := by simpa using z3
                    go_wp2_with fail
                    go_ret
                    exact ⟨ret_bool (by rw [HM.out]; simp [wrap_0, *]), HB11.out⟩
                · go_wp2_with fail
                  go_ret
                  exact ⟨ret_bool (by rw [HM.out]; simp [wrap_0, *]), HB11.out⟩
              · have n2 : (s3 == 0) = false := by simpa using z2
                by_cases z3 : s4 = 0
                · subst z3
                  go_wp2_with fail
                  refine (l14On_is HO4.out).mono ?_
                  rintro e w11 ⟨rfl, hb11⟩
                  clear bac0 bac1 bac2 bac3 bbc0 bbc1 bbc2 bbc3
                  have hs11 := hb11.size
                  replace bA := bA.below hb11 (by omega)
                  replace bB := bB.below hb11 (by omega)
                  have bac0 := bA 0 _ rfl
                  have bac1 := bA 1 _ rfl
                  have bac2 := bA 2 _ rfl
                  have bac3 := bA 3 _ rfl
                  have bbc0 := bB 0 _ rfl
                  have bbc1 := bB 1 _ rfl
                  have bbc2 := bB 2 _ rfl
                  have bbc3 := bB 3 _ rfl
                  have HB11 := hide (HB10.out.trans (hb11.mono (by omega)))
                  clear hb11 HB10
                  cases o4
                  · go_wp2_with fail
                    go_ret
                    exact ⟨ret_bool (by rw [HM.out]; simp [wrap_0, *]), HB11.out⟩
                  · go_wp2_with fail
                    go_ret
                    exact ⟨ret_bool (by rw [HM.out]; simp [wrap_0, *]), HB11.out⟩
                · have n3 : (s4 == 0) = false := by simpa using z3
                  go_wp2_with fail
                  go_ret
                  exact ⟨ret_bool (by rw [HM.out]; simp [wrap_0, *]), HB10.out⟩
            · go_wp2_with fail
              go_ret
              exact ⟨ret_bool (by rw [HM.out]; simp [wrap_0, *]), HB10.out⟩
          · have n1 : (s2 == 0) = false := by simpa using z1
            by_cases z2 : s3 = 0
            · subst z2
              go_wp2_with fail
              refine (l14On_is HO3.out).mono ?_
              rintro e w10 ⟨rfl, hb10⟩
              clear bac0 bac1 bac2 bac3 bbc0 bbc1 bbc2 bbc3
              have hs10 := hb10.size
              replace bA := bA.below hb10 (by omega)
              replace bB := bB.below hb10 (by omega)
              have bac0 := bA 0 _ rfl
              have bac1 := bA 1 _ rfl
              have bac2 := bA 2 _ rfl
              have bac3 := bA 3 _ rfl
              have bbc0 := bB 0 _ rfl
              have bbc1 := bB 1 _ rfl
              have bbc2 := bB 2 _ rfl
              have bbc3 := bB 3 _ rfl
              have HB10 := hide (HB9.out.trans (hb10.mono (by omega)))
              clear hb10 HB9
              cases o3
              · by_cases z3 : s4 = 0
                · subst z3
                  go_wp2_with fail
                  refine (l14On_is HO4.out).mono ?_
                  rintro e w11 ⟨rfl, hb11⟩
                  clear bac0 bac1 bac2 bac3 bbc0 bbc1 bbc2 bbc3
                  have hs11 := hb11.size
                  replace bA := bA.below hb11 (by omega)
                  replace bB := bB.below hb11 (by omega)
                  have bac0 := bA 0 _ rfl
                  have bac1 := bA 1 _ rfl
                  have bac2 := bA 2 _ rfl
                  have bac3 := bA 3 _ rfl
                  have bbc0 := bB 0 _ rfl
                  have bbc1 := bB 1 _ rfl
                  have bbc2 := bB 2 _ rfl
                  have bbc3 := bB 3 _ rfl
                  have HB11 := hide (HB10.out.trans (hb11.mono (by omega)))
                  clear hb11 HB10
                  cases o4
                  · go_wp2_with fail
                    go_ret
                    exact ⟨ret_bool (by rw [HM.out]; simp [wrap_0, *]), HB11.out⟩
                  · go_wp2_with fail
                    go_ret
                    exact ⟨ret_bool (by rw [HM.out]; simp [wrap_0, *]), HB11.out⟩
                · have n3 : (s4 == 0) = false := by simpa using z3
                  go_wp2_with fail
                  go_ret
                  exact ⟨ret_bool (by rw [HM.out]; simp [wrap_0, *]), HB10.out⟩
              · go_wp2_with fail
                go_ret
                exact ⟨ret_bool (by rw [HM.out]; simp [wrap_0, *]), HB10.out⟩
            · have n2 : (s3 == 0) = false := by simpa using z2
              by_cases z3 : s4 = 0
              · subst z3
                go_wp2_with fail
                refine (l14On_is HO4.out).mono ?_
                rintro e w10 ⟨rfl, hb10⟩
                clear bac0 bac1 bac2 bac3 bbc0 bbc1 bbc2 bbc3
                have hs10 := hb10.size
                replace bA := bA.below hb10 (by omega)
                replace bB := bB.below hb10 (by omega)
                have bac0 := bA 0 _ rfl
                have bac1 := bA 1 _ rfl
                have bac2 := bA 2 _ rfl
                have bac3 := bA 3 _ rfl
                have bbc0 := bB 0 _ rfl
                have bbc1 := bB 1 _ rfl
                have bbc2 := bB 2 _ rfl
                have bbc3 := bB 3 _ rfl
                have HB10 := hide (HB9.out.trans (hb10.mono (by omega)))
                clear hb10 HB9
                cases o4
                · go_wp2_with fail
                  go_ret
                  exact ⟨ret_bool (by rw [HM.out]; simp [wrap_0, *]), HB10.out⟩
                · go_wp2_with fail
                  go_ret
                  exact ⟨ret_bool (by rw [HM.out]; simp [wrap_0, *]), HB10.out⟩
              · have n3 : (s4 == 0) = false := by simpa using z3
                go_wp2_with fail
                go_ret
                exact ⟨ret_bool (by rw [HM.out]; simp [wrap_0, *]), HB9.out⟩
        · go_wp2_with fail
          go_ret
          exact ⟨ret_bool (by rw [HM.out]; simp [wrap_0, *]), HB9.out⟩
      · have n0 : (s1 == 0) = false := by simpa using z0
        by_cases z1 : s2 = 0
        · subst z1
          go_wp2_with fail
          refine (l14On_is HO2.out).mono ?_
          rintro e w9 ⟨rfl, hb9⟩
          clear bac0 bac1 bac2 bac3 bbc0 bbc1 bbc2 bbc3
          have hs9 := hb9.size
          replace bA := bA.below hb9 (by omega)
          replace bB := bB.below hb9 (by omega)
          have bac0 := bA 0 _ rfl
          have bac1 := bA 1 _ rfl
          have bac2 := bA 2 _ rfl
          have bac3 := bA 3 _ rfl
          have bbc0 := bB 0 _ rfl
          have bbc1 := bB 1 _ rfl
          have bbc2 := bB 2 _ rfl
          have bbc3 := bB 3 _ rfl
          have HB9 := hide (HB8.out.trans (hb9.mono (by omega)))
          clear hb9 HB8
          cases o2
          · by_cases z2 : s3 = 0
            · subst z2
              go_wp2_with fail
              refine (l14On_is HO3.out).mono ?_
              rintro e w10 ⟨rfl, hb10⟩
              clear bac0 bac1 bac2 bac3 bbc0 bbc1 bbc2 bbc3
              have hs10 := hb10.size
              replace bA := bA.below hb10 (by omega)
              replace bB := bB.below hb10 (by omega)
              have bac0 := bA 0 _ rfl
              have bac1 := bA 1 _ rfl
              have bac2 := bA 2 _ rfl
              have bac3 := bA 3 _ rfl
              have bbc0 := bB 0 _ rfl
              have bbc1 := bB 1 _ rfl
              have bbc2 := bB 2 _ rfl
              have bbc3 := bB 3 _ rfl
              have HB10 := hide (HB9.out.trans (hb10.mono (by omega)))
              clear hb10 HB9
              cases o3
              · by_cases z3 : s4 = 0
                · subst z3
                  go_wp2_with fail
                  refine (l14On_is HO4.out).mono ?_
                  rintro e w11 ⟨rfl, hb11⟩
                  clear bac0 bac1 bac2 bac3 bbc0 bbc1 bbc2 bbc3
                  have hs11 := hb11.size
                  replace bA := bA.below hb11 (by omega)
                  replace bB := bB.below hb11 (by omega)
                  have bac0 := bA 0 _ rfl
                  have bac1 := bA 1 _ rfl
                  have bac2 := bA 2 _ rfl
                  have bac3 := bA 3 _ rfl
                  have bbc0 := bB 0 _ rfl
                  have bbc1 := bB 1 _ rfl
                  have bbc2 := bB 2 _ rfl
                  have bbc3 := bB 3 _ rfl
                  have HB11 := hide (HB10.out.trans (hb11.mono (by omega)))
                  clear hb11 HB10
                  cases o4
                  · go_wp2_with fail
                    go_ret
                    exact ⟨ret_bool (by rw [HM.out]; simp [wrap_0, *]), HB11.out⟩
                  · go_wp2_with fail
                    go_ret
                    exact ⟨ret_bool (by rw [HM.out]; simp [wrap_0, *]), HB11.out⟩
                · have n3 : (s4 == 0) = false := by simpa using z3
                  go_wp2_with fail
                  go_ret
                  exact ⟨ret_bool (by rw [HM.out]; simp [wrap_0, *]), HB10.out⟩
              · go_wp2_with fail
                go_ret
                exact ⟨ret_bool (by rw [HM.out]; simp [wrap_0, *]), HB10.out⟩
            · have n2 : (s3 == 0) = false := by simpa using z2
              by_cases z3 : s4 = 0
              · subst z3
                go_wp2_with fail
                refine (l14On_is HO4.out).mono ?_
                rintro e w10 ⟨rfl, hb10⟩
                clear bac0 bac1 bac2 bac3 bbc0 bbc1 bbc2 bbc3
                have hs10 := hb10.size
                replace bA := bA.below hb10 (by omega)
                replace bB := bB.below hb10 (by omega)
                have bac0 := bA 0 _ rfl
                have bac1 := bA 1 _ rfl
                have bac2 := bA 2 _ rfl
                have bac3 := bA 3 _ rfl
                have bbc0 := bB 0 _ rfl
                have bbc1 := bB 1 _ rfl
                have bbc2 := bB 2 _ rfl
                have bbc3 := bB 3 _ rfl
                have HB10 := hide (HB9.out.trans (hb10.mono (by omega)))
                clear hb10 HB9
                cases o4
                · go_wp2_with fail
                  go_ret
                  exact ⟨ret_bool (by rw [HM.out]; simp [wrap_0, *]), HB10.out⟩
                · go_wp2_with fail
                  go_ret
                  exact ⟨ret_bool (by rw [HM.out]; simp [wrap_0, *]), HB10.out⟩
              · have n3 : (s4 == 0) = false := by simpa using z3
                go_wp2_with fail
                go_ret
                exact ⟨ret_bool (by rw [HM.out]; simp [wrap_0, *]), HB9.out⟩
          · go_wp2_with fail
            go_ret
            exact ⟨ret_bool (by rw [HM.out]; simp [wrap_0, *]), HB9.out⟩
        · have n1 : (s2 == 0) = false := by simpa using z1
          by_cases z2 : s3 = 0
          · subst z2
            go_wp2_with fail
            refine (l14On_is HO3.out).mono ?_
            rintro e w9 ⟨rfl, hb9⟩
            clear bac0 bac1 bac2 bac3 bbc0 bbc1 bbc2 bbc3
            have hs9 := hb9.size
            replace bA := bA.below hb9 (by omega)
            replace bB := bB.below hb9 (by omega)
            have bac0 := bA 0 _ rfl
            have bac1 := bA 1 _ rfl
            have bac2 := bA 2 _ rfl
            have bac3 := bA 3 _ rfl
            have bbc0 := bB 0 _ rfl
            have bbc1 := bB 1 _ rfl
            have bbc2 := bB 2 _ rfl
            have bbc3 := bB 3 _ rfl
            have HB9 := hide (HB8.out.trans (hb9.mono (by omega)))
            clear hb9 HB8
            cases o3
            · by_cases z3 : s4 = 0
              · subst z3
                go_wp2_with fail
                refine (l14On_is HO4.out).mono ?_
                rintro e w10 ⟨rfl, hb10⟩
                clear bac0 bac1 bac2 bac3 bbc0 bbc1 bbc2 bbc3
                have hs10 := hb10.size
                replace bA := bA.below hb10 (by omega)
                replace bB := bB.below hb10 (by omega)
                have bac0 := bA 0 _ rfl
                have bac1 := bA 1 _ rfl
                have bac2 := bA 2 _ rfl
                have bac3 := bA 3 _ rfl
                have bbc0 := bB 0 _ rfl
                have bbc1 := bB 1 _ rfl
                have bbc2 := bB 2 _ rfl
                have bbc3 := bB 3 _ rfl
                have HB10 := hide (HB9.out.trans (hb10.mono (by omega)))
                clear hb10 HB9
                cases o4
                · go_wp2_with fail
                  go_ret
                  exact ⟨ret_bool (by rw [HM.out]; simp [wrap_0, *]), HB10.out⟩
                · go_wp2_with fail
                  go_ret
                  exact ⟨ret_bool (by rw [HM.out]; simp [wrap_0, *]), HB10.out⟩
              · have n3 : (s4 == 0) = false := by simpa using z3
                go_wp2_with fail
                go_ret
                exact ⟨ret_bool (by rw [HM.out]; simp [wrap_0, *]), HB9.out⟩
            · go_wp2_with fail
              go_ret
              exact ⟨ret_bool (by rw [HM.out]; simp [wrap_0, *]), HB9.out⟩
          · have n2 : (s3 == 0) = false := by simpa using z2
            by_cases z3 : s4 = 0
            · subst z3
              go_wp2_with fail
              refine (l14On_is HO4.out).mono ?_
              rintro e w9 ⟨rfl, hb9⟩
              clear bac0 bac1 bac2 bac3 bbc0 bbc1 bbc2 bbc3
              have hs9 := hb9.size
              replace bA := bA.below hb9 (by omega)
              replace bB := bB.below hb9 (by omega)
              have bac0 := bA 0 _ rfl
              have bac1 := bA 1 _ rfl
              have bac2 := bA 2 _ rfl
              have bac3 := bA 3 _ rfl
              have bbc0 := bB 0 _ rfl
              have bbc1 := bB 1 _ rfl
              have bbc2 := bB 2 _ rfl
              have bbc3 := bB 3 _ rfl
              have HB9 := hide (HB8.out.trans (hb9.mono (by omega)))
              clear hb9 HB8
              cases o4
              · go_wp2_with fail
                go_ret
                exact ⟨ret_bool (by rw [HM.out]; simp [wrap_0, *]), HB9.out⟩
              · go_wp2_with fail
                go_ret
                exact ⟨ret_bool (by rw [HM.out]; simp [wrap_0, *]), HB9.out⟩
            · have n3 : (s4 == 0) = false := by simpa using z3
              go_wp2_with fail
              go_ret
              exact ⟨ret_bool (by rw [HM.out]; simp [wrap_0, *]), HB8.out⟩
    · go_wp2_with fail
      go_ret
      exact ⟨ret_bool (by rw [HM.out]; simp [wrap_0, *]), HB8.out⟩

theorem l14Meet_is {ax ay bx cy px py qx qy : Int} {b : Bool} (hA : CoS ax ay bx cy) (hP : CoS px py qx qy) (hc : mtB ax ay bx cy px py qx qy = b) {w : World} : Calls Tryz.prog 90 #[.agg #[.int .i64 ax, .int .i64 ay, .int .i64 bx, .int .i64 cy], .agg #[.int .i64 px, .int .i64 py, .int .i64 qx, .int .i64 qy]] w fun e w' => e = .returned (.bool b) ∧ Below w.heap.size w w' := by subst hc; exact l14Meet_c _ _ _ _ _ _ _ _ hA hP w

set_option maxRecDepth 100000 in
set_option maxHeartbeats 2000000 in
theorem l14PointSquare_is {ax ay bx cy px py n d : Int} (hA : CoS ax ay bx cy) (hP : CoP px py) (hc : pqF ax ay bx cy px py = (n, d)) {w : World} :
    Calls Tryz.prog 91 #[.agg #[.int .i64 ax, .int .i64 ay, .int .i64 bx, .int .i64 cy], .agg #[.int .i64 px, .int .i64 py]] w fun e w' => e = .returned (.agg #[.int .i64 n, .int .i64 d]) ∧ Below w.heap.size w w' := by
  have HA := hide hA
  have HP := hide hP
  have HK := hide (show FOk (n, d) by rw [← hc]; exact pqF_ok hA hP)
  obtain ⟨x1, hx1⟩ : ∃ x, sqD ax ay bx cy = x := ⟨_, rfl⟩
  obtain ⟨x2, hx2⟩ : ∃ x, dtI ax ay bx cy px py = x := ⟨_, rfl⟩
  obtain ⟨x3, hx3⟩ : ∃ x, sqD ax ay px py = x := ⟨_, rfl⟩
  obtain ⟨x4, hx4⟩ : ∃ x, sqD bx cy px py = x := ⟨_, rfl⟩
  obtain ⟨x5, hx5⟩ : ∃ x, crI ax ay bx cy px py = x := ⟨_, rfl⟩
  have y1 := sqD_fit hA.a hA.b
  have y2 := dtI_fit hA hP
  have y3 := sqD_fit hA.a hP
  have y4 := sqD_fit hA.b hP
  have y5 := crI_sq hA hP
  rw [hx1] at y1
  rw [hx2] at y2
  rw [hx3] at y3
  rw [hx4] at y4
  rw [hx5] at y5
  have HV := hide (show (x2 ≤ 0 → redF x3 1 = (n, d)) ∧ (¬ x2 ≤ 0 → x1 ≤ x2 → redF x4 1 = (n, d)) ∧ (¬ x2 ≤ 0 → ¬ x1 ≤ x2 → redF (x5 * x5) x1 = (n, d)) by
    subst hx1 hx2 hx3 hx4 hx5; rw [← hc]; exact ⟨fun h => (pqF_1 h).symm, fun h h2 => (pqF_2 h h2).symm, fun h h2 => (pqF_3 h h2).symm⟩)
  have HX1 := hide hx1
  have HX2 := hide hx2
  have HX3 := hide hx3
  have HX4 := hide hx4
  have HX5 := hide hx5
  clear hA hP hc hx1 hx2 hx3 hx4 hx5
  go_enter Tryz.func91, Tryz.ntmps91
  go_wp2_with fail
  obtain ⟨W0, hW0⟩ : ∃ W0 : World, W0 = (((w.alloc (.cells #[.int .i64 ax, .int .i64 ay, .int .i64 bx, .int .i64 cy] 70)).alloc (.cells #[.int .i64 px, .int .i64 py] 42)).alloc (.cells #[.int .i64 0, .int .i64 0] 83)) := ⟨_, rfl⟩
  rw [← hW0]
  have bA : Box W0 w.heap.size [.int .i64 ax, .int .i64 ay, .int .i64 bx, .int .i64 cy] := by rw [hW0]; exact ((box_at _ _ _ _ (by simp)).alloc (by simp) _).alloc (by simp; try omega) _
  have bB : Box W0 (w.heap.size + 1) [.int .i64 px, .int .i64 py] := by rw [hW0]; exact (box_at _ _ _ _ (by simp)).alloc (by simp) _
  have bR : Box W0 (w.heap.size + 2) [.int .i64 0, .int .i64 0] := by rw [hW0]; exact box_at _ _ _ _ (by simp)
  have fR : Fz W0 (w.heap.size + 2) := by rw [hW0]; exact fz_at _ _ _ _ (by simp)
  have HB0 := hide (show Below w.heap.size w W0 by rw [hW0]; exact (((Below.refl _ _).alloc (Nat.le_refl _) _).alloc (by simp) _).alloc (by simp; try omega) _)
  have hs0 : w.heap.size + 3 ≤ W0.heap.size := by rw [hW0]; simp
  clear hW0
  have bac0 := bA 0 _ rfl
  have bac1 := bA 1 _ rfl
  have bac2 := bA 2 _ rfl
  have bac3 := bA 3 _ rfl
  have bbc0 := bB 0 _ rfl
  have bbc1 := bB 1 _ rfl
  have brc0 := bR 0 _ rfl
  have brc1 := bR 1 _ rfl
  have frc0 := fR 0
  have frc1 := fR 1
  go_wp2_with fail
  refine (l02Square_is HA.out.a HA.out.b HX1.out).mono ?_
  rintro e w1 ⟨rfl, hb1⟩
  clear bac0 bac1 bac2 bac3 bbc0 bbc1 brc0 brc1 frc0 frc1
  have hs1 := hb1.size
  replace bA := bA.below hb1 (by omega)
  replace bB := bB.below hb1 (by omega)
  replace bR := bR.below hb1 (by omega)
  replace fR := fR.below hb1 (by omega)
  have bac0 := bA 0 _ rfl
  have bac1 := bA 1 _ rfl
  have bac2 := bA 2 _ rfl
  have bac3 := bA 3 _ rfl
  have bbc0 := bB 0 _ rfl
  have bbc1 := bB 1 _ rfl
  have brc0 := bR 0 _ rfl
  have brc1 := bR 1 _ rfl
  have frc0 := fR 0
  have frc1 := fR 1
  have HB1 := hide (HB0.out.trans (hb1.mono (by omega)))
  clear hb1 HB0
  go_wp2_with fail
  refine (l14Dot_is HA.out HP.out HX2.out).mono ?_
  rintro e w2 ⟨rfl, hb2⟩
  clear bac0 bac1 bac2 bac3 bbc0 bbc1 brc0 brc1 frc0 frc1
  have hs2 := hb2.size
  replace bA := bA.below hb2 (by omega)
  replace bB := bB.below hb2 (by omega)
  replace bR := bR.below hb2 (by omega)
  replace fR := fR.below hb2 (by omega)
  have bac0 := bA 0 _ rfl
  have bac1 := bA 1 _ rfl
  have bac2 := bA 2 _ rfl
  have bac3 := bA 3 _ rfl
  have bbc0 := bB 0 _ rfl
  have bbc1 := bB 1 _ rfl
  have brc0 := bR 0 _ rfl
  have brc1 := bR 1 _ rfl
  have frc0 := fR 0
  have frc1 := fR 1
  have HB2 := hide (HB1.out.trans (hb2.mono (by omega)))
  clear hb2 HB1
  by_cases h1 : x2 ≤ 0
  · have HR := hide (HV.out.1 (by omega))
    clear HV
    go_wp2_with fail
    refine (l02Square_is HA.out.a HP.out HX3.out).mono ?_
    rintro e w3 ⟨rfl, hb3⟩
    clear bac0 bac1 bac2 bac3 bbc0 bbc1 brc0 brc1 frc0 frc1
    have hs3 := hb3.size
    replace bA := bA.below hb3 (by omega)
    replace bB := bB.below hb3 (by omega)
    replace bR := bR.below hb3 (by omega)
    replace fR := fR.below hb3 (by omega)
    have bac0 := bA 0 _ rfl
    have bac1 := bA 1 _ rfl
    have bac2 := bA 2 _ rfl
    have bac3 := bA 3 _ rfl
    have bbc0 := bB 0 _ rfl
    have bbc1 := bB 1 _ rfl
    have brc0 := bR 0 _ rfl
    have brc1 := bR 1 _ rfl
    have frc0 := fR 0
    have frc1 := fR 1
    have HB3 := hide (HB2.out.trans (hb3.mono (by omega)))
    clear hb3 HB2
    go_wp2_with fail
    refine (l14Make_is (by omega) (by omega) (by omega) (by omega) HR.out).mono ?_
    rintro e w4 ⟨rfl, hb4⟩
    clear bac0 bac1 bac2 bac3 bbc0 bbc1 brc0 brc1 frc0 frc1
    have hs4 := hb4.size
    replace bA := bA.below hb4 (by omega)
    replace bB := bB.below hb4 (by omega)
    replace bR := bR.below hb4 (by omega)
    replace fR := fR.below hb4 (by omega)
    have bac0 := bA 0 _ rfl
    have bac1 := bA 1 _ rfl
    have bac2 := bA 2 _ rfl
    have bac3 := bA 3 _ rfl
    have bbc0 := bB 0 _ rfl
    have bbc1 := bB 1 _ rfl
    have brc0 := bR 0 _ rfl
    have brc1 := bR 1 _ rfl
    have frc0 := fR 0
    have frc1 := fR 1
    have HB4 := hide (HB3.out.trans (hb4.mono (by omega)))
    clear hb4 HB3
    go_wp2_with fail
    refine bodyPost_ret (v := .agg #[.int .i64 n, .int .i64 d]) (by simp [results, Tryz.results91, go_sem, brc0, brc1]) rfl ⟨rfl, ?_⟩
    exact ((HB4.out.setCell (by first | omega | (simp; done) | (simp; omega)) _).setCell (by first | omega | (simp; done) | (simp; omega)) _)
  · by_cases h2 : x1 ≤ x2
    · have HR := hide (HV.out.2.1 (by omega) (by omega))
      clear HV
      go_wp2_with fail
      refine (l02Square_is HA.out.b HP.out HX4.out).mono ?_
      rintro e w3 ⟨rfl, hb3⟩
      clear bac0 bac1 bac2 bac3 bbc0 bbc1 brc0 brc1 frc0 frc1
      have hs3 := hb3.size
      replace bA := bA.below hb3 (by omega)
      replace bB := bB.below hb3 (by omega)
      replace bR := bR.below hb3 (by omega)
      replace fR := fR.below hb3 (by omega)
      have bac0 := bA 0 _ rfl
      have bac1 := bA 1 _ rfl
      have bac2 := bA 2 _ rfl
      have bac3 := bA 3 _ rfl
      have bbc0 := bB 0 _ rfl
      have bbc1 := bB 1 _ rfl
      have brc0 := bR 0 _ rfl
      have brc1 := bR 1 _ rfl
      have frc0 := fR 0
      have frc1 := fR 1
      have HB3 := hide (HB2.out.trans (hb3.mono (by omega)))
      clear hb3 HB2
      go_wp2_with fail
      refine (l14Make_is (by omega) (by omega) (by omega) (by omega) HR.out).mono ?_
      rintro e w4 ⟨rfl, hb4⟩
      clear bac0 bac1 bac2 bac3 bbc0 bbc1 brc0 brc1 frc0 frc1
      have hs4 := hb4.size
      replace bA := bA.below hb4 (by omega)
      replace bB := bB.below hb4 (by omega)
      replace bR := bR.below hb4 (by omega)
      replace fR := fR.below hb4 (by omega)
      have bac0 := bA 0 _ rfl
      have bac1 := bA 1 _ rfl
      have bac2 := bA 2 _ rfl
      have bac3 := bA 3 _ rfl
      have bbc0 := bB 0 _ rfl
      have bbc1 := bB 1 _ rfl
      have brc0 := bR 0 _ rfl
      have brc1 := bR 1 _ rfl
      have frc0 := fR 0
      have frc1 := fR 1
      have HB4 := hide (HB3.out.trans (hb4.mono (by omega)))
      clear hb4 HB3
      go_wp2_with fail
      refine bodyPost_ret (v := .agg #[.int .i64 n, .int .i64 d]) (by simp [results, Tryz.results91, go_sem, brc0, brc1]) rfl ⟨rfl, ?_⟩
      exact ((HB4.out.setCell (by first | omega | (simp; done) | (simp; omega)) _).setCell (by first | omega | (simp; done) | (simp; omega)) _)
    · have HR := hide (HV.out.2.2 (by omega) (by omega))
      clear HV
      go_wp2_with fail
      refine (l14Cross_is HA.out HP.out HX5.out).mono ?_
      rintro e w3 ⟨rfl, hb3⟩
      clear bac0 bac1 bac2 bac3 bbc0 bbc1 brc0 brc1 frc0 frc1
      have hs3 := hb3.size
      replace bA := bA.below hb3 (by omega)
      replace bB := bB.below hb3 (by omega)
      replace bR := bR.below hb3 (by omega)
      replace fR := fR.below hb3 (by omega)
      have bac0 := bA 0 _ rfl
      have bac1 := bA 1 _ rfl
      have bac2 := bA 2 _ rfl
      have bac3 := bA 3 _ rfl
      have bbc0 := bB 0 _ rfl
      have bbc1 := bB 1 _ rfl
      have brc0 := bR 0 _ rfl
      have brc1 := bR 1 _ rfl
      have frc0 := fR 0
      have frc1 := fR 1
      have HB3 := hide (HB2.out.trans (hb3.mono (by omega)))
      clear hb3 HB2
      go_wp2_with fail
      refine (l14Make_is y5.1 (by omega) (by omega) (by omega) HR.out).mono ?_
      rintro e w4 ⟨rfl, hb4⟩
      clear bac0 bac1 bac2 bac3 bbc0 bbc1 brc0 brc1 frc0 frc1
      have hs4 := hb4.size
      replace bA := bA.below hb4 (by omega)
      replace bB := bB.below hb4 (by omega)
      replace bR := bR.below hb4 (by omega)
      replace fR := fR.below hb4 (by omega)
      have bac0 := bA 0 _ rfl
      have bac1 := bA 1 _ rfl
      have bac2 := bA 2 _ rfl
      have bac3 := bA 3 _ rfl
      have bbc0 := bB 0 _ rfl
      have bbc1 := bB 1 _ rfl
      have brc0 := bR 0 _ rfl
      have brc1 := bR 1 _ rfl
      have frc0 := fR 0
      have frc1 := fR 1
      have HB4 := hide (HB3.out.trans (hb4.mono (by omega)))
      clear hb4 HB3
      go_wp2_with fail
      refine bodyPost_ret (v := .agg #[.int .i64 n, .int .i64 d]) (by simp [results, Tryz.results91, go_sem, brc0, brc1]) rfl ⟨rfl, ?_⟩
      exact ((HB4.out.setCell (by first | omega | (simp; done) | (simp; omega)) _).setCell (by first | omega | (simp; done) | (simp; omega)) _)

/-- The least of the first k + 1 of four fractions. -/
def bst (f0 f1 f2 f3 : Int × Int) : Nat → Int × Int
  | 0 => f0
  | 1 => bsF f0 f1
  | 2 => bsF (bsF f0 f1) f2
  | _ => bsF (bsF (bsF f0 f1) f2) f3
theorem bst_1 (f0 f1 f2 f3 : Int × Int) : bst f0 f1 f2 f3 1 = bsF (bst f0 f1 f2 f3 0) f1 := rfl
theorem bst_2 (f0 f1 f2 f3 : Int × Int) : bst f0 f1 f2 f3 2 = bsF (bst f0 f1 f2 f3 1) f2 := rfl
theorem bst_3 (f0 f1 f2 f3 : Int × Int) : bst f0 f1 f2 f3 3 = bsF (bst f0 f1 f2 f3 2) f3 := rfl
theorem bst_end (f0 f1 f2 f3 : Int × Int) : bst f0 f1 f2 f3 3 = bsF (bsF (bsF f0 f1) f2) f3 := rfl

set_option maxRecDepth 100000 in
set_option maxHeartbeats 2000000 in
theorem l14Square_is {ax ay bx cy px py qx qy nn dd : Int} (hA : CoS ax ay bx cy) (hP : CoS px py qx qy) (hc : sgF ax ay bx cy px py qx qy = (nn, dd)) {w : World} :
    Calls Tryz.prog 72 #[.agg #[.int .i64 ax, .int .i64 ay, .int .i64 bx, .int .i64 cy], .agg #[.int .i64 px, .int .i64 py, .int .i64 qx, .int .i64 qy]] w fun e w' => e = .returned (.agg #[.int .i64 nn, .int .i64 dd]) ∧ Below w.heap.size w w' := by
  have HA := hide hA
  have HP := hide hP
  obtain ⟨y1, hy1⟩ : ∃ y, mtB ax ay bx cy px py qx qy = y := ⟨_, rfl⟩
  have HY := hide hy1
  obtain ⟨⟨n2, d2⟩, k2⟩ : ∃ p, pqF ax ay bx cy px py = p := ⟨_, rfl⟩
  obtain ⟨⟨n4, d4⟩, k4⟩ : ∃ p, pqF ax ay bx cy qx qy = p := ⟨_, rfl⟩
  obtain ⟨⟨n5, d5⟩, k5⟩ : ∃ p, pqF px py qx qy ax ay = p := ⟨_, rfl⟩
  obtain ⟨⟨n6, d6⟩, k6⟩ : ∃ p, pqF px py qx qy bx cy = p := ⟨_, rfl⟩
  have HD2 := hide (show FOk (n2, d2) by rw [← k2]; exact pqF_ok hA hP.a)
  have HD4 := hide (show FOk (n4, d4) by rw [← k4]; exact pqF_ok hA hP.b)
  have HD5 := hide (show FOk (n5, d5) by rw [← k5]; exact pqF_ok hP hA.a)
  have HD6 := hide (show FOk (n6, d6) by rw [← k6]; exact pqF_ok hP hA.b)
  have HE1 := hide (show y1 = true → (0, 1) = (nn, dd) by intro h; rw [← hc, sgF_y (hy1.trans h)])
  have HE2 := hide (show y1 = false → bsF (bsF (bsF (n2, d2) (n4, d4)) (n5, d5)) (n6, d6) = (nn, dd) by intro h; rw [← hc, sgF_n (hy1.trans h), k2, k4, k5, k6])
  have HK2 := hide k2
  have HK4 := hide k4
  have HK5 := hide k5
  have HK6 := hide k6
  clear hA hP hc hy1 k2 k4 k5 k6
  go_enter Tryz.func72, Tryz.ntmps72
  go_wp2_with fail
  obtain ⟨W0, hW0⟩ : ∃ W0 : World, W0 = (((w.alloc (.cells #[.int .i64 ax, .int .i64 ay, .int .i64 bx, .int .i64 cy] 70)).alloc (.cells #[.int .i64 px, .int .i64 py, .int .i64 qx, .int .i64 qy] 70)).alloc (.cells #[.int .i64 0, .int .i64 0] 83)) := ⟨_, rfl⟩
  rw [← hW0]
  have bA : Box W0 w.heap.size [.int .i64 ax, .int .i64 ay, .int .i64 bx, .int .i64 cy] := by rw [hW0]; exact ((box_at _ _ _ _ (by simp)).alloc (by simp) _).alloc (by simp; try omega) _
  have bB : Box W0 (w.heap.size + 1) [.int .i64 px, .int .i64 py, .int .i64 qx, .int .i64 qy] := by rw [hW0]; exact (box_at _ _ _ _ (by simp)).alloc (by simp) _
  have bR : Box W0 (w.heap.size + 2) [.int .i64 0, .int .i64 0] := by rw [hW0]; exact box_at _ _ _ _ (by simp)
  have fR : Fz W0 (w.heap.size + 2) := by rw [hW0]; exact fz_at _ _ _ _ (by simp)
  have HB0 := hide (show Below w.heap.size w W0 by rw [hW0]; exact (((Below.refl _ _).alloc (Nat.le_refl _) _).alloc (by simp) _).alloc (by simp; try omega) _)
  have hs0 : w.heap.size + 3 ≤ W0.heap.size := by rw [hW0]; simp
  clear hW0
  have bac0 := bA 0 _ rfl
  have bac1 := bA 1 _ rfl
  have bac2 := bA 2 _ rfl
  have bac3 := bA 3 _ rfl
  have bbc0 := bB 0 _ rfl
  have bbc1 := bB 1 _ rfl
  have bbc2 := bB 2 _ rfl
  have bbc3 := bB 3 _ rfl
  have brc0 := bR 0 _ rfl
  have brc1 := bR 1 _ rfl
  have frc0 := fR 0
  have frc1 := fR 1
  go_wp2_with fail
  refine (l14Meet_is HA.out HP.out HY.out).mono ?_
  rintro e w1 ⟨rfl, hb1⟩
  clear bac0 bac1 bac2 bac3 bbc0 bbc1 bbc2 bbc3 brc0 brc1 frc0 frc1
  have hs1 := hb1.size
  replace bA := bA.below hb1 (by omega)
  replace bB := bB.below hb1 (by omega)
  replace bR := bR.below hb1 (by omega)
  replace fR := fR.below hb1 (by omega)
  have bac0 := bA 0 _ rfl
  have bac1 := bA 1 _ rfl
  have bac2 := bA 2 _ rfl
  have bac3 := bA 3 _ rfl
  have bbc0 := bB 0 _ rfl
  have bbc1 := bB 1 _ rfl
  have bbc2 := bB 2 _ rfl
  have bbc3 := bB 3 _ rfl
  have brc0 := bR 0 _ rfl
  have brc1 := bR 1 _ rfl
  have frc0 := fR 0
  have frc1 := fR 1
  have HB1 := hide (HB0.out.trans (hb1.mono (by omega)))
  clear hb1 HB0
  cases y1
  · clear HE1
    replace HE2 := hide (HE2.out (by simp))
    go_wp2_with fail
    refine (l14PointSquare_is HA.out HP.out.a HK2.out).mono ?_
    rintro e w2 ⟨rfl, hb2⟩
    clear bac0 bac1 bac2 bac3 bbc0 bbc1 bbc2 bbc3 brc0 brc1 frc0 frc1
    have hs2 := hb2.size
    replace bA := bA.below hb2 (by omega)
    replace bB := bB.below hb2 (by omega)
    replace bR := bR.below hb2 (by omega)
    replace fR := fR.below hb2 (by omega)
    have bac0 := bA 0 _ rfl
    have bac1 := bA 1 _ rfl
    have bac2 := bA 2 _ rfl
    have bac3 := bA 3 _ rfl
    have bbc0 := bB 0 _ rfl
    have bbc1 := bB 1 _ rfl
    have bbc2 := bB 2 _ rfl
    have bbc3 := bB 3 _ rfl
    have brc0 := bR 0 _ rfl
    have brc1 := bR 1 _ rfl
    have frc0 := fR 0
    have frc1 := fR 1
    have HB2 := hide (HB1.out.trans (hb2.mono (by omega)))
    clear hb2 HB1
    go_wp2_with fail
    obtain ⟨W3, hW3⟩ : ∃ W3 : World, W3 = w2.alloc (.cells #[.int .i64 n2, .int .i64 d2] 83) := ⟨_, rfl⟩
    rw [← hW3]
    have hz3 : W3.heap.size = w2.heap.size + 1 := by rw [hW3]; simp
    have bC : Box W3 w2.heap.size [.int .i64 n2, .int .i64 d2] := by rw [hW3]; exact box_at _ _ _ _ rfl
    have fC : Fz W3 w2.heap.size := by rw [hW3]; exact fz_at _ _ _ _ rfl
    have bA3 : Box W3 w.heap.size [.int .i64 ax, .int .i64 ay, .int .i64 bx, .int .i64 cy] := by rw [hW3]; exact bA.alloc (by omega) _
    have bB3 : Box W3 (w.heap.size + 1) [.int .i64 px, .int .i64 py, .int .i64 qx, .int .i64 qy] := by rw [hW3]; exact bB.alloc (by omega) _
    have bR3 : Box W3 (w.heap.size + 2) [.int .i64 0, .int .i64 0] := by rw [hW3]; exact bR.alloc (by omega) _
    have fR3 : Fz W3 (w.heap.size + 2) := by rw [hW3]; exact fR.alloc (by omega) _
    have HB3 := hide (show Below w.heap.size w W3 by rw [hW3]; exact HB2.out.alloc (by omega) _)
    clear bac0 bac1 bac2 bac3 bbc0 bbc1 bbc2 bbc3 brc0 brc1 frc0 frc1
    clear hW3 bA bB bR fR HB2
    obtain ⟨b0, hb0⟩ : ∃ b0, w.heap.size = b0 := ⟨_, rfl⟩
    obtain ⟨b1, hb1⟩ : ∃ b1, b0 + 1 = b1 := ⟨_, rfl⟩
    rw [hb0] at bA3 bB3 bR3 fR3
    rw [hb1] at bB3
    have e2 : b0 + 2 = b1 + 1 := by omega
    rw [e2] at bR3 fR3
    clear e2
    have HSS : Hid ((World.drew W3).cell? ⟨b0, 0, none⟩ = some (.int .i64 ax) ∧ (World.drew W3).cell? ⟨b0, 1, none⟩ = some (.int .i64 ay) ∧ (World.drew W3).cell? ⟨b0, 2, none⟩ = some (.int .i64 bx) ∧ (World.drew W3).cell? ⟨b0, 3, none⟩ = some (.int .i64 cy) ∧ (World.drew W3).cell? ⟨b1, 0, none⟩ = some (.int .i64 px) ∧ (World.drew W3).cell? ⟨b1, 1, none⟩ = some (.int .i64 py) ∧ (World.drew W3).cell? ⟨b1, 2, none⟩ = some (.int .i64 qx) ∧ (World.drew W3).cell? ⟨b1, 3, none⟩ = some (.int .i64 qy)) := hide ⟨bA3 0 _ rfl, bA3 1 _ rfl, bA3 2 _ rfl, bA3 3 _ rfl, bB3 0 _ rfl, bB3 1 _ rfl, bB3 2 _ rfl, bB3 3 _ rfl⟩
    have hbs : b0 + 3 ≤ w2.heap.size := by omega
    clear bA3 bB3
    try rw [hb0]
    try rw [hb1]
    go_region_held3 (fun W => W.cell? ⟨b0, 0, none⟩ = some (.int .i64 ax) ∧ W.cell? ⟨b0, 1, none⟩ = some (.int .i64 ay) ∧ W.cell? ⟨b0, 2, none⟩ = some (.int .i64 bx) ∧ W.cell? ⟨b0, 3, none⟩ = some (.int .i64 cy) ∧ W.cell? ⟨b1, 0, none⟩ = some (.int .i64 px) ∧ W.cell? ⟨b1, 1, none⟩ = some (.int .i64 py) ∧ W.cell? ⟨b1, 2, none⟩ = some (.int .i64 qx) ∧ W.cell? ⟨b1, 3, none⟩ = some (.int .i64 qy)) (with_reducible first | exact HSS.out | exact HSA.out _) (first | (go_at_call 91; (with_reducible refine (l14PointSquare_is HA.out HP.out.b HK4.out).mono ?_); rintro e w4 ⟨rfl, hq4⟩; have hz4 : W3.heap.size ≤ w4.heap.size := hq4.size; have HSS : Hid (w4.cell? ⟨b0, 0, none⟩ = some (.int .i64 ax) ∧ w4.cell? ⟨b0, 1, none⟩ = some (.int .i64 ay) ∧ w4.cell? ⟨b0, 2, none⟩ = some (.int .i64 bx) ∧ w4.cell? ⟨b0, 3, none⟩ = some (.int .i64 cy) ∧ w4.cell? ⟨b1, 0, none⟩ = some (.int .i64 px) ∧ w4.cell? ⟨b1, 1, none⟩ = some (.int .i64 py) ∧ w4.cell? ⟨b1, 2, none⟩ = some (.int .i64 qx) ∧ w4.cell? ⟨b1, 3, none⟩ = some (.int .i64 qy)) := hide ⟨(hq4.cell (p := ⟨b0, 0, none⟩) (by show b0 < W3.heap.size; omega)).trans HSS.out.1, (hq4.cell (p := ⟨b0, 1, none⟩) (by show b0 < W3.heap.size; omega)).trans HSS.out.2.1, (hq4.cell (p := ⟨b0, 2, none⟩) (by show b0 < W3.heap.size; omega)).trans HSS.out.2.2.1, (hq4.cell (p := ⟨b0, 3, none⟩) (by show b0 < W3.heap.size; omega)).trans HSS.out.2.2.2.1, (hq4.cell (p := ⟨b1, 0, none⟩) (by show b1 < W3.heap.size; omega)).trans HSS.out.2.2.2.2.1, (hq4.cell (p := ⟨b1, 1, none⟩) (by show b1 < W3.heap.size; omega)).trans HSS.out.2.2.2.2.2.1, (hq4.cell (p := ⟨b1, 2, none⟩) (by show b1 < W3.heap.size; omega)).trans HSS.out.2.2.2.2.2.2.1, (hq4.cell (p := ⟨b1, 3, none⟩) (by show b1 < W3.heap.size; omega)).trans HSS.out.2.2.2.2.2.2.2⟩) | (go_at_call 91; (with_reducible refine (l14PointSquare_is HP.out HA.out.a HK5.out).mono ?_); rintro e w5 ⟨rfl, hq5⟩; have hz5 : w4.heap.size ≤ w5.heap.size := hq5.size; have HSS : Hid (w5.cell? ⟨b0, 0, none⟩ = some (.int .i64 ax) ∧ w5.cell? ⟨b0, 1, none⟩ = some (.int .i64 ay) ∧ w5.cell? ⟨b0, 2, none⟩ = some (.int .i64 bx) ∧ w5.cell? ⟨b0, 3, none⟩ = some (.int .i64 cy) ∧ w5.cell? ⟨b1, 0, none⟩ = some (.int .i64 px) ∧ w5.cell? ⟨b1, 1, none⟩ = some (.int .i64 py) ∧ w5.cell? ⟨b1, 2, none⟩ = some (.int .i64 qx) ∧ w5.cell? ⟨b1, 3, none⟩ = some (.int .i64 qy)) := hide ⟨(hq5.cell (p := ⟨b0, 0, none⟩) (by show b0 < w4.heap.size; omega)).trans HSS.out.1, (hq5.cell (p := ⟨b0, 1, none⟩) (by show b0 < w4.heap.size; omega)).trans HSS.out.2.1, (hq5.cell (p := ⟨b0, 2, none⟩) (by show b0 < w4.heap.size; omega)).trans HSS.out.2.2.1, (hq5.cell (p := ⟨b0, 3, none⟩) (by show b0 < w4.heap.size; omega)).trans HSS.out.2.2.2.1, (hq5.cell (p := ⟨b1, 0, none⟩) (by show b1 < w4.heap.size; omega)).trans HSS.out.2.2.2.2.1, (hq5.cell (p := ⟨b1, 1, none⟩) (by show b1 < w4.heap.size; omega)).trans HSS.out.2.2.2.2.2.1, (hq5.cell (p := ⟨b1, 2, none⟩) (by show b1 < w4.heap.size; omega)).trans HSS.out.2.2.2.2.2.2.1, (hq5.cell (p := ⟨b1, 3, none⟩) (by show b1 < w4.heap.size; omega)).trans HSS.out.2.2.2.2.2.2.2⟩) | (go_at_call 91; (with_reducible refine (l14PointSquare_is HP.out HA.out.b HK6.out).mono ?_); rintro e w6 ⟨rfl, hq6⟩; have hz6 : w5.heap.size ≤ w6.heap.size := hq6.size; have HSS : Hid (w6.cell? ⟨b0, 0, none⟩ = some (.int .i64 ax) ∧ w6.cell? ⟨b0, 1, none⟩ = some (.int .i64 ay) ∧ w6.cell? ⟨b0, 2, none⟩ = some (.int .i64 bx) ∧ w6.cell? ⟨b0, 3, none⟩ = some (.int .i64 cy) ∧ w6.cell? ⟨b1, 0, none⟩ = some (.int .i64 px) ∧ w6.cell? ⟨b1, 1, none⟩ = some (.int .i64 py) ∧ w6.cell? ⟨b1, 2, none⟩ = some (.int .i64 qx) ∧ w6.cell? ⟨b1, 3, none⟩ = some (.int .i64 qy)) := hide ⟨(hq6.cell (p := ⟨b0, 0, none⟩) (by show b0 < w5.heap.size; omega)).trans HSS.out.1, (hq6.cell (p := ⟨b0, 1, none⟩) (by show b0 < w5.heap.size; omega)).trans HSS.out.2.1, (hq6.cell (p := ⟨b0, 2, none⟩) (by show b0 < w5.heap.size; omega)).trans HSS.out.2.2.1, (hq6.cell (p := ⟨b0, 3, none⟩) (by show b0 < w5.heap.size; omega)).trans HSS.out.2.2.2.1, (hq6.cell (p := ⟨b1, 0, none⟩) (by show b1 < w5.heap.size; omega)).trans HSS.out.2.2.2.2.1, (hq6.cell (p := ⟨b1, 1, none⟩) (by show b1 < w5.heap.size; omega)).trans HSS.out.2.2.2.2.2.1, (hq6.cell (p := ⟨b1, 2, none⟩) (by show b1 < w5.heap.size; omega)).trans HSS.out.2.2.2.2.2.2.1, (hq6.cell (p := ⟨b1, 3, none⟩) (by show b1 < w5.heap.size; omega)).trans HSS.out.2.2.2.2.2.2.2⟩; have HSA : Hid (∀ o : Obj, (w6.alloc o).cell? ⟨b0, 0, none⟩ = some (.int .i64 ax) ∧ (w6.alloc o).cell? ⟨b0, 1, none⟩ = some (.int .i64 ay) ∧ (w6.alloc o).cell? ⟨b0, 2, none⟩ = some (.int .i64 bx) ∧ (w6.alloc o).cell? ⟨b0, 3, none⟩ = some (.int .i64 cy) ∧ (w6.alloc o).cell? ⟨b1, 0, none⟩ = some (.int .i64 px) ∧ (w6.alloc o).cell? ⟨b1, 1, none⟩ = some (.int .i64 py) ∧ (w6.alloc o).cell? ⟨b1, 2, none⟩ = some (.int .i64 qx) ∧ (w6.alloc o).cell? ⟨b1, 3, none⟩ = some (.int .i64 qy)) := hide (fun o => ⟨(World.cell?_alloc_lt w6 o ⟨b0, 0, none⟩ (by show b0 < w6.heap.size; omega)).trans HSS.out.1, (World.cell?_alloc_lt w6 o ⟨b0, 1, none⟩ (by show b0 < w6.heap.size; omega)).trans HSS.out.2.1, (World.cell?_alloc_lt w6 o ⟨b0, 2, none⟩ (by show b0 < w6.heap.size; omega)).trans HSS.out.2.2.1, (World.cell?_alloc_lt w6 o ⟨b0, 3, none⟩ (by show b0 < w6.heap.size; omega)).trans HSS.out.2.2.2.1, (World.cell?_alloc_lt w6 o ⟨b1, 0, none⟩ (by show b1 < w6.heap.size; omega)).trans HSS.out.2.2.2.2.1, (World.cell?_alloc_lt w6 o ⟨b1, 1, none⟩ (by show b1 < w6.heap.size; omega)).trans HSS.out.2.2.2.2.2.1, (World.cell?_alloc_lt w6 o ⟨b1, 2, none⟩ (by show b1 < w6.heap.size; omega)).trans HSS.out.2.2.2.2.2.2.1, (World.cell?_alloc_lt w6 o ⟨b1, 3, none⟩ (by show b1 < w6.heap.size; omega)).trans HSS.out.2.2.2.2.2.2.2⟩)))
    clear HSA HSS
    have hq36 : Below W3.heap.size W3 w6 := (((Joins.below_draws _ _ 1 : Below W3.heap.size W3 (World.drew W3)).trans hq4).trans (hq5.mono hz4)).trans (hq6.mono (Nat.le_trans hz4 hz5))
    clear hq4 hq5 hq6
    obtain ⟨W7, hW7⟩ : ∃ W7 : World, W7 = w6.alloc (.cells #[.int .i64 n4, .int .i64 d4, .int .i64 n5, .int .i64 d5, .int .i64 n6, .int .i64 d6] 83) := ⟨_, rfl⟩
    rw [← hW7]
    have hz7 : W7.heap.size = w6.heap.size + 1 := by rw [hW7]; simp
    have B7 : Below W3.heap.size W3 W7 := by rw [hW7]; exact hq36.alloc (by omega) _
    have bL : Box W7 w6.heap.size [.int .i64 n4, .int .i64 d4, .int .i64 n5, .int .i64 d5, .int .i64 n6, .int .i64 d6] := by rw [hW7]; exact box_at _ _ _ _ rfl
    clear hW7 hq36
    replace bC := bC.below B7 (by omega)
    replace fC := fC.below B7 (by omega)
    replace bR3 := bR3.below B7 (by omega)
    replace fR3 := fR3.below B7 (by omega)
    have HB7 : Below b0 w W7 := by rw [← hb0]; exact HB3.out.trans (B7.mono (by omega))
    clear B7 HB3
    have h67 : w2.heap.size + 1 ≤ w6.heap.size := by omega
    go_wp2_with fail
    go_loopw [7] (fun i wr => ∃ (k : Nat) (n d : Int), k ≤ 3 ∧ i = .int .i64 k ∧ Hid (FOk (n, d) ∧ bst (n2, d2) (n4, d4) (n5, d5) (n6, d6) k = (n, d)) ∧ Box wr w2.heap.size [.int .i64 n, .int .i64 d] ∧ Fz wr w2.heap.size ∧ Box wr w6.heap.size [.int .i64 n4, .int .i64 d4, .int .i64 n5, .int .i64 d5, .int .i64 n6, .int .i64 d6] ∧ Box wr (b1 + 1) [.int .i64 0, .int .i64 0] ∧ Fz wr (b1 + 1) ∧ Below b0 w wr ∧ w6.heap.size + 1 ≤ wr.heap.size) (fun i _ => 3 - (intOf i).toNat)
    case atStart => exact ⟨0, n2, d2, by omega, rfl, hide ⟨HD2.out, rfl⟩, bC, fC, bL, bR3, fR3, HB7, by omega⟩
    case round =>
      clear bC fC bL bR3 fR3 HB7
      obtain ⟨k, n, d, hk, rfl, HKD, bC, fC, bL, bR, fR, hbr, hsr⟩ := hrel
      have hk4 : k = 0 ∨ k = 1 ∨ k = 2 ∨ k = 3 := by omega
      rcases hk4 with rfl | rfl | rfl | rfl
      · obtain ⟨y, hy⟩ : ∃ y, ltF (n4, d4) (n, d) = y := ⟨_, rfl⟩
        have HLT := hide hy
        clear hy
        have HSS : Hid ((World.drew wr).cell? ⟨w6.heap.size, 0, none⟩ = some (.int .i64 n4) ∧ (World.drew wr).cell? ⟨w6.heap.size, 1, none⟩ = some (.int .i64 d4) ∧ (World.drew wr).cell? ⟨w2.heap.size, 0, none⟩ = some (.int .i64 n) ∧ (World.drew wr).cell? ⟨w2.heap.size, 1, none⟩ = some (.int .i64 d)) := hide ⟨bL 0 _ rfl, bL 1 _ rfl, bC 0 _ rfl, bC 1 _ rfl⟩
        go_wp2_with fail
        go_region_held3 (fun W => W.cell? ⟨w6.heap.size, 0, none⟩ = some (.int .i64 n4) ∧ W.cell? ⟨w6.heap.size, 1, none⟩ = some (.int .i64 d4) ∧ W.cell? ⟨w2.heap.size, 0, none⟩ = some (.int .i64 n) ∧ W.cell? ⟨w2.heap.size, 1, none⟩ = some (.int .i64 d)) (with_reducible exact HSS.out) ((go_at_call 71; (with_reducible refine (l14Less_is HD4.out HKD.out.1 HLT.out).mono ?_); rintro e w8 ⟨rfl, hq8⟩; have hz8 : wr.heap.size ≤ w8.heap.size := hq8.size; have HSS : Hid (w8.cell? ⟨w6.heap.size, 0, none⟩ = some (.int .i64 n4) ∧ w8.cell? ⟨w6.heap.size, 1, none⟩ = some (.int .i64 d4) ∧ w8.cell? ⟨w2.heap.size, 0, none⟩ = some (.int .i64 n) ∧ w8.cell? ⟨w2.heap.size, 1, none⟩ = some (.int .i64 d)) := hide ⟨(hq8.cell (p := ⟨w6.heap.size, 0, none⟩) (by show w6.heap.size < wr.heap.size; omega)).trans HSS.out.1, (hq8.cell (p := ⟨w6.heap.size, 1, none⟩) (by show w6.heap.size < wr.heap.size; omega)).trans HSS.out.2.1, (hq8.cell (p := ⟨w2.heap.size, 0, none⟩) (by show w2.heap.size < wr.heap.size; omega)).trans HSS.out.2.2.1, (hq8.cell (p := ⟨w2.heap.size, 1, none⟩) (by show w2.heap.size < wr.heap.size; omega)).trans HSS.out.2.2.2⟩))
        have B8 : Below wr.heap.size wr w8 := (Joins.below_draws _ _ 1 : Below wr.heap.size wr (World.drew wr)).trans hq8
        clear hq8 HSS
        replace bC := bC.below B8 (by omega)
        replace fC := fC.below B8 (by omega)
        replace bL := bL.below B8 (by omega)
        replace bR := bR.below B8 (by omega)
        replace fR := fR.below B8 (by omega)
        replace hbr := hbr.trans (B8.mono (by omega))
        clear B8
        have hs8 : w6.heap.size + 1 ≤ w8.heap.size := by omega
        cases y
        · have HKE := hide (show FOk (n, d) ∧ bst (n2, d2) (n4, d4) (n5, d5) (n6, d6) 1 = (n, d) from ⟨HKD.out.1, (bst_1 ..).trans (by rw [HKD.out.2]; exact bsF_n HLT.out)⟩)
          clear HKD
          go_wp2_with fail
          go_roundw
          case rel => exact ⟨1, n, d, by omega, by go_num, HKE, bC, fC, bL, bR, fR, hbr, hs8⟩
          case measure => simp [intOf]
        · have HKE := hide (show FOk (n4, d4) ∧ bst (n2, d2) (n4, d4) (n5, d5) (n6, d6) 1 = (n4, d4) from ⟨HD4.out, (bst_1 ..).trans (by rw [HKD.out.2]; exact bsF_y HLT.out)⟩)
          clear HKD
          have l0 := bL 0 _ rfl
          have l1 := bL 1 _ rfl
          have g0 := bC 0 _ rfl
          have g1 := bC 1 _ rfl
          have u0 := fC 0
          have u1 := fC 1
          obtain ⟨P1, P2, P3, P4, P5, P6, P7⟩ := best_put (x' := .int .i64 n4) (y' := .int .i64 d4) (by omega) (by omega) (by omega) bC fC bL bR fR hbr hs8
          clear bC fC bL bR fR
          go_wp2_with fail
          go_roundw
          case rel => (with_reducible exact ⟨1, n4, d4, by omega, by go_num, HKE, P1, P2, P3, P4, P5, P6, P7⟩)
          case measure => simp [intOf]
      · obtain ⟨y, hy⟩ : ∃ y, ltF (n5, d5) (n, d) = y := ⟨_, rfl⟩
        have HLT := hide hy
        clear hy
        have HSS : Hid ((World.drew wr).cell? ⟨w6.heap.size, 2, none⟩ = some (.int .i64 n5) ∧ (World.drew wr).cell? ⟨w6.heap.size, 3, none⟩ = some (.int .i64 d5) ∧ (World.drew wr).cell? ⟨w2.heap.size, 0, none⟩ = some (.int .i64 n) ∧ (World.drew wr).cell? ⟨w2.heap.size, 1, none⟩ = some (.int .i64 d)) := hide ⟨bL 2 _ rfl, bL 3 _ rfl, bC 0 _ rfl, bC 1 _ rfl⟩
        go_wp2_with fail
        go_region_held3 (fun W => W.cell? ⟨w6.heap.size, 2, none⟩ = some (.int .i64 n5) ∧ W.cell? ⟨w6.heap.size, 3, none⟩ = some (.int .i64 d5) ∧ W.cell? ⟨w2.heap.size, 0, none⟩ = some (.int .i64 n) ∧ W.cell? ⟨w2.heap.size, 1, none⟩ = some (.int .i64 d)) (with_reducible exact HSS.out) ((go_at_call 71; (with_reducible refine (l14Less_is HD5.out HKD.out.1 HLT.out).mono ?_); rintro e w8 ⟨rfl, hq8⟩; have hz8 : wr.heap.size ≤ w8.heap.size := hq8.size; have HSS : Hid (w8.cell? ⟨w6.heap.size, 2, none⟩ = some (.int .i64 n5) ∧ w8.cell? ⟨w6.heap.size, 3, none⟩ = some (.int .i64 d5) ∧ w8.cell? ⟨w2.heap.size, 0, none⟩ = some (.int .i64 n) ∧ w8.cell? ⟨w2.heap.size, 1, none⟩ = some (.int .i64 d)) := hide ⟨(hq8.cell (p := ⟨w6.heap.size, 2, none⟩) (by show w6.heap.size < wr.heap.size; omega)).trans HSS.out.1, (hq8.cell (p := ⟨w6.heap.size, 3, none⟩) (by show w6.heap.size < wr.heap.size; omega)).trans HSS.out.2.1, (hq8.cell (p := ⟨w2.heap.size, 0, none⟩) (by show w2.heap.size < wr.heap.size; omega)).trans HSS.out.2.2.1, (hq8.cell (p := ⟨w2.heap.size, 1, none⟩) (by show w2.heap.size < wr.heap.size; omega)).trans HSS.out.2.2.2⟩))
        have B8 : Below wr.heap.size wr w8 := (Joins.below_draws _ _ 1 : Below wr.heap.size wr (World.drew wr)).trans hq8
        clear hq8 HSS
        replace bC := bC.below B8 (by omega)
        replace fC := fC.below B8 (by omega)
        replace bL := bL.below B8 (by omega)
        replace bR := bR.below B8 (by omega)
        replace fR := fR.below B8 (by omega)
        replace hbr := hbr.trans (B8.mono (by omega))
        clear B8
        have hs8 : w6.heap.size + 1 ≤ w8.heap.size := by omega
        cases y
        · have HKE := hide (show FOk (n, d) ∧ bst (n2, d2) (n4, d4) (n5, d5) (n6, d6) 2 = (n, d) from ⟨HKD.out.1, (bst_2 ..).trans (by rw [HKD.out.2]; exact bsF_n HLT.out)⟩)
          clear HKD
          go_wp2_with fail
          go_roundw
          case rel => exact ⟨2, n, d, by omega, by go_num, HKE, bC, fC, bL, bR, fR, hbr, hs8⟩
          case measure => simp [intOf]
        · have HKE := hide (show FOk (n5, d5) ∧ bst (n2, d2) (n4, d4) (n5, d5) (n6, d6) 2 = (n5, d5) from ⟨HD5.out, (bst_2 ..).trans (by rw [HKD.out.2]; exact bsF_y HLT.out)⟩)
          clear HKD
          have l0 := bL 2 _ rfl
          have l1 := bL 3 _ rfl
          have g0 := bC 0 _ rfl
          have g1 := bC 1 _ rfl
          have u0 := fC 0
          have u1 := fC 1
          obtain ⟨P1, P2, P3, P4, P5, P6, P7⟩ := best_put (x' := .int .i64 n5) (y' := .int .i64 d5) (by omega) (by omega) (by omega) bC fC bL bR fR hbr hs8
          clear bC fC bL bR fR
          go_wp2_with fail
          go_roundw
          case rel => (with_reducible exact ⟨2, n5, d5, by omega, by go_num, HKE, P1, P2, P3, P4, P5, P6, P7⟩)
          case measure => simp [intOf]
      · obtain ⟨y, hy⟩ : ∃ y, ltF (n6, d6) (n, d) = y := ⟨_, rfl⟩
        have HLT := hide hy
        clear hy
        have HSS : Hid ((World.drew wr).cell? ⟨w6.heap.size, 4, none⟩ = some (.int .i64 n6) ∧ (World.drew wr).cell? ⟨w6.heap.size, 5, none⟩ = some (.int .i64 d6) ∧ (World.drew wr).cell? ⟨w2.heap.size, 0, none⟩ = some (.int .i64 n) ∧ (World.drew wr).cell? ⟨w2.heap.size, 1, none⟩ = some (.int .i64 d)) := hide ⟨bL 4 _ rfl, bL 5 _ rfl, bC 0 _ rfl, bC 1 _ rfl⟩
        go_wp2_with fail
        go_region_held3 (fun W => W.cell? ⟨w6.heap.size, 4, none⟩ = some (.int .i64 n6) ∧ W.cell? ⟨w6.heap.size, 5, none⟩ = some (.int .i64 d6) ∧ W.cell? ⟨w2.heap.size, 0, none⟩ = some (.int .i64 n) ∧ W.cell? ⟨w2.heap.size, 1, none⟩ = some (.int .i64 d)) (with_reducible exact HSS.out) ((go_at_call 71; (with_reducible refine (l14Less_is HD6.out HKD.out.1 HLT.out).mono ?_); rintro e w8 ⟨rfl, hq8⟩; have hz8 : wr.heap.size ≤ w8.heap.size := hq8.size; have HSS : Hid (w8.cell? ⟨w6.heap.size, 4, none⟩ = some (.int .i64 n6) ∧ w8.cell? ⟨w6.heap.size, 5, none⟩ = some (.int .i64 d6) ∧ w8.cell? ⟨w2.heap.size, 0, none⟩ = some (.int .i64 n) ∧ w8.cell? ⟨w2.heap.size, 1, none⟩ = some (.int .i64 d)) := hide ⟨(hq8.cell (p := ⟨w6.heap.size, 4, none⟩) (by show w6.heap.size < wr.heap.size; omega)).trans HSS.out.1, (hq8.cell (p := ⟨w6.heap.size, 5, none⟩) (by show w6.heap.size < wr.heap.size; omega)).trans HSS.out.2.1, (hq8.cell (p := ⟨w2.heap.size, 0, none⟩) (by show w2.heap.size < wr.heap.size; omega)).trans HSS.out.2.2.1, (hq8.cell (p := ⟨w2.heap.size, 1, none⟩) (by show w2.heap.size < wr.heap.size; omega)).trans HSS.out.2.2.2⟩))
        have B8 : Below wr.heap.size wr w8 := (Joins.below_draws _ _ 1 : Below wr.heap.size wr (World.drew wr)).trans hq8
        clear hq8 HSS
        replace bC := bC.below B8 (by omega)
        replace fC := fC.below B8 (by omega)
        replace bL := bL.below B8 (by omega)
        replace bR := bR.below B8 (by omega)
        replace fR := fR.below B8 (by omega)
        replace hbr := hbr.trans (B8.mono (by omega))
        clear B8
        have hs8 : w6.heap.size + 1 ≤ w8.heap.size := by omega
        cases y
        · have HKE := hide (show FOk (n, d) ∧ bst (n2, d2) (n4, d4) (n5, d5) (n6, d6) 3 = (n, d) from ⟨HKD.out.1, (bst_3 ..).trans (by rw [HKD.out.2]; exact bsF_n HLT.out)⟩)
          clear HKD
          go_wp2_with fail
          go_roundw
          case rel => exact ⟨3, n, d, by omega, by go_num, HKE, bC, fC, bL, bR, fR, hbr, hs8⟩
          case measure => simp [intOf]
        · have HKE := hide (show FOk (n6, d6) ∧ bst (n2, d2) (n4, d4) (n5, d5) (n6, d6) 3 = (n6, d6) from ⟨HD6.out, (bst_3 ..).trans (by rw [HKD.out.2]; exact bsF_y HLT.out)⟩)
          clear HKD
          have l0 := bL 4 _ rfl
          have l1 := bL 5 _ rfl
          have g0 := bC 0 _ rfl
          have g1 := bC 1 _ rfl
          have u0 := fC 0
          have u1 := fC 1
          obtain ⟨P1, P2, P3, P4, P5, P6, P7⟩ := best_put (x' := .int .i64 n6) (y' := .int .i64 d6) (by omega) (by omega) (by omega) bC fC bL bR fR hbr hs8
          clear bC fC bL bR fR
          go_wp2_with fail
          go_roundw
          case rel => (with_reducible exact ⟨3, n6, d6, by omega, by go_num, HKE, P1, P2, P3, P4, P5, P6, P7⟩)
          case measure => simp [intOf]
      · have HN := hide (HKD.out.2.symm.trans ((bst_end ..).trans HE2.out))
        clear HKD HE2
        have g0 := bC 0 _ rfl
        have g1 := bC 1 _ rfl
        have r0 := bR 0 _ rfl
        have r1 := bR 1 _ rfl
        have u0 := fR 0
        have u1 := fR 1
        go_wp2_with fail
        refine bodyPost_ret (v := .agg #[.int .i64 n, .int .i64 d]) (by simp [results, Tryz.results72, go_sem, r0, r1]) rfl ⟨by have h := HN.out; injection h with h1 h2; rw [h1, h2], ?_⟩
        rw [hb0]
        exact ((hbr.setCell (by first | omega | (simp; done) | (simp; omega)) _).setCell (by first | omega | (simp; done) | (simp; omega)) _)
  · clear HE2
    go_wp2_with fail
    refine bodyPost_ret (v := .agg #[.int .i64 0, .int .i64 1]) (by simp [results, Tryz.results72, go_sem, brc0, brc1]) rfl ⟨by have h := HE1.out (by simp); injection h with h1 h2; rw [← h1, ← h2], ?_⟩
    exact ((HB1.out.setCell (by first | omega | (simp; done) | (simp; omega)) _).setCell (by first | omega | (simp; done) | (simp; omega)) _)

set_option maxRecDepth 100000 in
set_option maxHeartbeats 2000000 in
theorem l14Near_is {ax ay bx cy px py qx qy D : Int} {b : Bool} (hA : CoS ax ay bx cy) (hP : CoS px py qx qy) (hD0 : 0 ≤ D) (hD1 : D ≤ 1000) (hc : nrB ax ay bx cy px py qx qy D = b) {w : World} :
    Calls Tryz.prog 52 #[.agg #[.int .i64 ax, .int .i64 ay, .int .i64 bx, .int .i64 cy], .agg #[.int .i64 px, .int .i64 py, .int .i64 qx, .int .i64 qy], .int .i64 D] w fun e w' => e = .returned (.bool b) ∧ Below w.heap.size w w' := by
  have HA := hide hA
  have HP := hide hP
  obtain ⟨⟨n1, d1⟩, k1⟩ : ∃ p, sgF ax ay bx cy px py qx qy = p := ⟨_, rfl⟩
  have HK := hide k1
  have HF := hide (show FOk (n1, d1) by rw [← k1]; exact sgF_ok hA hP)
  have q2 := sq_bd (d := D) (q := 1000) (by omega) (by omega)
  have HF2 := hide (show FOk (D * D, 1) by unfold FOk; simp only; omega)
  have HL := hide (show ltF (n1, d1) (D * D, 1) = b by rw [← k1]; exact hc)
  clear hA hP hc k1
  go_enter Tryz.func52, Tryz.ntmps52
  go_wp2_with fail
  obtain ⟨W0, hW0⟩ : ∃ W0 : World, W0 = ((w.alloc (.cells #[.int .i64 ax, .int .i64 ay, .int .i64 bx, .int .i64 cy] 70)).alloc (.cells #[.int .i64 px, .int .i64 py, .int .i64 qx, .int .i64 qy] 70)) := ⟨_, rfl⟩
  rw [← hW0]
  have bA : Box W0 w.heap.size [.int .i64 ax, .int .i64 ay, .int .i64 bx, .int .i64 cy] := by rw [hW0]; exact (box_at _ _ _ _ (by simp)).alloc (by simp) _
  have bB : Box W0 (w.heap.size + 1) [.int .i64 px, .int .i64 py, .int .i64 qx, .int .i64 qy] := by rw [hW0]; exact box_at _ _ _ _ (by simp)
  have HB0 := hide (show Below w.heap.size w W0 by rw [hW0]; exact ((Below.refl _ _).alloc (Nat.le_refl _) _).alloc (by simp) _)
  have hs0 : w.heap.size + 2 ≤ W0.heap.size := by rw [hW0]; simp
  clear hW0
  have bac0 := bA 0 _ rfl
  have bac1 := bA 1 _ rfl
  have bac2 := bA 2 _ rfl
  have bac3 := bA 3 _ rfl
  have bbc0 := bB 0 _ rfl
  have bbc1 := bB 1 _ rfl
  have bbc2 := bB 2 _ rfl
  have bbc3 := bB 3 _ rfl
  go_wp2_with fail
  refine (l14Square_is HA.out HP.out HK.out).mono ?_
  rintro e w1 ⟨rfl, hb1⟩
  clear bac0 bac1 bac2 bac3 bbc0 bbc1 bbc2 bbc3
  have hs1 := hb1.size
  replace bA := bA.below hb1 (by omega)
  replace bB := bB.below hb1 (by omega)
  have bac0 := bA 0 _ rfl
  have bac1 := bA 1 _ rfl
  have bac2 := bA 2 _ rfl
  have bac3 := bA 3 _ rfl
  have bbc0 := bB 0 _ rfl
  have bbc1 := bB 1 _ rfl
  have bbc2 := bB 2 _ rfl
  have bbc3 := bB 3 _ rfl
  have HB1 := hide (HB0.out.trans (hb1.mono (by omega)))
  clear hb1 HB0
  go_wp2_with fail
  refine (l14Less_is HF.out HF2.out HL.out).mono ?_
  rintro e w2 ⟨rfl, hb2⟩
  clear bac0 bac1 bac2 bac3 bbc0 bbc1 bbc2 bbc3
  have hs2 := hb2.size
  replace bA := bA.below hb2 (by omega)
  replace bB := bB.below hb2 (by omega)
  have bac0 := bA 0 _ rfl
  have bac1 := bA 1 _ rfl
  have bac2 := bA 2 _ rfl
  have bac3 := bA 3 _ rfl
  have bbc0 := bB 0 _ rfl
  have bbc1 := bB 1 _ rfl
  have bbc2 := bB 2 _ rfl
  have bbc3 := bB 3 _ rfl
  have HB2 := hide (HB1.out.trans (hb2.mono (by omega)))
  clear hb2 HB1
  go_wp2_with fail
  go_ret
  exact ⟨rfl, HB2.out⟩


end Go.Proofs.YtajjophmngabbaaGreatDoor
