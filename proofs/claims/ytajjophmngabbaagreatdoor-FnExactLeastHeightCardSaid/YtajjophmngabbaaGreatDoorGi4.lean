/-
  GEOMETRY of the program, exactly: points beside segments, the square of the distance of two segments. No condition but those that each theorem names.
-/
import Derived.Test.YtajjophmngabbaaGreatDoorGi3
namespace Go.Proofs.YtajjophmngabbaaGreatDoor
open Go.RowKit
set_option linter.unusedVariables false
set_option linter.unusedSimpArgs false

theorem dt_com (ax ay bx cy px py : Int) : dtI ax ay bx cy px py = (px - ax) * (bx - ax) + (py - ay) * (cy - ay) := by unfold dtI; rw [Int.mul_comm (bx - ax), Int.mul_comm (cy - ay)]
theorem sq_com (ax ay bx cy : Int) : sqD ax ay bx cy = (bx - ax) * (bx - ax) + (cy - ay) * (cy - ay) := by rw [sqD_comm]; rfl
theorem box_dN {W : World} {b : Nat} {vs : List Value} (h : Box W b vs) (n : Nat) : Box (W.drewN n) b vs := h
theorem fz_dN {W : World} {b : Nat} (h : Fz W b) (n : Nat) : Fz (W.drewN n) b := h
theorem below_dN' {w w' : World} {B : Nat} (h : Below B w w') (n : Nat) : Below B w (w'.drewN n) := h.trans (Joins.below_draws _ _ _)
theorem reduced_is {n d x y : Int} (hn : 0 ≤ n) (hn2 : n ≤ 1000000000000000000) (hd : 0 < d) (hd2 : d ≤ 1000000000000000000) (hc : redF n d = (x, y)) {w : World} :
    Calls Tryz.prog 83 #[.int .i64 n, .int .i64 d] w fun e w' => e = .returned (.agg #[.int .i64 x, .int .i64 y]) ∧ Below w.heap.size w w' := by
  have h1 : x = (redF n d).1 := by rw [hc]
  have h2 : y = (redF n d).2 := by rw [hc]
  rw [h1, h2]; exact reduced_any n d hn hn2 hd hd2 w

set_option maxRecDepth 100000 in
set_option maxHeartbeats 2000000 in
theorem pointSquare_is {ax ay bx cy px py n d : Int} (hA : CoS ax ay bx cy) (hP : CoP px py) (hc : pqF ax ay bx cy px py = (n, d)) {w : World} :
    Calls Tryz.prog 61 #[.agg #[.int .i64 ax, .int .i64 ay, .int .i64 bx, .int .i64 cy], .agg #[.int .i64 px, .int .i64 py]] w fun e w' => e = .returned (.agg #[.int .i64 n, .int .i64 d]) ∧ Below w.heap.size w w' := by
  have HK := hide (show FOk (n, d) by rw [← hc]; exact pqF_ok hA hP)
  have HA := hide hA
  have HP := hide hP
  have y1 := sqD_fit hA.a hA.b
  have y2 := dtI_fit hA hP
  have y5 := crI_sq hA hP
  obtain ⟨x3, hx3⟩ : ∃ x, sqD px py ax ay = x := ⟨_, rfl⟩
  obtain ⟨x4, hx4⟩ : ∃ x, sqD px py bx cy = x := ⟨_, rfl⟩
  obtain ⟨x5, hx5⟩ : ∃ x, crI ax ay bx cy px py = x := ⟨_, rfl⟩
  rw [hx5] at y5
  rw [dt_com] at y2
  rw [sq_com] at y1
  have HV1 := hide (show ((px - ax) * (bx - ax) + (py - ay) * (cy - ay)) ≤ 0 → (x3, 1) = (n, d) by rw [← dt_com, ← hx3, sqD_comm px py ax ay, ← redF_one, ← hc]; exact fun h => (pqF_1 h).symm)
  have HV2 := hide (show ¬ ((px - ax) * (bx - ax) + (py - ay) * (cy - ay)) ≤ 0 → ((bx - ax) * (bx - ax) + (cy - ay) * (cy - ay)) ≤ ((px - ax) * (bx - ax) + (py - ay) * (cy - ay)) → (x4, 1) = (n, d) by rw [← dt_com, ← sq_com, ← hx4, sqD_comm px py bx cy, ← redF_one, ← hc]; exact fun h h2 => (pqF_2 h h2).symm)
  have HV3 := hide (show ¬ ((px - ax) * (bx - ax) + (py - ay) * (cy - ay)) ≤ 0 → ¬ ((bx - ax) * (bx - ax) + (cy - ay) * (cy - ay)) ≤ ((px - ax) * (bx - ax) + (py - ay) * (cy - ay)) → redF (x5 * x5) ((bx - ax) * (bx - ax) + (cy - ay) * (cy - ay)) = (n, d) by rw [← dt_com, ← sq_com, ← hx5, ← hc]; exact fun h h2 => (pqF_3 h h2).symm)
  have HX3 := hide hx3
  have HX4 := hide hx4
  have HX5 := hide hx5
  clear hc hx3 hx4 hx5
  obtain ⟨⟨a1, a2⟩, ⟨b1, b2⟩, ⟨c1, c2⟩, ⟨d1, d2⟩⟩ := hA
  obtain ⟨⟨e1, e2⟩, ⟨f1, f2⟩⟩ := hP
  obtain ⟨p1, p2⟩ := mul_fit (u := px - ax) (v := bx - ax) (by omega) (by omega)
  obtain ⟨p3, p4⟩ := mul_fit (u := py - ay) (v := cy - ay) (by omega) (by omega)
  obtain ⟨p5, p6⟩ := mul_fit (u := bx - ax) (v := bx - ax) (by omega) (by omega)
  obtain ⟨p7, p8⟩ := mul_fit (u := cy - ay) (v := cy - ay) (by omega) (by omega)
  by_cases h1 : ((px - ax) * (bx - ax) + (py - ay) * (cy - ay)) ≤ 0
  · have HR := hide (HV1.out h1)
    clear HV1 HV2 HV3
    go_enter Tryz.func61, Tryz.ntmps61
    go_wp2_with fail
    obtain ⟨W0, hW0⟩ : ∃ W0 : World, W0 = (((w.alloc (.cells #[.int .i64 ax, .int .i64 ay, .int .i64 bx, .int .i64 cy] 70)).alloc (.cells #[.int .i64 px, .int .i64 py] 42)).alloc (.cells #[.int .i64 0, .int .i64 0] 83)) := ⟨_, rfl⟩
    rw [← hW0]
    have bA : Box W0 w.heap.size [.int .i64 ax, .int .i64 ay, .int .i64 bx, .int .i64 cy] := by rw [hW0]; exact ((box_at _ _ _ _ (by simp)).alloc (by simp) _).alloc (by simp; try omega) _
    have bB : Box W0 (w.heap.size + 1) [.int .i64 px, .int .i64 py] := by rw [hW0]; exact (box_at _ _ _ _ (by simp)).alloc (by simp) _
    have bR : Box W0 (w.heap.size + 2) [.int .i64 0, .int .i64 0] := by rw [hW0]; exact box_at _ _ _ _ (by simp)
    have fR : Fz W0 (w.heap.size + 2) := by rw [hW0]; exact fz_at _ _ _ _ (by simp)
    have HB0 := hide (show Below w.heap.size w W0 by rw [hW0]; exact (((Below.refl _ _).alloc (Nat.le_refl _) _).alloc (by simp) _).alloc (by simp; try omega) _)
    have hs0 : w.heap.size + 3 ≤ W0.heap.size := by rw [hW0]; simp
    clear hW0
    have bac0 := bA 0 _ rfl
    have bac1 := bA 1 _ rfl
    have bac2 := bA 2 _ rfl
    have bac3 := bA 3 _ rfl
    have bbc0 := bB 0 _ rfl
    have bbc1 := bB 1 _ rfl
    have brc0 := bR 0 _ rfl
    have brc1 := bR 1 _ rfl
    have frc0 := fR 0
    have frc1 := fR 1
    go_wp2_with fail
    go_quiet (fail)
    generalize hwq : World.drewN W0 _ = wq
    replace bA : Box wq w.heap.size [.int .i64 ax, .int .i64 ay, .int .i64 bx, .int .i64 cy] := by rw [← hwq]; exact bA
    replace bB : Box wq (w.heap.size + 1) [.int .i64 px, .int .i64 py] := by rw [← hwq]; exact bB
    replace bR : Box wq (w.heap.size + 2) [.int .i64 0, .int .i64 0] := by rw [← hwq]; exact bR
    replace fR : Fz wq (w.heap.size + 2) := by rw [← hwq]; exact fR
    replace HB0 := hide (show Below w.heap.size w wq by rw [← hwq]; exact below_dN' HB0.out _)
    replace hs0 : w.heap.size + 3 ≤ wq.heap.size := by rw [← hwq]; exact hs0
    clear hwq bac0 bac1 bac2 bac3 bbc0 bbc1 brc0 brc1 frc0 frc1
    have bac0 := bA 0 _ rfl
    have bac1 := bA 1 _ rfl
    have bac2 := bA 2 _ rfl
    have bac3 := bA 3 _ rfl
    have bbc0 := bB 0 _ rfl
    have bbc1 := bB 1 _ rfl
    have brc0 := bR 0 _ rfl
    have brc1 := bR 1 _ rfl
    have frc0 := fR 0
    have frc1 := fR 1
    go_wp2_with fail
    refine (square_c HP.out HA.out.a HX3.out).mono ?_
    rintro e w1 ⟨rfl, hb1⟩
    clear bac0 bac1 bac2 bac3 bbc0 bbc1 brc0 brc1 frc0 frc1
    have hs1 := hb1.size
    replace bA := bA.below hb1 (by omega)
    replace bB := bB.below hb1 (by omega)
    replace bR := bR.below hb1 (by omega)
    replace fR := fR.below hb1 (by omega)
    have bac0 := bA 0 _ rfl
    have bac1 := bA 1 _ rfl
    have bac2 := bA 2 _ rfl
    have bac3 := bA 3 _ rfl
    have bbc0 := bB 0 _ rfl
    have bbc1 := bB 1 _ rfl
    have brc0 := bR 0 _ rfl
    have brc1 := bR 1 _ rfl
    have frc0 := fR 0
    have frc1 := fR 1
    have HB1 := hide (HB0.out.trans (hb1.mono (by omega)))
    clear hb1 HB0
    have HR' := HR.out
    injection HR' with r1 r2
    subst r1 r2
    go_wp2_with fail
    refine bodyPost_ret (v := .agg #[.int .i64 x3, .int .i64 1]) (by simp [results, Tryz.results61, go_sem, brc0, brc1]) rfl ⟨rfl, ?_⟩
    exact ((HB1.out.setCell (by first | omega | (simp; done) | (simp; omega)) _).setCell (by first | omega | (simp; done) | (simp; omega)) _)
  by_cases h2 : ((bx - ax) * (bx - ax) + (cy - ay) * (cy - ay)) ≤ ((px - ax) * (bx - ax) + (py - ay) * (cy - ay))
  · have HR := hide (HV2.out h1 h2)
    clear HV1 HV2 HV3
    go_enter Tryz.func61, Tryz.ntmps61
    go_wp2_with fail
    obtain ⟨W0, hW0⟩ : ∃ W0 : World, W0 = (((w.alloc (.cells #[.int .i64 ax, .int .i64 ay, .int .i64 bx, .int .i64 cy] 70)).alloc (.cells #[.int .i64 px, .int .i64 py] 42)).alloc (.cells #[.int .i64 0, .int .i64 0] 83)) := ⟨_, rfl⟩
    rw [← hW0]
    have bA : Box W0 w.heap.size [.int .i64 ax, .int .i64 ay, .int .i64 bx, .int .i64 cy] := by rw [hW0]; exact ((box_at _ _ _ _ (by simp)).alloc (by simp) _).alloc (by simp; try omega) _
    have bB : Box W0 (w.heap.size + 1) [.int .i64 px, .int .i64 py] := by rw [hW0]; exact (box_at _ _ _ _ (by simp)).alloc (by simp) _
    have bR : Box W0 (w.heap.size + 2) [.int .i64 0, .int .i64 0] := by rw [hW0]; exact box_at _ _ _ _ (by simp)
    have fR : Fz W0 (w.heap.size + 2) := by rw [hW0]; exact fz_at _ _ _ _ (by simp)
    have HB0 := hide (show Below w.heap.size w W0 by rw [hW0]; exact (((Below.refl _ _).alloc (Nat.le_refl _) _).alloc (by simp) _).alloc (by simp; try omega) _)
    have hs0 : w.heap.size + 3 ≤ W0.heap.size := by rw [hW0]; simp
    clear hW0
    have bac0 := bA 0 _ rfl
    have bac1 := bA 1 _ rfl
    have bac2 := bA 2 _ rfl
    have bac3 := bA 3 _ rfl
    have bbc0 := bB 0 _ rfl
    have bbc1 := bB 1 _ rfl
    have brc0 := bR 0 _ rfl
    have brc1 := bR 1 _ rfl
    have frc0 := fR 0
    have frc1 := fR 1
    go_wp2_with fail
    go_quiet (fail)
    generalize hwq : World.drewN W0 _ = wq
    replace bA : Box wq w.heap.size [.int .i64 ax, .int .i64 ay, .int .i64 bx, .int .i64 cy] := by rw [← hwq]; exact bA
    replace bB : Box wq (w.heap.size + 1) [.int .i64 px, .int .i64 py] := by rw [← hwq]; exact bB
    replace bR : Box wq (w.heap.size + 2) [.int .i64 0, .int .i64 0] := by rw [← hwq]; exact bR
    replace fR : Fz wq (w.heap.size + 2) := by rw [← hwq]; exact fR
    replace HB0 := hide (show Below w.heap.size w wq by rw [← hwq]; exact below_dN' HB0.out _)
    replace hs0 : w.heap.size + 3 ≤ wq.heap.size := by rw [← hwq]; exact hs0
    clear hwq bac0 bac1 bac2 bac3 bbc0 bbc1 brc0 brc1 frc0 frc1
    have bac0 := bA 0 _ rfl
    have bac1 := bA 1 _ rfl
    have bac2 := bA 2 _ rfl
    have bac3 := bA 3 _ rfl
    have bbc0 := bB 0 _ rfl
    have bbc1 := bB 1 _ rfl
    have brc0 := bR 0 _ rfl
    have brc1 := bR 1 _ rfl
    have frc0 := fR 0
    have frc1 := fR 1
    go_wp2_with fail
    refine (square_c HP.out HA.out.b HX4.out).mono ?_
    rintro e w1 ⟨rfl, hb1⟩
    clear bac0 bac1 bac2 bac3 bbc0 bbc1 brc0 brc1 frc0 frc1
    have hs1 := hb1.size
    replace bA := bA.below hb1 (by omega)
    replace bB := bB.below hb1 (by omega)
    replace bR := bR.below hb1 (by omega)
    replace fR := fR.below hb1 (by omega)
    have bac0 := bA 0 _ rfl
    have bac1 := bA 1 _ rfl
    have bac2 := bA 2 _ rfl
    have bac3 := bA 3 _ rfl
    have bbc0 := bB 0 _ rfl
    have bbc1 := bB 1 _ rfl
    have brc0 := bR 0 _ rfl
    have brc1 := bR 1 _ rfl
    have frc0 := fR 0
    have frc1 := fR 1
    have HB1 := hide (HB0.out.trans (hb1.mono (by omega)))
    clear hb1 HB0
    have HR' := HR.out
    injection HR' with r1 r2
    subst r1 r2
    go_wp2_with fail
    refine bodyPost_ret (v := .agg #[.int .i64 x4, .int .i64 1]) (by simp [results, Tryz.results61, go_sem, brc0, brc1]) rfl ⟨rfl, ?_⟩
    exact ((HB1.out.setCell (by first | omega | (simp; done) | (simp; omega)) _).setCell (by first | omega | (simp; done) | (simp; omega)) _)
  · have HR := hide (HV3.out h1 h2)
    clear HV1 HV2 HV3
    go_enter Tryz.func61, Tryz.ntmps61
    go_wp2_with fail
    obtain ⟨W0, hW0⟩ : ∃ W0 : World, W0 = (((w.alloc (.cells #[.int .i64 ax, .int .i64 ay, .int .i64 bx, .int .i64 cy] 70)).alloc (.cells #[.int .i64 px, .int .i64 py] 42)).alloc (.cells #[.int .i64 0, .int .i64 0] 83)) := ⟨_, rfl⟩
    rw [← hW0]
    have bA : Box W0 w.heap.size [.int .i64 ax, .int .i64 ay, .int .i64 bx, .int .i64 cy] := by rw [hW0]; exact ((box_at _ _ _ _ (by simp)).alloc (by simp) _).alloc (by simp; try omega) _
    have bB : Box W0 (w.heap.size + 1) [.int .i64 px, .int .i64 py] := by rw [hW0]; exact (box_at _ _ _ _ (by simp)).alloc (by simp) _
    have bR : Box W0 (w.heap.size + 2) [.int .i64 0, .int .i64 0] := by rw [hW0]; exact box_at _ _ _ _ (by simp)
    have fR : Fz W0 (w.heap.size + 2) := by rw [hW0]; exact fz_at _ _ _ _ (by simp)
    have HB0 := hide (show Below w.heap.size w W0 by rw [hW0]; exact (((Below.refl _ _).alloc (Nat.le_refl _) _).alloc (by simp) _).alloc (by simp; try omega) _)
    have hs0 : w.heap.size + 3 ≤ W0.heap.size := by rw [hW0]; simp
    clear hW0
    have bac0 := bA 0 _ rfl
    have bac1 := bA 1 _ rfl
    have bac2 := bA 2 _ rfl
    have bac3 := bA 3 _ rfl
    have bbc0 := bB 0 _ rfl
    have bbc1 := bB 1 _ rfl
    have brc0 := bR 0 _ rfl
    have brc1 := bR 1 _ rfl
    have frc0 := fR 0
    have frc1 := fR 1
    go_wp2_with fail
    go_quiet (fail)
    generalize hwq : World.drewN W0 _ = wq
    replace bA : Box wq w.heap.size [.int .i64 ax, .int .i64 ay, .int .i64 bx, .int .i64 cy] := by rw [← hwq]; exact bA
    replace bB : Box wq (w.heap.size + 1) [.int .i64 px, .int .i64 py] := by rw [← hwq]; exact bB
    replace bR : Box wq (w.heap.size + 2) [.int .i64 0, .int .i64 0] := by rw [← hwq]; exact bR
    replace fR : Fz wq (w.heap.size + 2) := by rw [← hwq]; exact fR
    replace HB0 := hide (show Below w.heap.size w wq by rw [← hwq]; exact below_dN' HB0.out _)
    replace hs0 : w.heap.size + 3 ≤ wq.heap.size := by rw [← hwq]; exact hs0
    clear hwq bac0 bac1 bac2 bac3 bbc0 bbc1 brc0 brc1 frc0 frc1
    have bac0 := bA 0 _ rfl
    have bac1 := bA 1 _ rfl
    have bac2 := bA 2 _ rfl
    have bac3 := bA 3 _ rfl
    have bbc0 := bB 0 _ rfl
    have bbc1 := bB 1 _ rfl
    have brc0 := bR 0 _ rfl
    have brc1 := bR 1 _ rfl
    have frc0 := fR 0
    have frc1 := fR 1
    go_wp2_with fail
    refine (side_is HA.out HP.out HX5.out).mono ?_
    rintro e w1 ⟨rfl, hb1⟩
    clear bac0 bac1 bac2 bac3 bbc0 bbc1 brc0 brc1 frc0 frc1
    have hs1 := hb1.size
    replace bA := bA.below hb1 (by omega)
    replace bB := bB.below hb1 (by omega)
    replace bR := bR.below hb1 (by omega)
    replace fR := fR.below hb1 (by omega)
    have bac0 := bA 0 _ rfl
    have bac1 := bA 1 _ rfl
    have bac2 := bA 2 _ rfl
    have bac3 := bA 3 _ rfl
    have bbc0 := bB 0 _ rfl
    have bbc1 := bB 1 _ rfl
    have brc0 := bR 0 _ rfl
    have brc1 := bR 1 _ rfl
    have frc0 := fR 0
    have frc1 := fR 1
    have HB1 := hide (HB0.out.trans (hb1.mono (by omega)))
    clear hb1 HB0
    go_wp2_with fail
    refine (reduced_is y5.1 (by omega) (by omega) (by omega) HR.out).mono ?_
    rintro e w2 ⟨rfl, hb2⟩
    clear bac0 bac1 bac2 bac3 bbc0 bbc1 brc0 brc1 frc0 frc1
    have hs2 := hb2.size
    replace bA := bA.below hb2 (by omega)
    replace bB := bB.below hb2 (by omega)
    replace bR := bR.below hb2 (by omega)
    replace fR := fR.below hb2 (by omega)
    have bac0 := bA 0 _ rfl
    have bac1 := bA 1 _ rfl
    have bac2 := bA 2 _ rfl
    have bac3 := bA 3 _ rfl
    have bbc0 := bB 0 _ rfl
    have bbc1 := bB 1 _ rfl
    have brc0 := bR 0 _ rfl
    have brc1 := bR 1 _ rfl
    have frc0 := fR 0
    have frc1 := fR 1
    have HB2 := hide (HB1.out.trans (hb2.mono (by omega)))
    clear hb2 HB1
    go_wp2_with fail
    refine bodyPost_ret (v := .agg #[.int .i64 n, .int .i64 d]) (by simp [results, Tryz.results61, go_sem, brc0, brc1]) rfl ⟨rfl, ?_⟩
    exact ((HB2.out.setCell (by first | omega | (simp; done) | (simp; omega)) _).setCell (by first | omega | (simp; done) | (simp; omega)) _)


end Go.Proofs.YtajjophmngabbaaGreatDoor
