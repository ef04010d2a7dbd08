/-
  GEOMETRY of the program, exactly: the square of the distance of two segments, nearer. No condition but those that each theorem names.
-/
import Derived.Test.YtajjophmngabbaaGreatDoorGi4
namespace Go.Proofs.YtajjophmngabbaaGreatDoor
open Go.RowKit
set_option linter.unusedVariables false
set_option linter.unusedSimpArgs false

theorem best_put' {w w8 : World} {c l r b0 : Nat} {x y x' y' r0 r1 : Value} {vs : List Value} (hcl : c ≠ l) (hcr : c ≠ r) (hb : b0 ≤ c) (bC : Box w8 c [x, y]) (fC : Fz w8 c) (bL : Box w8 l vs) (bR : Box w8 r [r0, r1]) (fR : Fz w8 r) (h : Below b0 w w8) (hs : l + 1 ≤ w8.heap.size) :
    Box ((w8.setCell ⟨c, 0, none⟩ x').setCell ⟨c, 1, none⟩ y') c [x', y'] ∧ Fz ((w8.setCell ⟨c, 0, none⟩ x').setCell ⟨c, 1, none⟩ y') c ∧ Box ((w8.setCell ⟨c, 0, none⟩ x').setCell ⟨c, 1, none⟩ y') l vs ∧ Box ((w8.setCell ⟨c, 0, none⟩ x').setCell ⟨c, 1, none⟩ y') r [r0, r1] ∧ Fz ((w8.setCell ⟨c, 0, none⟩ x').setCell ⟨c, 1, none⟩ y') r ∧ Below b0 w ((w8.setCell ⟨c, 0, none⟩ x').setCell ⟨c, 1, none⟩ y') ∧ l + 1 ≤ ((w8.setCell ⟨c, 0, none⟩ x').setCell ⟨c, 1, none⟩ y').heap.size := by
  obtain ⟨W1, h1⟩ : ∃ W, W = w8.setCell ⟨c, 0, none⟩ x' := ⟨_, rfl⟩
  obtain ⟨W2, h2⟩ : ∃ W, W = W1.setCell ⟨c, 1, none⟩ y' := ⟨_, rfl⟩
  rw [← h1, ← h2]
  have c1 : Box W1 c [x', y] := by rw [h1]; exact bC.put 0 x' (by simp)
  have c2 : Box W2 c [x', y'] := by rw [h2]; exact c1.put 1 y' (by simp)
  have l1 : Box W1 l vs := by rw [h1]; exact bL.far _ _ hcl
  have l2 : Box W2 l vs := by rw [h2]; exact l1.far _ _ hcl
  have s1 : Box W1 r [r0, r1] := by rw [h1]; exact bR.far _ _ hcr
  have s2 : Box W2 r [r0, r1] := by rw [h2]; exact s1.far _ _ hcr
  have B1 : Below b0 w W1 := by rw [h1]; exact h.setCell hb _
  have B2 : Below b0 w W2 := by rw [h2]; exact B1.setCell hb _
  have f2 : Fz W2 c := by rw [h2, h1]; exact (fC.set _ _).set _ _
  have g2 : Fz W2 r := by rw [h2, h1]; exact (fR.set _ _).set _ _
  have e : W2.heap.size = w8.heap.size := by rw [h2, h1]; simp [World.setCell]
  exact ⟨c2, f2, l2, s2, g2, B2, by omega⟩

/-- The least of the first k + 1 of four fractions. -/
def bst' (f0 f1 f2 f3 : Int × Int) : Nat → Int × Int
  | 0 => f0
  | 1 => bsF f0 f1
  | 2 => bsF (bsF f0 f1) f2
  | _ => bsF (bsF (bsF f0 f1) f2) f3
theorem bst'_1 (f0 f1 f2 f3 : Int × Int) : bst' f0 f1 f2 f3 1 = bsF (bst' f0 f1 f2 f3 0) f1 := rfl
theorem bst'_2 (f0 f1 f2 f3 : Int × Int) : bst' f0 f1 f2 f3 2 = bsF (bst' f0 f1 f2 f3 1) f2 := rfl
theorem bst'_3 (f0 f1 f2 f3 : Int × Int) : bst' f0 f1 f2 f3 3 = bsF (bst' f0 f1 f2 f3 2) f3 := rfl
theorem bst'_end (f0 f1 f2 f3 : Int × Int) : bst' f0 f1 f2 f3 3 = bsF (bsF (bsF f0 f1) f2) f3 := rfl

theorem lt_cm {n d m e v : Int} (h : cmI (n * e) (m * d) = v) : decide (v < 0) = ltF (n, d) (m, e) := by rw [← h, cmI_neg]; rfl
theorem mulDD {a d : Int} (h0 : 0 ≤ a) (h1 : a ≤ 1000000) (h2 : 0 < d) (h3 : d ≤ 968000000) : 0 ≤ a * d ∧ a * d ≤ 968000000000000 :=
  ⟨Int.mul_nonneg h0 (by omega), Int.le_trans (Int.mul_le_mul h1 h3 (by omega) (by omega)) (by omega)⟩

set_option maxRecDepth 100000 in
set_option maxHeartbeats 2000000 in
theorem segmentSquare_is {ax ay bx cy px py qx qy nn dd : Int} (hA : CoS ax ay bx cy) (hP : CoS px py qx qy) (hc : sgF ax ay bx cy px py qx qy = (nn, dd)) {w : World} :
    Calls Tryz.prog 44 #[.agg #[.int .i64 ax, .int .i64 ay, .int .i64 bx, .int .i64 cy], .agg #[.int .i64 px, .int .i64 py, .int .i64 qx, .int .i64 qy]] w fun e w' => e = .returned (.agg #[.int .i64 nn, .int .i64 dd]) ∧ Below w.heap.size w w' := by
  have HA := hide hA
  have HP := hide hP
  obtain ⟨y1, hy1⟩ : ∃ y, mtB ax ay bx cy px py qx qy = y := ⟨_, rfl⟩
  have HY := hide hy1
  obtain ⟨⟨n2, d2⟩, k2⟩ : ∃ p, pqF ax ay bx cy px py = p := ⟨_, rfl⟩
  obtain ⟨⟨n4, d4⟩, k4⟩ : ∃ p, pqF ax ay bx cy qx qy = p := ⟨_, rfl⟩
  obtain ⟨⟨n5, d5⟩, k5⟩ : ∃ p, pqF px py qx qy ax ay = p := ⟨_, rfl⟩
  obtain ⟨⟨n6, d6⟩, k6⟩ : ∃ p, pqF px py qx qy bx cy = p := ⟨_, rfl⟩
  have HD2 := hide (show FOk (n2, d2) by rw [← k2]; exact pqF_ok hA hP.a)
  have HD4 := hide (show FOk (n4, d4) by rw [← k4]; exact pqF_ok hA hP.b)
  have HD5 := hide (show FOk (n5, d5) by rw [← k5]; exact pqF_ok hP hA.a)
  have HD6 := hide (show FOk (n6, d6) by rw [← k6]; exact pqF_ok hP hA.b)
  have HE1 := hide (show y1 = true → (0, 1) = (nn, dd) by intro h; rw [← hc, sgF_y (hy1.trans h)])
  have HE2 := hide (show y1 = false → bsF (bsF (bsF (n2, d2) (n4, d4)) (n5, d5)) (n6, d6) = (nn, dd) by intro h; rw [← hc, sgF_n (hy1.trans h), k2, k4, k5, k6])
  have HK2 := hide k2
  have HK4 := hide k4
  have HK5 := hide k5
  have HK6 := hide k6
  clear hA hP hc hy1 k2 k4 k5 k6
  go_enter Tryz.func44, Tryz.ntmps44
  go_wp2_with fail
  obtain ⟨W0, hW0⟩ : ∃ W0 : World, W0 = (((w.alloc (.cells #[.int .i64 ax, .int .i64 ay, .int .i64 bx, .int .i64 cy] 70)).alloc (.cells #[.int .i64 px, .int .i64 py, .int .i64 qx, .int .i64 qy] 70)).alloc (.cells #[.int .i64 0, .int .i64 0] 83)) := ⟨_, rfl⟩
  rw [← hW0]
  have bA : Box W0 w.heap.size [.int .i64 ax, .int .i64 ay, .int .i64 bx, .int .i64 cy] := by rw [hW0]; exact ((box_at _ _ _ _ (by simp)).alloc (by simp) _).alloc (by simp; try omega) _
  have bB : Box W0 (w.heap.size + 1) [.int .i64 px, .int .i64 py, .int .i64 qx, .int .i64 qy] := by rw [hW0]; exact (box_at _ _ _ _ (by simp)).alloc (by simp) _
  have bR : Box W0 (w.heap.size + 2) [.int .i64 0, .int .i64 0] := by rw [hW0]; exact box_at _ _ _ _ (by simp)
  have fR : Fz W0 (w.heap.size + 2) := by rw [hW0]; exact fz_at _ _ _ _ (by simp)
  have HB0 := hide (show Below w.heap.size w W0 by rw [hW0]; exact (((Below.refl _ _).alloc (Nat.le_refl _) _).alloc (by simp) _).alloc (by simp; try omega) _)
  have hs0 : w.heap.size + 3 ≤ W0.heap.size := by rw [hW0]; simp
  clear hW0
  have bac0 := bA 0 _ rfl
  have bac1 := bA 1 _ rfl
  have bac2 := bA 2 _ rfl
  have bac3 := bA 3 _ rfl
  have bbc0 := bB 0 _ rfl
  have bbc1 := bB 1 _ rfl
  have bbc2 := bB 2 _ rfl
  have bbc3 := bB 3 _ rfl
  have brc0 := bR 0 _ rfl
  have brc1 := bR 1 _ rfl
  have frc0 := fR 0
  have frc1 := fR 1
  go_wp2_with fail
  refine (meet_is HA.out HP.out HY.out).mono ?_
  rintro e w1 ⟨rfl, hb1⟩
  clear bac0 bac1 bac2 bac3 bbc0 bbc1 bbc2 bbc3 brc0 brc1 frc0 frc1
  have hs1 := hb1.size
  replace bA := bA.below hb1 (by omega)
  replace bB := bB.below hb1 (by omega)
  replace bR := bR.below hb1 (by omega)
  replace fR := fR.below hb1 (by omega)
  have bac0 := bA 0 _ rfl
  have bac1 := bA 1 _ rfl
  have bac2 := bA 2 _ rfl
  have bac3 := bA 3 _ rfl
  have bbc0 := bB 0 _ rfl
  have bbc1 := bB 1 _ rfl
  have bbc2 := bB 2 _ rfl
  have bbc3 := bB 3 _ rfl
  have brc0 := bR 0 _ rfl
  have brc1 := bR 1 _ rfl
  have frc0 := fR 0
  have frc1 := fR 1
  have HB1 := hide (HB0.out.trans (hb1.mono (by omega)))
  clear hb1 HB0
  cases y1
  · clear HE1
    replace HE2 := hide (HE2.out (by simp))
    go_wp2_with fail
    refine (pointSquare_is HA.out HP.out.a HK2.out).mono ?_
    rintro e w2 ⟨rfl, hb2⟩
    clear bac0 bac1 bac2 bac3 bbc0 bbc1 bbc2 bbc3 brc0 brc1 frc0 frc1
    have hs2 := hb2.size
    replace bA := bA.below hb2 (by omega)
    replace bB := bB.below hb2 (by omega)
    replace bR := bR.below hb2 (by omega)
    replace fR := fR.below hb2 (by omega)
    have bac0 := bA 0 _ rfl
    have bac1 := bA 1 _ rfl
    have bac2 := bA 2 _ rfl
    have bac3 := bA 3 _ rfl
    have bbc0 := bB 0 _ rfl
    have bbc1 := bB 1 _ rfl
    have bbc2 := bB 2 _ rfl
    have bbc3 := bB 3 _ rfl
    have brc0 := bR 0 _ rfl
    have brc1 := bR 1 _ rfl
    have frc0 := fR 0
    have frc1 := fR 1
    have HB2 := hide (HB1.out.trans (hb2.mono (by omega)))
    clear hb2 HB1
    go_wp2_with fail
    obtain ⟨W3, hW3⟩ : ∃ W3 : World, W3 = w2.alloc (.cells #[.int .i64 n2, .int .i64 d2] 83) := ⟨_, rfl⟩
    rw [← hW3]
    have hz3 : W3.heap.size = w2.heap.size + 1 := by rw [hW3]; simp
    have bC : Box W3 w2.heap.size [.int .i64 n2, .int .i64 d2] := by rw [hW3]; exact box_at _ _ _ _ rfl
    have fC : Fz W3 w2.heap.size := by rw [hW3]; exact fz_at _ _ _ _ rfl
    have bA3 : Box W3 w.heap.size [.int .i64 ax, .int .i64 ay, .int .i64 bx, .int .i64 cy] := by rw [hW3]; exact bA.alloc (by omega) _
    have bB3 : Box W3 (w.heap.size + 1) [.int .i64 px, .int .i64 py, .int .i64 qx, .int .i64 qy] := by rw [hW3]; exact bB.alloc (by omega) _
    have bR3 : Box W3 (w.heap.size + 2) [.int .i64 0, .int .i64 0] := by rw [hW3]; exact bR.alloc (by omega) _
    have fR3 : Fz W3 (w.heap.size + 2) := by rw [hW3]; exact fR.alloc (by omega) _
    have HB3 := hide (show Below w.heap.size w W3 by rw [hW3]; exact HB2.out.alloc (by omega) _)
    clear bac0 bac1 bac2 bac3 bbc0 bbc1 bbc2 bbc3 brc0 brc1 frc0 frc1
    clear hW3 bA bB bR fR HB2
    obtain ⟨b0, hb0⟩ : ∃ b0, w.heap.size = b0 := ⟨_, rfl⟩
    obtain ⟨b1, hb1⟩ : ∃ b1, b0 + 1 = b1 := ⟨_, rfl⟩
    rw [hb0] at bA3 bB3 bR3 fR3
    rw [hb1] at bB3
    have e2 : b0 + 2 = b1 + 1 := by omega
    rw [e2] at bR3 fR3
    clear e2
    have HSS : Hid ((World.drew W3).cell? ⟨b0, 0, none⟩ = some (.int .i64 ax) ∧ (World.drew W3).cell? ⟨b0, 1, none⟩ = some (.int .i64 ay) ∧ (World.drew W3).cell? ⟨b0, 2, none⟩ = some (.int .i64 bx) ∧ (World.drew W3).cell? ⟨b0, 3, none⟩ = some (.int .i64 cy) ∧ (World.drew W3).cell? ⟨b1, 0, none⟩ = some (.int .i64 px) ∧ (World.drew W3).cell? ⟨b1, 1, none⟩ = some (.int .i64 py) ∧ (World.drew W3).cell? ⟨b1, 2, none⟩ = some (.int .i64 qx) ∧ (World.drew W3).cell? ⟨b1, 3, none⟩ = some (.int .i64 qy)) := hide ⟨bA3 0 _ rfl, bA3 1 _ rfl, bA3 2 _ rfl, bA3 3 _ rfl, bB3 0 _ rfl, bB3 1 _ rfl, bB3 2 _ rfl, bB3 3 _ rfl⟩
    have hbs : b0 + 3 ≤ w2.heap.size := by omega
    clear bA3 bB3
    try rw [hb0]
    try rw [hb1]
    go_region_held3 (fun W => W.cell? ⟨b0, 0, none⟩ = some (.int .i64 ax) ∧ W.cell? ⟨b0, 1, none⟩ = some (.int .i64 ay) ∧ W.cell? ⟨b0, 2, none⟩ = some (.int .i64 bx) ∧ W.cell? ⟨b0, 3, none⟩ = some (.int .i64 cy) ∧ W.cell? ⟨b1, 0, none⟩ = some (.int .i64 px) ∧ W.cell? ⟨b1, 1, none⟩ = some (.int .i64 py) ∧ W.cell? ⟨b1, 2, none⟩ = some (.int .i64 qx) ∧ W.cell? ⟨b1, 3, none⟩ = some (.int .i64 qy)) (with_reducible first | exact HSS.out | exact HSA.out _) (first | (go_at_call 61; (with_reducible refine (pointSquare_is HA.out HP.out.b HK4.out).mono ?_); rintro e w4 ⟨rfl, hq4⟩; have hz4 : W3.heap.size ≤ w4.heap.size := hq4.size; have HSS : Hid (w4.cell? ⟨b0, 0, none⟩ = some (.int .i64 ax) ∧ w4.cell? ⟨b0, 1, none⟩ = some (.int .i64 ay) ∧ w4.cell? ⟨b0, 2, none⟩ = some (.int .i64 bx) ∧ w4.cell? ⟨b0, 3, none⟩ = some (.int .i64 cy) ∧ w4.cell? ⟨b1, 0, none⟩ = some (.int .i64 px) ∧ w4.cell? ⟨b1, 1, none⟩ = some (.int .i64 py) ∧ w4.cell? ⟨b1, 2, none⟩ = some (.int .i64 qx) ∧ w4.cell? ⟨b1, 3, none⟩ = some (.int .i64 qy)) := hide ⟨(hq4.cell (p := ⟨b0, 0, none⟩) (by show b0 < W3.heap.size; omega)).trans HSS.out.1, (hq4.cell (p := ⟨b0, 1, none⟩) (by show b0 < W3.heap.size; omega)).trans HSS.out.2.1, (hq4.cell (p := ⟨b0, 2, none⟩) (by show b0 < W3.heap.size; omega)).trans HSS.out.2.2.1, (hq4.cell (p := ⟨b0, 3, none⟩) (by show b0 < W3.heap.size; omega)).trans HSS.out.2.2.2.1, (hq4.cell (p := ⟨b1, 0, none⟩) (by show b1 < W3.heap.size; omega)).trans HSS.out.2.2.2.2.1, (hq4.cell (p := ⟨b1, 1, none⟩) (by show b1 < W3.heap.size; omega)).trans HSS.out.2.2.2.2.2.1, (hq4.cell (p := ⟨b1, 2, none⟩) (by show b1 < W3.heap.size; omega)).trans HSS.out.2.2.2.2.2.2.1, (hq4.cell (p := ⟨b1, 3, none⟩) (by show b1 < W3.heap.size; omega)).trans HSS.out.2.2.2.2.2.2.2⟩) | (go_at_call 61; (with_reducible refine (pointSquare_is HP.out HA.out.a HK5.out).mono ?_); rintro e w5 ⟨rfl, hq5⟩; have hz5 : w4.heap.size ≤ w5.heap.size := hq5.size; have HSS : Hid (w5.cell? ⟨b0, 0, none⟩ = some (.int .i64 ax) ∧ w5.cell? ⟨b0, 1, none⟩ = some (.int .i64 ay) ∧ w5.cell? ⟨b0, 2, none⟩ = some (.int .i64 bx) ∧ w5.cell? ⟨b0, 3, none⟩ = some (.int .i64 cy) ∧ w5.cell? ⟨b1, 0, none⟩ = some (.int .i64 px) ∧ w5.cell? ⟨b1, 1, none⟩ = some (.int .i64 py) ∧ w5.cell? ⟨b1, 2, none⟩ = some (.int .i64 qx) ∧ w5.cell? ⟨b1, 3, none⟩ = some (.int .i64 qy)) := hide ⟨(hq5.cell (p := ⟨b0, 0, none⟩) (by show b0 < w4.heap.size; omega)).trans HSS.out.1, (hq5.cell (p := ⟨b0, 1, none⟩) (by show b0 < w4.heap.size; omega)).trans HSS.out.2.1, (hq5.cell (p := ⟨b0, 2, none⟩) (by show b0 < w4.heap.size; omega)).trans HSS.out.2.2.1, (hq5.cell (p := ⟨b0, 3, none⟩) (by show b0 < w4.heap.size; omega)).trans HSS.out.2.2.2.1, (hq5.cell (p := ⟨b1, 0, none⟩) (by show b1 < w4.heap.size; omega)).trans HSS.out.2.2.2.2.1, (hq5.cell (p := ⟨b1, 1, none⟩) (by show b1 < w4.heap.size; omega)).trans HSS.out.2.2.2.2.2.1, (hq5.cell (p := ⟨b1, 2, none⟩) (by show b1 < w4.heap.size; omega)).trans HSS.out.2.2.2.2.2.2.1, (hq5.cell (p := ⟨b1, 3, none⟩) (by show b1 < w4.heap.size; omega)).trans HSS.out.2.2.2.2.2.2.2⟩) | (go_at_call 61; (with_reducible refine (pointSquare_is HP.out HA.out.b HK6.out).mono ?_); rintro e w6 ⟨rfl, hq6⟩; have hz6 : w5.heap.size ≤ w6.heap.size := hq6.size; have HSS : Hid (w6.cell? ⟨b0, 0, none⟩ = some (.int .i64 ax) ∧ w6.cell? ⟨b0, 1, none⟩ = some (.int .i64 ay) ∧ w6.cell? ⟨b0, 2, none⟩ = some (.int .i64 bx) ∧ w6.cell? ⟨b0, 3, none⟩ = some (.int .i64 cy) ∧ w6.cell? ⟨b1, 0, none⟩ = some (.int .i64 px) ∧ w6.cell? ⟨b1, 1, none⟩ = some (.int .i64 py) ∧ w6.cell? ⟨b1, 2, none⟩ = some (.int .i64 qx) ∧ w6.cell? ⟨b1, 3, none⟩ = some (.int .i64 qy)) := hide ⟨(hq6.cell (p := ⟨b0, 0, none⟩) (by show b0 < w5.heap.size; omega)).trans HSS.out.1, (hq6.cell (p := ⟨b0, 1, none⟩) (by show b0 < w5.heap.size; omega)).trans HSS.out.2.1, (hq6.cell (p := ⟨b0, 2, none⟩) (by show b0 < w5.heap.size; omega)).trans HSS.out.2.2.1, (hq6.cell (p := ⟨b0, 3, none⟩) (by show b0 < w5.heap.size; omega)).trans HSS.out.2.2.2.1, (hq6.cell (p := ⟨b1, 0, none⟩) (by show b1 < w5.heap.size; omega)).trans HSS.out.2.2.2.2.1, (hq6.cell (p := ⟨b1, 1, none⟩) (by show b1 < w5.heap.size; omega)).trans HSS.out.2.2.2.2.2.1, (hq6.cell (p := ⟨b1, 2, none⟩) (by show b1 < w5.heap.size; omega)).trans HSS.out.2.2.2.2.2.2.1, (hq6.cell (p := ⟨b1, 3, none⟩) (by show b1 < w5.heap.size; omega)).trans HSS.out.2.2.2.2.2.2.2⟩; have HSA : Hid (∀ o : Obj, (w6.alloc o).cell? ⟨b0, 0, none⟩ = some (.int .i64 ax) ∧ (w6.alloc o).cell? ⟨b0, 1, none⟩ = some (.int .i64 ay) ∧ (w6.alloc o).cell? ⟨b0, 2, none⟩ = some (.int .i64 bx) ∧ (w6.alloc o).cell? ⟨b0, 3, none⟩ = some (.int .i64 cy) ∧ (w6.alloc o).cell? ⟨b1, 0, none⟩ = some (.int .i64 px) ∧ (w6.alloc o).cell? ⟨b1, 1, none⟩ = some (.int .i64 py) ∧ (w6.alloc o).cell? ⟨b1, 2, none⟩ = some (.int .i64 qx) ∧ (w6.alloc o).cell? ⟨b1, 3, none⟩ = some (.int .i64 qy)) := hide (fun o => ⟨(World.cell?_alloc_lt w6 o ⟨b0, 0, none⟩ (by show b0 < w6.heap.size; omega)).trans HSS.out.1, (World.cell?_alloc_lt w6 o ⟨b0, 1, none⟩ (by show b0 < w6.heap.size; omega)).trans HSS.out.2.1, (World.cell?_alloc_lt w6 o ⟨b0, 2, none⟩ (by show b0 < w6.heap.size; omega)).trans HSS.out.2.2.1, (World.cell?_alloc_lt w6 o ⟨b0, 3, none⟩ (by show b0 < w6.heap.size; omega)).trans HSS.out.2.2.2.1, (World.cell?_alloc_lt w6 o ⟨b1, 0, none⟩ (by show b1 < w6.heap.size; omega)).trans HSS.out.2.2.2.2.1, (World.cell?_alloc_lt w6 o ⟨b1, 1, none⟩ (by show b1 < w6.heap.size; omega)).trans HSS.out.2.2.2.2.2.1, (World.cell?_alloc_lt w6 o ⟨b1, 2, none⟩ (by show b1 < w6.heap.size; omega)).trans HSS.out.2.2.2.2.2.2.1, (World.cell?_alloc_lt w6 o ⟨b1, 3, none⟩ (by show b1 < w6.heap.size; omega)).trans HSS.out.2.2.2.2.2.2.2⟩)))
    clear HSA HSS
    have hq36 : Below W3.heap.size W3 w6 := (((Joins.below_draws _ _ 1 : Below W3.heap.size W3 (World.drew W3)).trans hq4).trans (hq5.mono hz4)).trans (hq6.mono (Nat.le_trans hz4 hz5))
    clear hq4 hq5 hq6
    obtain ⟨W7, hW7⟩ : ∃ W7 : World, W7 = w6.alloc (.cells #[.int .i64 n4, .int .i64 d4, .int .i64 n5, .int .i64 d5, .int .i64 n6, .int .i64 d6] 83) := ⟨_, rfl⟩
    rw [← hW7]
    have hz7 : W7.heap.size = w6.heap.size + 1 := by rw [hW7]; simp
    have B7 : Below W3.heap.size W3 W7 := by rw [hW7]; exact hq36.alloc (by omega) _
    have bL : Box W7 w6.heap.size [.int .i64 n4, .int .i64 d4, .int .i64 n5, .int .i64 d5, .int .i64 n6, .int .i64 d6] := by rw [hW7]; exact box_at _ _ _ _ rfl
    clear hW7 hq36
    replace bC := bC.below B7 (by omega)
    replace fC := fC.below B7 (by omega)
    replace bR3 := bR3.below B7 (by omega)
    replace fR3 := fR3.below B7 (by omega)
    have HB7 : Below b0 w W7 := by rw [← hb0]; exact HB3.out.trans (B7.mono (by omega))
    clear B7 HB3
    have h67 : w2.heap.size + 1 ≤ w6.heap.size := by omega
    go_wp2_with fail
    go_loopw [30] (fun i wr => ∃ (k : Nat) (n d : Int), k ≤ 3 ∧ i = .int .i64 k ∧ Hid (FOk (n, d) ∧ bst' (n2, d2) (n4, d4) (n5, d5) (n6, d6) k = (n, d)) ∧ Box wr w2.heap.size [.int .i64 n, .int .i64 d] ∧ Fz wr w2.heap.size ∧ Box wr w6.heap.size [.int .i64 n4, .int .i64 d4, .int .i64 n5, .int .i64 d5, .int .i64 n6, .int .i64 d6] ∧ Box wr (b1 + 1) [.int .i64 0, .int .i64 0] ∧ Fz wr (b1 + 1) ∧ Below b0 w wr ∧ w6.heap.size + 1 ≤ wr.heap.size) (fun i _ => 3 - (intOf i).toNat)
    case atStart => exact ⟨0, n2, d2, by omega, rfl, hide ⟨HD2.out, rfl⟩, bC, fC, bL, bR3, fR3, HB7, by omega⟩
    case round =>
      clear bC fC bL bR3 fR3 HB7
      obtain ⟨k, n, d, hk, rfl, HKD, bC, fC, bL, bR, fR, hbr, hsr⟩ := hrel
      have hk4 : k = 0 ∨ k = 1 ∨ k = 2 ∨ k = 3 := by omega
      rcases hk4 with rfl | rfl | rfl | rfl
      · obtain ⟨v, hv⟩ : ∃ v, cmI (n4 * d) (n * d4) = v := ⟨_, rfl⟩
        have HCM := hide hv
        have hlt := lt_cm hv
        obtain ⟨y, hy⟩ : ∃ y, ltF (n4, d4) (n, d) = y := ⟨_, rfl⟩
        rw [hy] at hlt
        have HLT := hide hy
        clear hv hy
        have l0 := bL 0 _ rfl
        have l1 := bL 1 _ rfl
        have g0 := fun o => (World.cell?_alloc_lt wr o ⟨w2.heap.size, 0, none⟩ (by show w2.heap.size < wr.heap.size; omega)).trans (bC 0 _ rfl)
        have g1 := fun o => (World.cell?_alloc_lt wr o ⟨w2.heap.size, 1, none⟩ (by show w2.heap.size < wr.heap.size; omega)).trans (bC 1 _ rfl)
        go_wp2_with fail
        obtain ⟨W8, hW8⟩ : ∃ W : World, W = wr.alloc (.cells #[.int .i64 n4, .int .i64 d4] 83) := ⟨_, rfl⟩
        rw [← hW8]
        have hb8 : Below wr.heap.size wr W8 := by rw [hW8]; exact (Below.refl _ _).alloc (Nat.le_refl _) _
        have bF : Box W8 wr.heap.size [.int .i64 n4, .int .i64 d4] := by rw [hW8]; exact box_at _ _ _ _ rfl
        have hz8 : wr.heap.size < W8.heap.size := by rw [hW8]; simp
        clear hW8 l0 l1 g0 g1
        refine (compare_is HD4.out HKD.out.1 HCM.out).mono ?_
        rintro e w8 ⟨rfl, hq8⟩
        have hz9 := hq8.size
        replace hb8 := hb8.trans (hq8.mono (by omega))
        replace bF := bF.below hq8 (by omega)
        replace bC := bC.below hb8 (by omega)
        replace fC := fC.below hb8 (by omega)
        replace bL := bL.below hb8 (by omega)
        replace bR := bR.below hb8 (by omega)
        replace fR := fR.below hb8 (by omega)
        replace hbr := hbr.trans (hb8.mono (by omega))
        have hs8 : w6.heap.size + 1 ≤ w8.heap.size := by omega
        clear hb8 hq8
        cases y
        · have HKE := hide (show FOk (n, d) ∧ bst' (n2, d2) (n4, d4) (n5, d5) (n6, d6) 1 = (n, d) from ⟨HKD.out.1, (bst'_1 ..).trans (by rw [HKD.out.2]; exact bsF_n HLT.out)⟩)
          clear HKD
          go_wp2_with fail
          go_roundw
          case rel => exact ⟨1, n, d, by omega, by go_num, HKE, bC, fC, bL, bR, fR, hbr, hs8⟩
          case measure => simp [intOf]
        · have HKE := hide (show FOk (n4, d4) ∧ bst' (n2, d2) (n4, d4) (n5, d5) (n6, d6) 1 = (n4, d4) from ⟨HD4.out, (bst'_1 ..).trans (by rw [HKD.out.2]; exact bsF_y HLT.out)⟩)
          clear HKD
          have l0 := bF 0 _ rfl
          have l1 := bF 1 _ rfl
          have g0 := bC 0 _ rfl
          have g1 := bC 1 _ rfl
          have u0 := fC 0
          have u1 := fC 1
          obtain ⟨P1, P2, P3, P4, P5, P6, P7⟩ := best_put' (x' := .int .i64 n4) (y' := .int .i64 d4) (by omega) (by omega) (by omega) bC fC bL bR fR hbr hs8
          clear bC fC bL bR fR bF
          go_wp2_with fail
          go_roundw
          case rel => (with_reducible exact ⟨1, n4, d4, by omega, by go_num, HKE, P1, P2, P3, P4, P5, P6, P7⟩)
          case measure => simp [intOf]
      · obtain ⟨v, hv⟩ : ∃ v, cmI (n5 * d) (n * d5) = v := ⟨_, rfl⟩
        have HCM := hide hv
        have hlt := lt_cm hv
        obtain ⟨y, hy⟩ : ∃ y, ltF (n5, d5) (n, d) = y := ⟨_, rfl⟩
        rw [hy] at hlt
        have HLT := hide hy
        clear hv hy
        have l0 := bL 2 _ rfl
        have l1 := bL 3 _ rfl
        have g0 := fun o => (World.cell?_alloc_lt wr o ⟨w2.heap.size, 0, none⟩ (by show w2.heap.size < wr.heap.size; omega)).trans (bC 0 _ rfl)
        have g1 := fun o => (World.cell?_alloc_lt wr o ⟨w2.heap.size, 1, none⟩ (by show w2.heap.size < wr.heap.size; omega)).trans (bC 1 _ rfl)
        go_wp2_with fail
        obtain ⟨W8, hW8⟩ : ∃ W : World, W = wr.alloc (.cells #[.int .i64 n5, .int .i64 d5] 83) := ⟨_, rfl⟩
        rw [← hW8]
        have hb8 : Below wr.heap.size wr W8 := by rw [hW8]; exact (Below.refl _ _).alloc (Nat.le_refl _) _
        have bF : Box W8 wr.heap.size [.int .i64 n5, .int .i64 d5] := by rw [hW8]; exact box_at _ _ _ _ rfl
        have hz8 : wr.heap.size < W8.heap.size := by rw [hW8]; simp
        clear hW8 l0 l1 g0 g1
        refine (compare_is HD5.out HKD.out.1 HCM.out).mono ?_
        rintro e w8 ⟨rfl, hq8⟩
        have hz9 := hq8.size
        replace hb8 := hb8.trans (hq8.mono (by omega))
        replace bF := bF.below hq8 (by omega)
        replace bC := bC.below hb8 (by omega)
        replace fC := fC.below hb8 (by omega)
        replace bL := bL.below hb8 (by omega)
        replace bR := bR.below hb8 (by omega)
        replace fR := fR.below hb8 (by omega)
        replace hbr := hbr.trans (hb8.mono (by omega))
        have hs8 : w6.heap.size + 1 ≤ w8.heap.size := by omega
        clear hb8 hq8
        cases y
        · have HKE := hide (show FOk (n, d) ∧ bst' (n2, d2) (n4, d4) (n5, d5) (n6, d6) 2 = (n, d) from ⟨HKD.out.1, (bst'_2 ..).trans (by rw [HKD.out.2]; exact bsF_n HLT.out)⟩)
          clear HKD
          go_wp2_with fail
          go_roundw
          case rel => exact ⟨2, n, d, by omega, by go_num, HKE, bC, fC, bL, bR, fR, hbr, hs8⟩
          case measure => simp [intOf]
        · have HKE := hide (show FOk (n5, d5) ∧ bst' (n2, d2) (n4, d4) (n5, d5) (n6, d6) 2 = (n5, d5) from ⟨HD5.out, (bst'_2 ..).trans (by rw [HKD.out.2]; exact bsF_y HLT.out)⟩)
          clear HKD
          have l0 := bF 0 _ rfl
          have l1 := bF 1 _ rfl
          have g0 := bC 0 _ rfl
          have g1 := bC 1 _ rfl
          have u0 := fC 0
          have u1 := fC 1
          obtain ⟨P1, P2, P3, P4, P5, P6, P7⟩ := best_put' (x' := .int .i64 n5) (y' := .int .i64 d5) (by omega) (by omega) (by omega) bC fC bL bR fR hbr hs8
          clear bC fC bL bR fR bF
          go_wp2_with fail
          go_roundw
          case rel => (with_reducible exact ⟨2, n5, d5, by omega, by go_num, HKE, P1, P2, P3, P4, P5, P6, P7⟩)
          case measure => simp [intOf]
      · obtain ⟨v, hv⟩ : ∃ v, cmI (n6 * d) (n * d6) = v := ⟨_, rfl⟩
        have HCM := hide hv
        have hlt := lt_cm hv
        obtain ⟨y, hy⟩ : ∃ y, ltF (n6, d6) (n, d) = y := ⟨_, rfl⟩
        rw [hy] at hlt
        have HLT := hide hy
        clear hv hy
        have l0 := bL 4 _ rfl
        have l1 := bL 5 _ rfl
        have g0 := fun o => (World.cell?_alloc_lt wr o ⟨w2.heap.size, 0, none⟩ (by show w2.heap.size < wr.heap.size; omega)).trans (bC 0 _ rfl)
        have g1 := fun o => (World.cell?_alloc_lt wr o ⟨w2.heap.size, 1, none⟩ (by show w2.heap.size < wr.heap.size; omega)).trans (bC 1 _ rfl)
        go_wp2_with fail
        obtain ⟨W8, hW8⟩ : ∃ W : World, W = wr.alloc (.cells #[.int .i64 n6, .int .i64 d6] 83) := ⟨_, rfl⟩
        rw [← hW8]
        have hb8 : Below wr.heap.size wr W8 := by rw [hW8]; exact (Below.refl _ _).alloc (Nat.le_refl _) _
        have bF : Box W8 wr.heap.size [.int .i64 n6, .int .i64 d6] := by rw [hW8]; exact box_at _ _ _ _ rfl
        have hz8 : wr.heap.size < W8.heap.size := by rw [hW8]; simp
        clear hW8 l0 l1 g0 g1
        refine (compare_is HD6.out HKD.out.1 HCM.out).mono ?_
        rintro e w8 ⟨rfl, hq8⟩
        have hz9 := hq8.size
        replace hb8 := hb8.trans (hq8.mono (by omega))
        replace bF := bF.below hq8 (by omega)
        replace bC := bC.below hb8 (by omega)
        replace fC := fC.below hb8 (by omega)
        replace bL := bL.below hb8 (by omega)
        replace bR := bR.below hb8 (by omega)
        replace fR := fR.below hb8 (by omega)
        replace hbr := hbr.trans (hb8.mono (by omega))
        have hs8 : w6.heap.size + 1 ≤ w8.heap.size := by omega
        clear hb8 hq8
        cases y
        · have HKE := hide (show FOk (n, d) ∧ bst' (n2, d2) (n4, d4) (n5, d5) (n6, d6) 3 = (n, d) from ⟨HKD.out.1, (bst'_3 ..).trans (by rw [HKD.out.2]; exact bsF_n HLT.out)⟩)
          clear HKD
          go_wp2_with fail
          go_roundw
          case rel => exact ⟨3, n, d, by omega, by go_num, HKE, bC, fC, bL, bR, fR, hbr, hs8⟩
          case measure => simp [intOf]
        · have HKE := hide (show FOk (n6, d6) ∧ bst' (n2, d2) (n4, d4) (n5, d5) (n6, d6) 3 = (n6, d6) from ⟨HD6.out, (bst'_3 ..).trans (by rw [HKD.out.2]; exact bsF_y HLT.out)⟩)
          clear HKD
          have l0 := bF 0 _ rfl
          have l1 := bF 1 _ rfl
          have g0 := bC 0 _ rfl
          have g1 := bC 1 _ rfl
          have u0 := fC 0
          have u1 := fC 1
          obtain ⟨P1, P2, P3, P4, P5, P6, P7⟩ := best_put' (x' := .int .i64 n6) (y' := .int .i64 d6) (by omega) (by omega) (by omega) bC fC bL bR fR hbr hs8
          clear bC fC bL bR fR bF
          go_wp2_with fail
          go_roundw
          case rel => (with_reducible exact ⟨3, n6, d6, by omega, by go_num, HKE, P1, P2, P3, P4, P5, P6, P7⟩)
          case measure => simp [intOf]
      · have HN := hide (HKD.out.2.symm.trans ((bst'_end ..).trans HE2.out))
        clear HKD HE2
        have g0 := bC 0 _ rfl
        have g1 := bC 1 _ rfl
        have r0 := bR 0 _ rfl
        have r1 := bR 1 _ rfl
        have u0 := fR 0
        have u1 := fR 1
        go_wp2_with fail
        refine bodyPost_ret (v := .agg #[.int .i64 n, .int .i64 d]) (by simp [results, Tryz.results44, go_sem, r0, r1]) rfl ⟨by have h := HN.out; injection h with h1 h2; rw [h1, h2], ?_⟩
        rw [hb0]
        exact ((hbr.setCell (by first | omega | (simp; done) | (simp; omega)) _).setCell (by first | omega | (simp; done) | (simp; omega)) _)
  · clear HE2
    go_wp2_with fail
    refine bodyPost_ret (v := .agg #[.int .i64 0, .int .i64 1]) (by simp [results, Tryz.results44, go_sem, brc0, brc1]) rfl ⟨by have h := HE1.out (by simp); injection h with h1 h2; rw [← h1, ← h2], ?_⟩
    exact ((HB1.out.setCell (by first | omega | (simp; done) | (simp; omega)) _).setCell (by first | omega | (simp; done) | (simp; omega)) _)

set_option maxRecDepth 100000 in
set_option maxHeartbeats 2000000 in
theorem nearer_is {ax ay bx cy px py qx qy D : Int} {b : Bool} (hA : CoS ax ay bx cy) (hP : CoS px py qx qy) (hD0 : 0 ≤ D) (hD1 : D ≤ 1000) (hc : nrB ax ay bx cy px py qx qy D = b) {w : World} :
    Calls Tryz.prog 31 #[.agg #[.int .i64 ax, .int .i64 ay, .int .i64 bx, .int .i64 cy], .agg #[.int .i64 px, .int .i64 py, .int .i64 qx, .int .i64 qy], .int .i64 D] w fun e w' => e = .returned (.bool b) ∧ Below w.heap.size w w' := by
  have HA := hide hA
  have HP := hide hP
  obtain ⟨⟨n1, d1⟩, k1⟩ : ∃ p, sgF ax ay bx cy px py qx qy = p := ⟨_, rfl⟩
  have HK := hide k1
  have hf : FOk (n1, d1) := by rw [← k1]; exact sgF_ok hA hP
  obtain ⟨f0, f1, f2, f3⟩ := hf
  simp only at f0 f1 f2 f3
  have q2 := sq_bd (d := D) (q := 1000) (by omega) (by omega)
  have q3 := mulDD q2.1 (by omega) f2 f3
  have HL := hide (show decide (n1 < D * D * d1) = b by rw [← hc]; unfold nrB; rw [k1]; show _ = decide (n1 * 1 < D * D * d1); rw [Int.mul_one])
  clear hA hP hc k1
  go_enter Tryz.func31, Tryz.ntmps31
  go_wp2_with fail
  obtain ⟨W0, hW0⟩ : ∃ W0 : World, W0 = ((w.alloc (.cells #[.int .i64 ax, .int .i64 ay, .int .i64 bx, .int .i64 cy] 70)).alloc (.cells #[.int .i64 px, .int .i64 py, .int .i64 qx, .int .i64 qy] 70)) := ⟨_, rfl⟩
  rw [← hW0]
  have bA : Box W0 w.heap.size [.int .i64 ax, .int .i64 ay, .int .i64 bx, .int .i64 cy] := by rw [hW0]; exact (box_at _ _ _ _ (by simp)).alloc (by simp) _
  have bB : Box W0 (w.heap.size + 1) [.int .i64 px, .int .i64 py, .int .i64 qx, .int .i64 qy] := by rw [hW0]; exact box_at _ _ _ _ (by simp)
  have HB0 := hide (show Below w.heap.size w W0 by rw [hW0]; exact ((Below.refl _ _).alloc (Nat.le_refl _) _).alloc (by simp) _)
  have hs0 : w.heap.size + 2 ≤ W0.heap.size := by rw [hW0]; simp
  clear hW0
  have bac0 := bA 0 _ rfl
  have bac1 := bA 1 _ rfl
  have bac2 := bA 2 _ rfl
  have bac3 := bA 3 _ rfl
  have bbc0 := bB 0 _ rfl
  have bbc1 := bB 1 _ rfl
  have bbc2 := bB 2 _ rfl
  have bbc3 := bB 3 _ rfl
  go_wp2_with fail
  refine (segmentSquare_is HA.out HP.out HK.out).mono ?_
  rintro e w1 ⟨rfl, hb1⟩
  clear bac0 bac1 bac2 bac3 bbc0 bbc1 bbc2 bbc3
  have hs1 := hb1.size
  replace bA := bA.below hb1 (by omega)
  replace bB := bB.below hb1 (by omega)
  have bac0 := bA 0 _ rfl
  have bac1 := bA 1 _ rfl
  have bac2 := bA 2 _ rfl
  have bac3 := bA 3 _ rfl
  have bbc0 := bB 0 _ rfl
  have bbc1 := bB 1 _ rfl
  have bbc2 := bB 2 _ rfl
  have bbc3 := bB 3 _ rfl
  have HB1 := hide (HB0.out.trans (hb1.mono (by omega)))
  clear hb1 HB0
  go_wp2_with fail
  go_ret
  exact ⟨ret_bool HL.out, HB1.out.alloc (by omega) _⟩


end Go.Proofs.YtajjophmngabbaaGreatDoor
