/-
  GEOMETRY, second part: points beside segments, whether segments meet, the square of their distance. What is computed is left open. No condition but those that each theorem names.
-/
import Derived.Test.YtoklcjpokffocaaGeo
import Derived.Test.YtoklcjpokffocaaTurn
import Derived.Deep.RegionHeld3
namespace Go.Proofs.Ytoklcjpokffocaa
open Go.RowKit
set_option linter.unusedVariables false
set_option linter.unusedSimpArgs false

def mn (a b : Int) : Int := if a < b then a else b
def mx (a b : Int) : Int := if a > b then a else b
theorem l00Min_is {a b m : Int} (h : mn a b = m) {w : World} : Calls Try.prog 76 #[.int .i64 a, .int .i64 b] w fun e w' => e = .returned (.int .i64 m) ∧ w' = w := by subst h; exact l00Min_g a b w
theorem l00Max_is {a b m : Int} (h : mx a b = m) {w : World} : Calls Try.prog 50 #[.int .i64 a, .int .i64 b] w fun e w' => e = .returned (.int .i64 m) ∧ w' = w := by subst h; exact l00Max_g a b w
theorem l00In_is2 {n lo hi : Int} {b : Bool} (h : inR n lo hi = b) {w : World} : Calls Try.prog 33 #[.int .i64 n, .int .i64 lo, .int .i64 hi] w fun e w' => e = .returned (.bool b) ∧ w' = w := by subst h; exact l00In_any n lo hi w

theorem best_put {w w8 : World} {c l r b0 : Nat} {x y x' y' r0 r1 : Value} {vs : List Value} (hcl : c ≠ l) (hcr : c ≠ r) (hb : b0 ≤ c) (bC : Box w8 c [x, y]) (fC : Fz w8 c) (bL : Box w8 l vs) (bR : Box w8 r [r0, r1]) (fR : Fz w8 r) (h : Below b0 w w8) (hs : l + 1 ≤ w8.heap.size) :
    Box ((w8.setCell ⟨c, 0, none⟩ x').setCell ⟨c, 1, none⟩ y') c [x', y'] ∧ Fz ((w8.setCell ⟨c, 0, none⟩ x').setCell ⟨c, 1, none⟩ y') c ∧ Box ((w8.setCell ⟨c, 0, none⟩ x').setCell ⟨c, 1, none⟩ y') l vs ∧ Box ((w8.setCell ⟨c, 0, none⟩ x').setCell ⟨c, 1, none⟩ y') r [r0, r1] ∧ Fz ((w8.setCell ⟨c, 0, none⟩ x').setCell ⟨c, 1, none⟩ y') r ∧ Below b0 w ((w8.setCell ⟨c, 0, none⟩ x').setCell ⟨c, 1, none⟩ y') ∧ l + 1 ≤ ((w8.setCell ⟨c, 0, none⟩ x').setCell ⟨c, 1, none⟩ y').heap.size := by
  obtain ⟨W1, h1⟩ : ∃ W, W = w8.setCell ⟨c, 0, none⟩ x' := ⟨_, rfl⟩
  obtain ⟨W2, h2⟩ : ∃ W, W = W1.setCell ⟨c, 1, none⟩ y' := ⟨_, rfl⟩
  rw [← h1, ← h2]
  have c1 : Box W1 c [x', y] := by rw [h1]; exact bC.put 0 x' (by simp)
  have c2 : Box W2 c [x', y'] := by rw [h2]; exact c1.put 1 y' (by simp)
  have l1 : Box W1 l vs := by rw [h1]; exact bL.far _ _ hcl
  have l2 : Box W2 l vs := by rw [h2]; exact l1.far _ _ hcl
  have s1 : Box W1 r [r0, r1] := by rw [h1]; exact bR.far _ _ hcr
  have s2 : Box W2 r [r0, r1] := by rw [h2]; exact s1.far _ _ hcr
  have B1 : Below b0 w W1 := by rw [h1]; exact h.setCell hb _
  have B2 : Below b0 w W2 := by rw [h2]; exact B1.setCell hb _
  have f2 : Fz W2 c := by rw [h2, h1]; exact (fC.set _ _).set _ _
  have g2 : Fz W2 r := by rw [h2, h1]; exact (fR.set _ _).set _ _
  have e : W2.heap.size = w8.heap.size := by rw [h2, h1]; simp [World.setCell]
  exact ⟨c2, f2, l2, s2, g2, B2, by omega⟩

set_option maxRecDepth 100000 in
set_option maxHeartbeats 2000000 in
theorem l14On_g (ax ay bx cy px py : Int) (w : World) :
    Calls Try.prog 85 #[.agg #[.int .i64 ax, .int .i64 ay, .int .i64 bx, .int .i64 cy], .agg #[.int .i64 px, .int .i64 py]] w (AnB w) := by
  obtain ⟨m1, hm1⟩ : ∃ m, mn ax bx = m := ⟨_, rfl⟩
  obtain ⟨M1, hM1⟩ : ∃ m, mx ax bx = m := ⟨_, rfl⟩
  obtain ⟨m2, hm2⟩ : ∃ m, mn ay cy = m := ⟨_, rfl⟩
  obtain ⟨M2, hM2⟩ : ∃ m, mx ay cy = m := ⟨_, rfl⟩
  have A1 := hide hm1
  have A2 := hide hM1
  have A3 := hide hm2
  have A4 := hide hM2
  clear hm1 hM1 hm2 hM2
  cases e1 : inR px m1 M1
  · go_enter Try.func85, Try.ntmps85
    go_wp2_with fail
    go_quiet (first | (go_at_call 76; with_reducible exact Calls.quiet_of_same (l00Min_is A1.out)) | (go_at_call 50; with_reducible exact Calls.quiet_of_same (l00Max_is A2.out)) | (go_at_call 33; with_reducible exact Calls.quiet_of_same (l00In_is2 e1)))
    go_wp2_with fail
    go_ret
    exact ⟨_, rfl, ((((Below.refl _ _).alloc (Nat.le_refl _) _).alloc (by simp) _)).trans (Joins.below_draws _ _ _)⟩
  · obtain ⟨y, e2⟩ : ∃ y, inR py m2 M2 = y := ⟨_, rfl⟩
    go_enter Try.func85, Try.ntmps85
    go_wp2_with fail
    go_quiet (first | (go_at_call 76; with_reducible exact Calls.quiet_of_same (l00Min_is A1.out)) | (go_at_call 50; with_reducible exact Calls.quiet_of_same (l00Max_is A2.out)) | (go_at_call 33; with_reducible exact Calls.quiet_of_same (l00In_is2 e1)) | (go_at_call 76; with_reducible exact Calls.quiet_of_same (l00Min_is A3.out)) | (go_at_call 50; with_reducible exact Calls.quiet_of_same (l00Max_is A4.out)) | (go_at_call 33; with_reducible exact Calls.quiet_of_same (l00In_is2 e2)))
    go_wp2_with fail
    go_ret
    exact ⟨_, rfl, ((((Below.refl _ _).alloc (Nat.le_refl _) _).alloc (by simp) _)).trans (Joins.below_draws _ _ _)⟩

set_option maxRecDepth 100000 in
set_option maxHeartbeats 2000000 in
theorem l14Meet_g (ax ay bx cy px py qx qy : Int) (w : World) :
    Calls Try.prog 81 #[.agg #[.int .i64 ax, .int .i64 ay, .int .i64 bx, .int .i64 cy], .agg #[.int .i64 px, .int .i64 py, .int .i64 qx, .int .i64 qy]] w (AnB w) := by
  go_enter Try.func81, Try.ntmps81
  go_wp2_with fail
  obtain ⟨W0, hW0⟩ : ∃ W0 : World, W0 = ((w.alloc (.cells #[.int .i64 ax, .int .i64 ay, .int .i64 bx, .int .i64 cy] 94)).alloc (.cells #[.int .i64 px, .int .i64 py, .int .i64 qx, .int .i64 qy] 94)) := ⟨_, rfl⟩
  rw [← hW0]
  have bA : Box W0 w.heap.size [.int .i64 ax, .int .i64 ay, .int .i64 bx, .int .i64 cy] := by rw [hW0]; exact (box_at _ _ _ _ (by simp)).alloc (by simp) _
  have bB : Box W0 (w.heap.size + 1) [.int .i64 px, .int .i64 py, .int .i64 qx, .int .i64 qy] := by rw [hW0]; exact box_at _ _ _ _ (by simp)
  have HB0 := hide (show Below w.heap.size w W0 by rw [hW0]; exact ((Below.refl _ _).alloc (Nat.le_refl _) _).alloc (by simp) _)
  have hs0 : w.heap.size + 2 ≤ W0.heap.size := by rw [hW0]; simp
  clear hW0
  have bac0 := bA 0 _ rfl
  have bac1 := bA 1 _ rfl
  have bac2 := bA 2 _ rfl
  have bac3 := bA 3 _ rfl
  have bbc0 := bB 0 _ rfl
  have bbc1 := bB 1 _ rfl
  have bbc2 := bB 2 _ rfl
  have bbc3 := bB 3 _ rfl
  go_wp2_with fail
  refine (l14Cross_g _ _ _ _ _ _ _).mono ?_
  rintro e w1 ⟨x1, rfl, -, hb1⟩
  clear bac0 bac1 bac2 bac3 bbc0 bbc1 bbc2 bbc3
  have hs1 := hb1.size
  replace bA := bA.below hb1 (by omega)
  replace bB := bB.below hb1 (by omega)
  have bac0 := bA 0 _ rfl
  have bac1 := bA 1 _ rfl
  have bac2 := bA 2 _ rfl
  have bac3 := bA 3 _ rfl
  have bbc0 := bB 0 _ rfl
  have bbc1 := bB 1 _ rfl
  have bbc2 := bB 2 _ rfl
  have bbc3 := bB 3 _ rfl
  have HB1 := hide (HB0.out.trans (hb1.mono (by omega)))
  clear hb1 HB0
  go_wp2_with fail
  refine (l14Sign_g _ _).mono ?_
  rintro e w2 ⟨x2, rfl, -, hb2⟩
  clear bac0 bac1 bac2 bac3 bbc0 bbc1 bbc2 bbc3
  have hs2 := hb2.size
  replace bA := bA.below hb2 (by omega)
  replace bB := bB.below hb2 (by omega)
  have bac0 := bA 0 _ rfl
  have bac1 := bA 1 _ rfl
  have bac2 := bA 2 _ rfl
  have bac3 := bA 3 _ rfl
  have bbc0 := bB 0 _ rfl
  have bbc1 := bB 1 _ rfl
  have bbc2 := bB 2 _ rfl
  have bbc3 := bB 3 _ rfl
  have HB2 := hide (HB1.out.trans (hb2.mono (by omega)))
  clear hb2 HB1
  go_wp2_with fail
  refine (l14Cross_g _ _ _ _ _ _ _).mono ?_
  rintro e w3 ⟨x3, rfl, -, hb3⟩
  clear bac0 bac1 bac2 bac3 bbc0 bbc1 bbc2 bbc3
  have hs3 := hb3.size
  replace bA := bA.below hb3 (by omega)
  replace bB := bB.below hb3 (by omega)
  have bac0 := bA 0 _ rfl
  have bac1 := bA 1 _ rfl
  have bac2 := bA 2 _ rfl
  have bac3 := bA 3 _ rfl
  have bbc0 := bB 0 _ rfl
  have bbc1 := bB 1 _ rfl
  have bbc2 := bB 2 _ rfl
  have bbc3 := bB 3 _ rfl
  have HB3 := hide (HB2.out.trans (hb3.mono (by omega)))
  clear hb3 HB2
  go_wp2_with fail
  refine (l14Sign_g _ _).mono ?_
  rintro e w4 ⟨x4, rfl, -, hb4⟩
  clear bac0 bac1 bac2 bac3 bbc0 bbc1 bbc2 bbc3
  have hs4 := hb4.size
  replace bA := bA.below hb4 (by omega)
  replace bB := bB.below hb4 (by omega)
  have bac0 := bA 0 _ rfl
  have bac1 := bA 1 _ rfl
  have bac2 := bA 2 _ rfl
  have bac3 := bA 3 _ rfl
  have bbc0 := bB 0 _ rfl
  have bbc1 := bB 1 _ rfl
  have bbc2 := bB 2 _ rfl
  have bbc3 := bB 3 _ rfl
  have HB4 := hide (HB3.out.trans (hb4.mono (by omega)))
  clear hb4 HB3
  go_wp2_with fail
  refine (l14Cross_g _ _ _ _ _ _ _).mono ?_
  rintro e w5 ⟨x5, rfl, -, hb5⟩
  clear bac0 bac1 bac2 bac3 bbc0 bbc1 bbc2 bbc3
  have hs5 := hb5.size
  replace bA := bA.below hb5 (by omega)
  replace bB := bB.below hb5 (by omega)
  have bac0 := bA 0 _ rfl
  have bac1 := bA 1 _ rfl
  have bac2 := bA 2 _ rfl
  have bac3 := bA 3 _ rfl
  have bbc0 := bB 0 _ rfl
  have bbc1 := bB 1 _ rfl
  have bbc2 := bB 2 _ rfl
  have bbc3 := bB 3 _ rfl
  have HB5 := hide (HB4.out.trans (hb5.mono (by omega)))
  clear hb5 HB4
  go_wp2_with fail
  refine (l14Sign_g _ _).mono ?_
  rintro e w6 ⟨x6, rfl, -, hb6⟩
  clear bac0 bac1 bac2 bac3 bbc0 bbc1 bbc2 bbc3
  have hs6 := hb6.size
  replace bA := bA.below hb6 (by omega)
  replace bB := bB.below hb6 (by omega)
  have bac0 := bA 0 _ rfl
  have bac1 := bA 1 _ rfl
  have bac2 := bA 2 _ rfl
  have bac3 := bA 3 _ rfl
  have bbc0 := bB 0 _ rfl
  have bbc1 := bB 1 _ rfl
  have bbc2 := bB 2 _ rfl
  have bbc3 := bB 3 _ rfl
  have HB6 := hide (HB5.out.trans (hb6.mono (by omega)))
  clear hb6 HB5
  go_wp2_with fail
  refine (l14Cross_g _ _ _ _ _ _ _).mono ?_
  rintro e w7 ⟨x7, rfl, -, hb7⟩
  clear bac0 bac1 bac2 bac3 bbc0 bbc1 bbc2 bbc3
  have hs7 := hb7.size
  replace bA := bA.below hb7 (by omega)
  replace bB := bB.below hb7 (by omega)
  have bac0 := bA 0 _ rfl
  have bac1 := bA 1 _ rfl
  have bac2 := bA 2 _ rfl
  have bac3 := bA 3 _ rfl
  have bbc0 := bB 0 _ rfl
  have bbc1 := bB 1 _ rfl
  have bbc2 := bB 2 _ rfl
  have bbc3 := bB 3 _ rfl
  have HB7 := hide (HB6.out.trans (hb7.mono (by omega)))
  clear hb7 HB6
  go_wp2_with fail
  refine (l14Sign_g _ _).mono ?_
  rintro e w8 ⟨x8, rfl, -, hb8⟩
  clear bac0 bac1 bac2 bac3 bbc0 bbc1 bbc2 bbc3
  have hs8 := hb8.size
  replace bA := bA.below hb8 (by omega)
  replace bB := bB.below hb8 (by omega)
  have bac0 := bA 0 _ rfl
  have bac1 := bA 1 _ rfl
  have bac2 := bA 2 _ rfl
  have bac3 := bA 3 _ rfl
  have bbc0 := bB 0 _ rfl
  have bbc1 := bB 1 _ rfl
  have bbc2 := bB 2 _ rfl
  have bbc3 := bB 3 _ rfl
  have HB8 := hide (HB7.out.trans (hb8.mono (by omega)))
  clear hb8 HB7
  cases g1 : decide (wrap64 (x2 * x4) < 0)
  · by_cases z0 : x2 = 0
    · subst z0
      go_wp2_with fail
      refine (l14On_g _ _ _ _ _ _ _).mono ?_
      rintro e w9 ⟨y0, rfl, hb9⟩
      clear bac0 bac1 bac2 bac3 bbc0 bbc1 bbc2 bbc3
      have hs9 := hb9.size
      replace bA := bA.below hb9 (by omega)
      replace bB := bB.below hb9 (by omega)
      have bac0 := bA 0 _ rfl
      have bac1 := bA 1 _ rfl
      have bac2 := bA 2 _ rfl
      have bac3 := bA 3 _ rfl
      have bbc0 := bB 0 _ rfl
      have bbc1 := bB 1 _ rfl
      have bbc2 := bB 2 _ rfl
      have bbc3 := bB 3 _ rfl
      have HB9 := hide (HB8.out.trans (hb9.mono (by omega)))
      clear hb9 HB8
      cases y0
      · by_cases z1 : x4 = 0
        · subst z1
          go_wp2_with fail
          refine (l14On_g _ _ _ _ _ _ _).mono ?_
          rintro e w10 ⟨y1, rfl, hb10⟩
          clear bac0 bac1 bac2 bac3 bbc0 bbc1 bbc2 bbc3
          have hs10 := hb10.size
          replace bA := bA.below hb10 (by omega)
          replace bB := bB.below hb10 (by omega)
          have bac0 := bA 0 _ rfl
          have bac1 := bA 1 _ rfl
          have bac2 := bA 2 _ rfl
          have bac3 := bA 3 _ rfl
          have bbc0 := bB 0 _ rfl
          have bbc1 := bB 1 _ rfl
          have bbc2 := bB 2 _ rfl
          have bbc3 := bB 3 _ rfl
          have HB10 := hide (HB9.out.trans (hb10.mono (by omega)))
          clear hb10 HB9
          cases y1
          · by_cases z2 : x6 = 0
            · subst z2
              go_wp2_with fail
              refine (l14On_g _ _ _ _ _ _ _).mono ?_
              rintro e w11 ⟨y2, rfl, hb11⟩
              clear bac0 bac1 bac2 bac3 bbc0 bbc1 bbc2 bbc3
              have hs11 := hb11.size
              replace bA := bA.below hb11 (by omega)
              replace bB := bB.below hb11 (by omega)
              have bac0 := bA 0 _ rfl
              have bac1 := bA 1 _ rfl
              have bac2 := bA 2 _ rfl
              have bac3 := bA 3 _ rfl
              have bbc0 := bB 0 _ rfl
              have bbc1 := bB 1 _ rfl
              have bbc2 := bB 2 _ rfl
              have bbc3 := bB 3 _ rfl
              have HB11 := hide (HB10.out.trans (hb11.mono (by omega)))
              clear hb11 HB10
              cases y2
              · by_cases z3 : x8 = 0
                · subst z3
                  go_wp2_with fail
                  refine (l14On_g _ _ _ _ _ _ _).mono ?_
                  rintro e w12 ⟨y3, rfl, hb12⟩
                  clear bac0 bac1 bac2 bac3 bbc0 bbc1 bbc2 bbc3
                  have hs12 := hb12.size
                  replace bA := bA.below hb12 (by omega)
                  replace bB := bB.below hb12 (by omega)
                  have bac0 := bA 0 _ rfl
                  have bac1 := bA 1 _ rfl
                  have bac2 := bA 2 _ rfl
                  have bac3 := bA 3 _ rfl
                  have bbc0 := bB 0 _ rfl
                  have bbc1 := bB 1 _ rfl
                  have bbc2 := bB 2 _ rfl
                  have bbc3 := bB 3 _ rfl
                  have HB12 := hide (HB11.out.trans (hb12.mono (by omega)))
                  clear hb12 HB11
                  cases y3
                  · go_wp2_with fail
                    go_ret
                    exact ⟨_, rfl, HB12.out⟩
                  · go_wp2_with fail
                    go_ret
                    exact ⟨_, rfl, HB12.out⟩
                · have n3 : (x8 == 0) = false := by simpa using z3
                  go_wp2_with fail
                  go_ret
                  exact ⟨_, rfl, HB11.out⟩
              · go_wp2_with fail
                go_ret
                exact ⟨_, rfl, HB11.out⟩
            · have n2 : (x6 == 0) = false := by simpa using z2
              by_cases z3 : x8 = 0
              · subst z3
                go_wp2_with fail
                refine (l14On_g _ _ _ _ _ _ _).mono ?_
                rintro e w11 ⟨y3, rfl, hb11⟩
                clear bac0 bac1 bac2 bac3 bbc0 bbc1 bbc2 bbc3
                have hs11 := hb11.size
                replace bA := bA.below hb11 (by omega)
                replace bB := bB.below hb11 (by omega)
                have bac0 := bA 0 _ rfl
                have bac1 := bA 1 _ rfl
                have bac2 := bA 2 _ rfl
                have bac3 := bA 3 _ rfl
                have bbc0 := bB 0 _ rfl
                have bbc1 := bB 1 _ rfl
                have bbc2 := bB 2 _ rfl
                have bbc3 := bB 3 _ rfl
                have HB11 := hide (HB10.out.trans (hb11.mono (by omega)))
                clear hb11 HB10
                cases y3
                · go_wp2_with fail
                  go_ret
                  exact ⟨_, rfl, HB11.out⟩
                · go_wp2_with fail
                  go_ret
                  exact ⟨_, rfl, HB11.out⟩
              · have n3 : (x8 == 0) = false := by simpa using z3
                go_wp2_with fail
                go_ret
                exact ⟨_, rfl, HB10.out⟩
          · go_wp2_with fail
            go_ret
            exact ⟨_, rfl, HB10.out⟩
        · have n1 : (x4 == 0) = false := by simpa using z1
          by_cases z2 : x6 = 0
          · subst z2
            go_wp2_with fail
            refine (l14On_g _ _ _ _ _ _ _).mono ?_
            rintro e w10 ⟨y2, rfl, hb10⟩
            clear bac0 bac1 bac2 bac3 bbc0 bbc1 bbc2 bbc3
            have hs10 := hb10.size
            replace bA := bA.below hb10 (by omega)
            replace bB := bB.below hb10 (by omega)
            have bac0 := bA 0 _ rfl
            have bac1 := bA 1 _ rfl
            have bac2 := bA 2 _ rfl
            have bac3 := bA 3 _ rfl
            have bbc0 := bB 0 _ rfl
            have bbc1 := bB 1 _ rfl
            have bbc2 := bB 2 _ rfl
            have bbc3 := bB 3 _ rfl
            have HB10 := hide (HB9.out.trans (hb10.mono (by omega)))
            clear hb10 HB9
            cases y2
            · by_cases z3 : x8 = 0
              · subst z3
                go_wp2_with fail
                refine (l14On_g _ _ _ _ _ _ _).mono ?_
                rintro e w11 ⟨y3, rfl, hb11⟩
                clear bac0 bac1 bac2 bac3 bbc0 bbc1 bbc2 bbc3
                have hs11 := hb11.size
                replace bA := bA.below hb11 (by omega)
                replace bB := bB.below hb11 (by omega)
                have bac0 := bA 0 _ rfl
                have bac1 := bA 1 _ rfl
                have bac2 := bA 2 _ rfl
                have bac3 := bA 3 _ rfl
                have bbc0 := bB 0 _ rfl
                have bbc1 := bB 1 _ rfl
                have bbc2 := bB 2 _ rfl
                have bbc3 := bB 3 _ rfl
                have HB11 := hide (HB10.out.trans (hb11.mono (by omega)))
                clear hb11 HB10
                cases y3
                · go_wp2_with fail
                  go_ret
                  exact ⟨_, rfl, HB11.out⟩
                · go_wp2_with fail
                  go_ret
                  exact ⟨_, rfl, HB11.out⟩
              · have n3 : (x8 == 0) = false := by simpa using z3
                go_wp2_with fail
                go_ret
                exact ⟨_, rfl, HB10.out⟩
            · go_wp2_with fail
              go_ret
              exact ⟨_, rfl, HB10.out⟩
          · have n2 : (x6 == 0) = false := by simpa using z2
            by_cases z3 : x8 = 0
            · subst z3
              go_wp2_with fail
              refine (l14On_g _ _ _ _ _ _ _).mono ?_
              rintro e w10 ⟨y3, rfl, hb10⟩
              clear bac0 bac1 bac2 bac3 bbc0 bbc1 bbc2 bbc3
              have hs10 := hb10.size
              replace bA := bA.below hb10 (by omega)
              replace bB := bB.below hb10 (by omega)
              have bac0 := bA 0 _ rfl
              have bac1 := bA 1 _ rfl
              have bac2 := bA 2 _ rfl
              have bac3 := bA 3 _ rfl
              have bbc0 := bB 0 _ rfl
              have bbc1 := bB 1 _ rfl
              have bbc2 := bB 2 _ rfl
              have bbc3 := bB 3 _ rfl
              have HB10 := hide (HB9.out.trans (hb10.mono (by omega)))
              clear hb10 HB9
              cases y3
              · go_wp2_with fail
                go_ret
                exact ⟨_, rfl, HB10.out⟩
              · go_wp2_with fail
                go_ret
                exact ⟨_, rfl, HB10.out⟩
            · have n3 : (x8 == 0) = false := by simpa using z3
              go_wp2_with fail
              go_ret
              exact ⟨_, rfl, HB9.out⟩
      · go_wp2_with fail
        go_ret
        exact ⟨_, rfl, HB9.out⟩
    · have n0 : (x2 == 0) = false := by simpa using z0
      by_cases z1 : x4 = 0
      · subst z1
        go_wp2_with fail
        refine (l14On_g _ _ _ _ _ _ _).mono ?_
        rintro e w9 ⟨y1, rfl, hb9⟩
        clear bac0 bac1 bac2 bac3 bbc0 bbc1 bbc2 bbc3
        have hs9 := hb9.size
        replace bA := bA.below hb9 (by omega)
        replace bB := bB.below hb9 (by omega)
        have bac0 := bA 0 _ rfl
        have bac1 := bA 1 _ rfl
        have bac2 := bA 2 _ rfl
        have bac3 := bA 3 _ rfl
        have bbc0 := bB 0 _ rfl
        have bbc1 := bB 1 _ rfl
        have bbc2 := bB 2 _ rfl
        have bbc3 := bB 3 _ rfl
        have HB9 := hide (HB8.out.trans (hb9.mono (by omega)))
        clear hb9 HB8
        cases y1
        · by_cases z2 : x6 = 0
          · subst z2
            go_wp2_with fail
            refine (l14On_g _ _ _ _ _ _ _).mono ?_
            rintro e w10 ⟨y2, rfl, hb10⟩
            clear bac0 bac1 bac2 bac3 bbc0 bbc1 bbc2 bbc3
            have hs10 := hb10.size
            replace bA := bA.below hb10 (by omega)
            replace bB := bB.below hb10 (by omega)
            have bac0 := bA 0 _ rfl
            have bac1 := bA 1 _ rfl
            have bac2 := bA 2 _ rfl
            have bac3 := bA 3 _ rfl
            have bbc0 := bB 0 _ rfl
            have bbc1 := bB 1 _ rfl
            have bbc2 := bB 2 _ rfl
            have bbc3 := bB 3 _ rfl
            have HB10 := hide (HB9.out.trans (hb10.mono (by omega)))
            clear hb10 HB9
            cases y2
            · by_cases z3 : x8 = 0
              · subst z3
                go_wp2_with fail
                refine (l14On_g _ _ _ _ _ _ _).mono ?_
                rintro e w11 ⟨y3, rfl, hb11⟩
                clear bac0 bac1 bac2 bac3 bbc0 bbc1 bbc2 bbc3
                have hs11 := hb11.size
                replace bA := bA.below hb11 (by omega)
                replace bB := bB.below hb11 (by omega)
                have bac0 := bA 0 _ rfl
                have bac1 := bA 1 _ rfl
                have bac2 := bA 2 _ rfl
                have bac3 := bA 3 _ rfl
                have bbc0 := bB 0 _ rfl
                have bbc1 := bB 1 _ rfl
                have bbc2 := bB 2 _ rfl
                have bbc3 := bB 3 _ rfl
                have HB11 := hide (HB10.out.trans (hb11.mono (by omega)))
                clear hb11 HB10
                cases y3
                · go_wp2_with fail
                  go_ret
                  exact ⟨_, rfl, HB11.out⟩
                · go_wp2_with fail
                  go_ret
                  exact ⟨_, rfl, HB11.out⟩
              · have n3 : (x8 == 0) = false := by simpa using z3
                go_wp2_with fail
                go_ret
                exact ⟨_, rfl, HB10.out⟩
            · go_wp2_with fail
              go_ret
              exact ⟨_, rfl, HB10.out⟩
          · have n2 : (x6 == 0) = false := by simpa using z2
            by_cases z3 : x8 = 0
            · subst z3
              go_wp2_with fail
              refine (l14On_g _ _ _ _ _ _ _).mono ?_
              rintro e w10 ⟨y3, rfl, hb10⟩
              clear bac0 bac1 bac2 bac3 bbc0 bbc1 bbc2 bbc3
              have hs10 := hb10.size
              replace bA := bA.below hb10 (by omega)
              replace bB := bB.below hb10 (by omega)
              have bac0 := bA 0 _ rfl
              have bac1 := bA 1 _ rfl
              have bac2 := bA 2 _ rfl
              have bac3 := bA 3 _ rfl
              have bbc0 := bB 0 _ rfl
              have bbc1 := bB 1 _ rfl
              have bbc2 := bB 2 _ rfl
              have bbc3 := bB 3 _ rfl
              have HB10 := hide (HB9.out.trans (hb10.mono (by omega)))
              clear hb10 HB9
              cases y3
              · go_wp2_with fail
                go_ret
                exact ⟨_, rfl, HB10.out⟩
              · go_wp2_with fail
                go_ret
                exact ⟨_, rfl, HB10.out⟩
            · have n3 : (x8 == 0) = false := by simpa using z3
              go_wp2_with fail
              go_ret
              exact ⟨_, rfl, HB9.out⟩
        · go_wp2_with fail
          go_ret
          exact ⟨_, rfl, HB9.out⟩
      · have n1 : (x4 == 0) = false := by simpa using z1
        by_cases z2 : x6 = 0
        · subst z2
          go_wp2_with fail
          refine (l14On_g _ _ _ _ _ _ _).mono ?_
          rintro e w9 ⟨y2, rfl, hb9⟩
          clear bac0 bac1 bac2 bac3 bbc0 bbc1 bbc2 bbc3
          have hs9 := hb9.size
          replace bA := bA.below hb9 (by omega)
          replace bB := bB.below hb9 (by omega)
          have bac0 := bA 0 _ rfl
          have bac1 := bA 1 _ rfl
          have bac2 := bA 2 _ rfl
          have bac3 := bA 3 _ rfl
          have bbc0 := bB 0 _ rfl
          have bbc1 := bB 1 _ rfl
          have bbc2 := bB 2 _ rfl
          have bbc3 := bB 3 _ rfl
          have HB9 := hide (HB8.out.trans (hb9.mono (by omega)))
          clear hb9 HB8
          cases y2
          · by_cases z3 : x8 = 0
            · subst z3
              go_wp2_with fail
              refine (l14On_g _ _ _ _ _ _ _).mono ?_
              rintro e w10 ⟨y3, rfl, hb10⟩
              clear bac0 bac1 bac2 bac3 bbc0 bbc1 bbc2 bbc3
              have hs10 := hb10.size
              replace bA := bA.below hb10 (by omega)
              replace bB := bB.below hb10 (by omega)
              have bac0 := bA 0 _ rfl
              have bac1 := bA 1 _ rfl
              have bac2 := bA 2 _ rfl
              have bac3 := bA 3 _ rfl
              have bbc0 := bB 0 _ rfl
              have bbc1 := bB 1 _ rfl
              have bbc2 := bB 2 _ rfl
              have bbc3 := bB 3 _ rfl
              have HB10 := hide (HB9.out.trans (hb10.mono (by omega)))
              clear hb10 HB9
              cases y3
              · go_wp2_with fail
                go_ret
                exact ⟨_, rfl, HB10.out⟩
              · go_wp2_with fail
                go_ret
                exact ⟨_, rfl, HB10.out⟩
            · have n3 : (x8 == 0) = false := by simpa using z3
              go_wp2_with fail
              go_ret
              exact ⟨_, rfl, HB9.out⟩
          · go_wp2_with fail
            go_ret
            exact ⟨_, rfl, HB9.out⟩
        · have n2 : (x6 == 0) = false := by simpa using z2
          by_cases z3 : x8 = 0
          · subst z3
            go_wp2_with fail
            refine (l14On_g _ _ _ _ _ _ _).mono ?_
            rintro e w9 ⟨y3, rfl, hb9⟩
            clear bac0 bac1 bac2 bac3 bbc0 bbc1 bbc2 bbc3
            have hs9 := hb9.size
            replace bA := bA.below hb9 (by omega)
            replace bB := bB.below hb9 (by omega)
            have bac0 := bA 0 _ rfl
            have bac1 := bA 1 _ rfl
            have bac2 := bA 2 _ rfl
            have bac3 := bA 3 _ rfl
            have bbc0 := bB 0 _ rfl
            have bbc1 := bB 1 _ rfl
            have bbc2 := bB 2 _ rfl
            have bbc3 := bB 3 _ rfl
            have HB9 := hide (HB8.out.trans (hb9.mono (by omega)))
            clear hb9 HB8
            cases y3
            · go_wp2_with fail
              go_ret
              exact ⟨_, rfl, HB9.out⟩
            · go_wp2_with fail
              go_ret
              exact ⟨_, rfl, HB9.out⟩
          · have n3 : (x8 == 0) = false := by simpa using z3
            go_wp2_with fail
            go_ret
            exact ⟨_, rfl, HB8.out⟩
  · cases g2 : decide (wrap64 (x6 * x8) < 0)
    · by_cases z0 : x2 = 0
      · subst z0
        go_wp2_with fail
        refine (l14On_g _ _ _ _ _ _ _).mono ?_
        rintro e w9 ⟨y0, rfl, hb9⟩
        clear bac0 bac1 bac2 bac3 bbc0 bbc1 bbc2 bbc3
        have hs9 := hb9.size
        replace bA := bA.below hb9 (by omega)
        replace bB := bB.below hb9 (by omega)
        have bac0 := bA 0 _ rfl
        have bac1 := bA 1 _ rfl
        have bac2 := bA 2 _ rfl
        have bac3 := bA 3 _ rfl
        have bbc0 := bB 0 _ rfl
        have bbc1 := bB 1 _ rfl
        have bbc2 := bB 2 _ rfl
        have bbc3 := bB 3 _ rfl
        have HB9 := hide (HB8.out.trans (hb9.mono (by omega)))
        clear hb9 HB8
        cases y0
        · by_cases z1 : x4 = 0
          · subst z1
            go_wp2_with fail
            refine (l14On_g _ _ _ _ _ _ _).mono ?_
            rintro e w10 ⟨y1, rfl, hb10⟩
            clear bac0 bac1 bac2 bac3 bbc0 bbc1 bbc2 bbc3
            have hs10 := hb10.size
            replace bA := bA.below hb10 (by omega)
            replace bB := bB.below hb10 (by omega)
            have bac0 := bA 0 _ rfl
            have bac1 := bA 1 _ rfl
            have bac2 := bA 2 _ rfl
            have bac3 := bA 3 _ rfl
            have bbc0 := bB 0 _ rfl
            have bbc1 := bB 1 _ rfl
            have bbc2 := bB 2 _ rfl
            have bbc3 := bB 3 _ rfl
            have HB10 := hide (HB9.out.trans (hb10.mono (by omega)))
            clear hb10 HB9
            cases y1
            · by_cases z2 : x6 = 0
              · subst z2
                go_wp2_with fail
                refine (l14On_g _ _ _ _ _ _ _).mono ?_
                rintro e w11 ⟨y2, rfl, hb11⟩
                clear bac0 bac1 bac2 bac3 bbc0 bbc1 bbc2 bbc3
                have hs11 := hb11.size
                replace bA := bA.below hb11 (by omega)
                replace bB := bB.below hb11 (by omega)
                have bac0 := bA 0 _ rfl
                have bac1 := bA 1 _ rfl
                have bac2 := bA 2 _ rfl
                have bac3 := bA 3 _ rfl
                have bbc0 := bB 0 _ rfl
                have bbc1 := bB 1 _ rfl
                have bbc2 := bB 2 _ rfl
                have bbc3 := bB 3 _ rfl
                have HB11 := hide (HB10.out.trans (hb11.mono (by omega)))
                clear hb11 HB10
                cases y2
                · by_cases z3 : x8 = 0
                  · subst z3
                    go_wp2_with fail
                    refine (l14On_g _ _ _ _ _ _ _).mono ?_
                    rintro e w12 ⟨y3, rfl, hb12⟩
                    clear bac0 bac1 bac2 bac3 bbc0 bbc1 bbc2 bbc3
                    have hs12 := hb12.size
                    replace bA := bA.below hb12 (by omega)
                    replace bB := bB.below hb12 (by omega)
                    have bac0 := bA 0 _ rfl
                    have bac1 := bA 1 _ rfl
                    have bac2 := bA 2 _ rfl
                    have bac3 := bA 3 _ rfl
                    have bbc0 := bB 0 _ rfl
                    have bbc1 := bB 1 _ rfl
                    have bbc2 := bB 2 _ rfl
                    have bbc3 := bB 3 _ rfl
                    have HB12 := hide (HB11.out.trans (hb12.mono (by omega)))
                    clear hb12 HB11
                    cases y3
                    · go_wp2_with fail
                      go_ret
                      exact ⟨_, rfl, HB12.out⟩
                    · go_wp2_with fail
                      go_ret
                      exact ⟨_, rfl, HB12.out⟩
                  · have n3 : (x8 == 0) = false := by simpa using z3
                    go_wp2_with fail
                    go_ret
                    exact ⟨_, rfl, HB11.out⟩
                · go_wp2_with fail
                  go_ret
                  exact ⟨_, rfl, HB11.out⟩
              · have n2 : (x6 == 0) = false := by simpa using z2
                by_cases z3 : x8 = 0
                · subst z3
                  go_wp2_with fail
                  refine (l14On_g _ _ _ _ _ _ _).mono ?_
                  rintro e w11 ⟨y3, rfl, hb11⟩
                  clear bac0 bac1 bac2 bac3 bbc0 bbc1 bbc2 bbc3
                  have hs11 := hb11.size
                  replace bA := bA.below hb11 (by omega)
                  replace bB := bB.below hb11 (by omega)
                  have bac0 := bA 0 _ rfl
                  have bac1 := bA 1 _ rfl
                  have bac2 := bA 2 _ rfl
                  have bac3 := bA 3 _ rfl
                  have bbc0 := bB 0 _ rfl
                  have bbc1 := bB 1 _ rfl
                  have bbc2 := bB 2 _ rfl
                  have bbc3 := bB 3 _ rfl
                  have HB11 := hide (HB10.out.trans (hb11.mono (by omega)))
                  clear hb11 HB10
                  cases y3
                  · go_wp2_with fail
                    go_ret
                    exact ⟨_, rfl, HB11.out⟩
                  · go_wp2_with fail
                    go_ret
                    exact ⟨_, rfl, HB11.out⟩
                · have n3 : (x8 == 0) = false := by simpa using z3
                  go_wp2_with fail
                  go_ret
                  exact ⟨_, rfl, HB10.out⟩
            · go_wp2_with fail
              go_ret
              exact ⟨_, rfl, HB10.out⟩
          · have n1 : (x4 == 0) = false := by simpa using z1
            by_cases z2 : x6 = 0
            · subst z2
              go_wp2_with fail
              refine (l14On_g _ _ _ _ _ _ _).mono ?_
              rintro e w10 ⟨y2, rfl, hb10⟩
              clear bac0 bac1 bac2 bac3 bbc0 bbc1 bbc2 bbc3
              have hs10 := hb10.size
              replace bA := bA.below hb10 (by omega)
              replace bB := bB.below hb10 (by omega)
              have bac0 := bA 0 _ rfl
              have bac1 := bA 1 _ rfl
              have bac2 := bA 2 _ rfl
              have bac3 := bA 3 _ rfl
              have bbc0 := bB 0 _ rfl
              have bbc1 := bB 1 _ rfl
              have bbc2 := bB 2 _ rfl
              have bbc3 := bB 3 _ rfl
              have HB10 := hide (HB9.out.trans (hb10.mono (by omega)))
              clear hb10 HB9
              cases y2
              · by_cases z3 : x8 = 0
                · subst z3
                  go_wp2_with fail
                  refine (l14On_g _ _ _ _ _ _ _).mono ?_
                  rintro e w11 ⟨y3, rfl, hb11⟩
                  clear bac0 bac1 bac2 bac3 bbc0 bbc1 bbc2 bbc3
                  have hs11 := hb11.size
                  replace bA := bA.below hb11 (by omega)
                  replace bB := bB.below hb11 (by omega)
                  have bac0 := bA 0 _ rfl
                  have bac1 := bA 1 _ rfl
                  have bac2 := bA 2 _ rfl
                  have bac3 := bA 3 _ rfl
                  have bbc0 := bB 0 _ rfl
                  have bbc1 := bB 1 _ rfl
                  have bbc2 := bB 2 _ rfl
                  have bbc3 := bB 3 _ rfl
                  have HB11 := hide (HB10.out.trans (hb11.mono (by omega)))
                  clear hb11 HB10
                  cases y3
                  · go_wp2_with fail
                    go_ret
                    exact ⟨_, rfl, HB11.out⟩
                  · go_wp2_with fail
                    go_ret
                    exact ⟨_, rfl, HB11.out⟩
                · have n3 : (x8 == 0) = false := by simpa using z3
                  go_wp2_with fail
                  go_ret
                  exact ⟨_, rfl, HB10.out⟩
              · go_wp2_with fail
                go_ret
                exact ⟨_, rfl, HB10.out⟩
            · have n2 : (x6 == 0) = false := by simpa using z2
              by_cases z3 : x8 = 0
              · subst z3
                go_wp2_with fail
                refine (l14On_g _ _ _ _ _ _ _).mono ?_
                rintro e w10 ⟨y3, rfl, hb10⟩
                clear bac0 bac1 bac2 bac3 bbc0 bbc1 bbc2 bbc3
                have hs10 := hb10.size
                replace bA := bA.below hb10 (by omega)
                replace bB := bB.below hb10 (by omega)
                have bac0 := bA 0 _ rfl
                have bac1 := bA 1 _ rfl
                have bac2 := bA 2 _ rfl
                have bac3 := bA 3 _ rfl
                have bbc0 := bB 0 _ rfl
                have bbc1 := bB 1 _ rfl
                have bbc2 := bB 2 _ rfl
                have bbc3 := bB 3 _ rfl
                have HB10 := hide (HB9.out.trans (hb10.mono (by omega)))
                clear hb10 HB9
                cases y3
                · go_wp2_with fail
                  go_ret
                  exact ⟨_, rfl, HB10.out⟩
                · go_wp2_with fail
                  go_ret
                  exact ⟨_, rfl, HB10.out⟩
              · have n3 : (x8 == 0) = false := by simpa using z3
                go_wp2_with fail
                go_ret
                exact ⟨_, rfl, HB9.out⟩
        · go_wp2_with fail
          go_ret
          exact ⟨_, rfl, HB9.out⟩
      · have n0 : (x2 == 0) = false := by simpa using z0
        by_cases z1 : x4 = 0
        · subst z1
          go_wp2_with fail
          refine (l14On_g _ _ _ _ _ _ _).mono ?_
          rintro e w9 ⟨y1, rfl, hb9⟩
          clear bac0 bac1 bac2 bac3 bbc0 bbc1 bbc2 bbc3
          have hs9 := hb9.size
          replace bA := bA.below hb9 (by omega)
          replace bB := bB.below hb9 (by omega)
          have bac0 := bA 0 _ rfl
          have bac1 := bA 1 _ rfl
          have bac2 := bA 2 _ rfl
          have bac3 := bA 3 _ rfl
          have bbc0 := bB 0 _ rfl
          have bbc1 := bB 1 _ rfl
          have bbc2 := bB 2 _ rfl
          have bbc3 := bB 3 _ rfl
          have HB9 := hide (HB8.out.trans (hb9.mono (by omega)))
          clear hb9 HB8
          cases y1
          · by_cases z2 : x6 = 0
            · subst z2
              go_wp2_with fail
              refine (l14On_g _ _ _ _ _ _ _).mono ?_
              rintro e w10 ⟨y2, rfl, hb10⟩
              clear bac0 bac1 bac2 bac3 bbc0 bbc1 bbc2 bbc3
              have hs10 := hb10.size
              replace bA := bA.below hb10 (by omega)
              replace bB := bB.below hb10 (by omega)
              have bac0 := bA 0 _ rfl
              have bac1 := bA 1 _ rfl
              have bac2 := bA 2 _ rfl
              have bac3 := bA 3 _ rfl
              have bbc0 := bB 0 _ rfl
              have bbc1 := bB 1 _ rfl
              have bbc2 := bB 2 _ rfl
              have bbc3 := bB 3 _ rfl
              have HB10 := hide (HB9.out.trans (hb10.mono (by omega)))
              clear hb10 HB9
              cases y2
              · by_cases z3 : x8 = 0
                · subst z3
                  go_wp2_with fail
                  refine (l14On_g _ _ _ _ _ _ _).mono ?_
                  rintro e w11 ⟨y3, rfl, hb11⟩
                  clear bac0 bac1 bac2 bac3 bbc0 bbc1 bbc2 bbc3
                  have hs11 := hb11.size
                  replace bA := bA.below hb11 (by omega)
                  replace bB := bB.below hb11 (by omega)
                  have bac0 := bA 0 _ rfl
                  have bac1 := bA 1 _ rfl
                  have bac2 := bA 2 _ rfl
                  have bac3 := bA 3 _ rfl
                  have bbc0 := bB 0 _ rfl
                  have bbc1 := bB 1 _ rfl
                  have bbc2 := bB 2 _ rfl
                  have bbc3 := bB 3 _ rfl
                  have HB11 := hide (HB10.out.trans (hb11.mono (by omega)))
                  clear hb11 HB10
                  cases y3
                  · go_wp2_with fail
                    go_ret
                    exact ⟨_, rfl, HB11.out⟩
                  · go_wp2_with fail
                    go_ret
                    exact ⟨_, rfl, HB11.out⟩
                · have n3 : (x8 == 0) = false := by simpa using z3
                  go_wp2_with fail
                  go_ret
                  exact ⟨_, rfl, HB10.out⟩
              · go_wp2_with fail
                go_ret
                exact ⟨_, rfl, HB10.out⟩
            · have n2 : (x6 == 0) = false := by simpa using z2
              by_cases z3 : x8 = 0
              · subst z3
                go_wp2_with fail
                refine (l14On_g _ _ _ _ _ _ _).mono ?_
                rintro e w10 ⟨y3, rfl, hb10⟩
                clear bac0 bac1 bac2 bac3 bbc0 bbc1 bbc2 bbc3
                have hs10 := hb10.size
                replace bA := bA.below hb10 (by omega)
                replace bB := bB.below hb10 (by omega)
                have bac0 := bA 0 _ rfl
                have bac1 := bA 1 _ rfl
                have bac2 := bA 2 _ rfl
                have bac3 := bA 3 _ rfl
                have bbc0 := bB 0 _ rfl
                have bbc1 := bB 1 _ rfl
                have bbc2 := bB 2 _ rfl
                have bbc3 := bB 3 _ rfl
                have HB10 := hide (HB9.out.trans (hb10.mono (by omega)))
                clear hb10 HB9
                cases y3
                · go_wp2_with fail
                  go_ret
                  exact ⟨_, rfl, HB10.out⟩
                · go_wp2_with fail
                  go_ret
                  exact ⟨_, rfl, HB10.out⟩
              · have n3 : (x8 == 0) = false := by simpa using z3
                go_wp2_with fail
                go_ret
                exact ⟨_, rfl, HB9.out⟩
          · go_wp2_with fail
            go_ret
            exact ⟨_, rfl, HB9.out⟩
        · have n1 : (x4 == 0) = false := by simpa using z1
          by_cases z2 : x6 = 0
          · subst z2
            go_wp2_with fail
            refine (l14On_g _ _ _ _ _ _ _).mono ?_
            rintro e w9 ⟨y2, rfl, hb9⟩
            clear bac0 bac1 bac2 bac3 bbc0 bbc1 bbc2 bbc3
            have hs9 := hb9.size
            replace bA := bA.below hb9 (by omega)
            replace bB := bB.below hb9 (by omega)
            have bac0 := bA 0 _ rfl
            have bac1 := bA 1 _ rfl
            have bac2 := bA 2 _ rfl
            have bac3 := bA 3 _ rfl
            have bbc0 := bB 0 _ rfl
            have bbc1 := bB 1 _ rfl
            have bbc2 := bB 2 _ rfl
            have bbc3 := bB 3 _ rfl
            have HB9 := hide (HB8.out.trans (hb9.mono (by omega)))
            clear hb9 HB8
            cases y2
            · by_cases z3 : x8 = 0
              · subst z3
                go_wp2_with fail
                refine (l14On_g _ _ _ _ _ _ _).mono ?_
                rintro e w10 ⟨y3, rfl, hb10⟩
                clear bac0 bac1 bac2 bac3 bbc0 bbc1 bbc2 bbc3
                have hs10 := hb10.size
                replace bA := bA.below hb10 (by omega)
                replace bB := bB.below hb10 (by omega)
                have bac0 := bA 0 _ rfl
                have bac1 := bA 1 _ rfl
                have bac2 := bA 2 _ rfl
                have bac3 := bA 3 _ rfl
                have bbc0 := bB 0 _ rfl
                have bbc1 := bB 1 _ rfl
                have bbc2 := bB 2 _ rfl
                have bbc3 := bB 3 _ rfl
                have HB10 := hide (HB9.out.trans (hb10.mono (by omega)))
                clear hb10 HB9
                cases y3
                · go_wp2_with fail
                  go_ret
                  exact ⟨_, rfl, HB10.out⟩
                · go_wp2_with fail
                  go_ret
                  exact ⟨_, rfl, HB10.out⟩
              · have n3 : (x8 == 0) = false := by simpa using z3
                go_wp2_with fail
                go_ret
                exact ⟨_, rfl, HB9.out⟩
            · go_wp2_with fail
              go_ret
              exact ⟨_, rfl, HB9.out⟩
          · have n2 : (x6 == 0) = false := by simpa using z2
            by_cases z3 : x8 = 0
            · subst z3
              go_wp2_with fail
              refine (l14On_g _ _ _ _ _ _ _).mono ?_
              rintro e w9 ⟨y3, rfl, hb9⟩
              clear bac0 bac1 bac2 bac3 bbc0 bbc1 bbc2 bbc3
              have hs9 := hb9.size
              replace bA := bA.below hb9 (by omega)
              replace bB := bB.below hb9 (by omega)
              have bac0 := bA 0 _ rfl
              have bac1 := bA 1 _ rfl
              have bac2 := bA 2 _ rfl
              have bac3 := bA 3 _ rfl
              have bbc0 := bB 0 _ rfl
              have bbc1 := bB 1 _ rfl
              have bbc2 := bB 2 _ rfl
              have bbc3 := bB 3 _ rfl
              have HB9 := hide (HB8.out.trans (hb9.mono (by omega)))
              clear hb9 HB8
              cases y3
              · go_wp2_with fail
                go_ret
                exact ⟨_, rfl, HB9.out⟩
              · go_wp2_with fail
                go_ret
                exact ⟨_, rfl, HB9.out⟩
            · have n3 : (x8 == 0) = false := by simpa using z3
              go_wp2_with fail
              go_ret
              exact ⟨_, rfl, HB8.out⟩
    · go_wp2_with fail
      go_ret
      exact ⟨_, rfl, HB8.out⟩

set_option maxRecDepth 100000 in
set_option maxHeartbeats 2000000 in
theorem l14PointSquare_g (ax ay bx cy px py : Int) (w : World) :
    Calls Try.prog 82 #[.agg #[.int .i64 ax, .int .i64 ay, .int .i64 bx, .int .i64 cy], .agg #[.int .i64 px, .int .i64 py]] w (AnF w) := by
  go_enter Try.func82, Try.ntmps82
  go_wp2_with fail
  obtain ⟨W0, hW0⟩ : ∃ W0 : World, W0 = (((w.alloc (.cells #[.int .i64 ax, .int .i64 ay, .int .i64 bx, .int .i64 cy] 94)).alloc (.cells #[.int .i64 px, .int .i64 py] 73)).alloc (.cells #[.int .i64 0, .int .i64 0] 102)) := ⟨_, rfl⟩
  rw [← hW0]
  have bA : Box W0 w.heap.size [.int .i64 ax, .int .i64 ay, .int .i64 bx, .int .i64 cy] := by rw [hW0]; exact ((box_at _ _ _ _ (by simp)).alloc (by simp) _).alloc (by simp; try omega) _
  have bB : Box W0 (w.heap.size + 1) [.int .i64 px, .int .i64 py] := by rw [hW0]; exact (box_at _ _ _ _ (by simp)).alloc (by simp) _
  have bR : Box W0 (w.heap.size + 2) [.int .i64 0, .int .i64 0] := by rw [hW0]; exact box_at _ _ _ _ (by simp)
  have fR : Fz W0 (w.heap.size + 2) := by rw [hW0]; exact fz_at _ _ _ _ (by simp)
  have HB0 := hide (show Below w.heap.size w W0 by rw [hW0]; exact (((Below.refl _ _).alloc (Nat.le_refl _) _).alloc (by simp) _).alloc (by simp; try omega) _)
  have hs0 : w.heap.size + 3 ≤ W0.heap.size := by rw [hW0]; simp
  clear hW0
  have bac0 := bA 0 _ rfl
  have bac1 := bA 1 _ rfl
  have bac2 := bA 2 _ rfl
  have bac3 := bA 3 _ rfl
  have bbc0 := bB 0 _ rfl
  have bbc1 := bB 1 _ rfl
  have brc0 := bR 0 _ rfl
  have brc1 := bR 1 _ rfl
  have frc0 := fR 0
  have frc1 := fR 1
  go_wp2_with fail
  refine (l02Square_g _ _ _ _ _).mono ?_
  rintro e w1 ⟨x1, rfl, I1, hb1⟩
  clear bac0 bac1 bac2 bac3 bbc0 bbc1 brc0 brc1
  have hs1 := hb1.size
  replace bA := bA.below hb1 (by omega)
  replace bB := bB.below hb1 (by omega)
  replace bR := bR.below hb1 (by omega)
  have bac0 := bA 0 _ rfl
  have bac1 := bA 1 _ rfl
  have bac2 := bA 2 _ rfl
  have bac3 := bA 3 _ rfl
  have bbc0 := bB 0 _ rfl
  have bbc1 := bB 1 _ rfl
  have brc0 := bR 0 _ rfl
  have brc1 := bR 1 _ rfl
  clear frc0 frc1
  replace fR := fR.below hb1 (by omega)
  have frc0 := fR 0
  have frc1 := fR 1
  have HB1 := hide (HB0.out.trans (hb1.mono (by omega)))
  clear hb1 HB0
  go_wp2_with fail
  refine (l14Dot_g _ _ _ _ _ _ _).mono ?_
  rintro e w2 ⟨x2, rfl, -, hb2⟩
  clear bac0 bac1 bac2 bac3 bbc0 bbc1 brc0 brc1
  have hs2 := hb2.size
  replace bA := bA.below hb2 (by omega)
  replace bB := bB.below hb2 (by omega)
  replace bR := bR.below hb2 (by omega)
  have bac0 := bA 0 _ rfl
  have bac1 := bA 1 _ rfl
  have bac2 := bA 2 _ rfl
  have bac3 := bA 3 _ rfl
  have bbc0 := bB 0 _ rfl
  have bbc1 := bB 1 _ rfl
  have brc0 := bR 0 _ rfl
  have brc1 := bR 1 _ rfl
  clear frc0 frc1
  replace fR := fR.below hb2 (by omega)
  have frc0 := fR 0
  have frc1 := fR 1
  have HB2 := hide (HB1.out.trans (hb2.mono (by omega)))
  clear hb2 HB1
  by_cases h1 : x2 ≤ 0
  · go_wp2_with fail
    refine (l02Square_g _ _ _ _ _).mono ?_
    rintro e w3 ⟨x3, rfl, -, hb3⟩
    clear bac0 bac1 bac2 bac3 bbc0 bbc1 brc0 brc1
    have hs3 := hb3.size
    replace bA := bA.below hb3 (by omega)
    replace bB := bB.below hb3 (by omega)
    replace bR := bR.below hb3 (by omega)
    have bac0 := bA 0 _ rfl
    have bac1 := bA 1 _ rfl
    have bac2 := bA 2 _ rfl
    have bac3 := bA 3 _ rfl
    have bbc0 := bB 0 _ rfl
    have bbc1 := bB 1 _ rfl
    have brc0 := bR 0 _ rfl
    have brc1 := bR 1 _ rfl
    clear frc0 frc1
    replace fR := fR.below hb3 (by omega)
    have frc0 := fR 0
    have frc1 := fR 1
    have HB3 := hide (HB2.out.trans (hb3.mono (by omega)))
    clear hb3 HB2
    go_wp2_with fail
    refine (l14Make_g _ _ (by omega) (I64.lit (by omega)) _).mono ?_
    rintro e w4 ⟨n4, d4, rfl, HD, hb4⟩
    clear bac0 bac1 bac2 bac3 bbc0 bbc1 brc0 brc1
    have hs4 := hb4.size
    replace bA := bA.below hb4 (by omega)
    replace bB := bB.below hb4 (by omega)
    replace bR := bR.below hb4 (by omega)
    have bac0 := bA 0 _ rfl
    have bac1 := bA 1 _ rfl
    have bac2 := bA 2 _ rfl
    have bac3 := bA 3 _ rfl
    have bbc0 := bB 0 _ rfl
    have bbc1 := bB 1 _ rfl
    have brc0 := bR 0 _ rfl
    have brc1 := bR 1 _ rfl
    clear frc0 frc1
    replace fR := fR.below hb4 (by omega)
    have frc0 := fR 0
    have frc1 := fR 1
    have HB4 := hide (HB3.out.trans (hb4.mono (by omega)))
    clear hb4 HB3
    go_wp2_with fail
    refine bodyPost_ret (v := .agg #[.int .i64 n4, .int .i64 d4]) (by simp [results, Try.results82, go_sem, brc0, brc1]) rfl ⟨_, _, rfl, HD, ?_⟩
    exact ((HB4.out.setCell (by first | omega | (simp; omega)) _).setCell (by first | omega | (simp; omega)) _)
  · by_cases h2 : x1 ≤ x2
    · go_wp2_with fail
      refine (l02Square_g _ _ _ _ _).mono ?_
      rintro e w3 ⟨x3, rfl, -, hb3⟩
      clear bac0 bac1 bac2 bac3 bbc0 bbc1 brc0 brc1
      have hs3 := hb3.size
      replace bA := bA.below hb3 (by omega)
      replace bB := bB.below hb3 (by omega)
      replace bR := bR.below hb3 (by omega)
      have bac0 := bA 0 _ rfl
      have bac1 := bA 1 _ rfl
      have bac2 := bA 2 _ rfl
      have bac3 := bA 3 _ rfl
      have bbc0 := bB 0 _ rfl
      have bbc1 := bB 1 _ rfl
      have brc0 := bR 0 _ rfl
      have brc1 := bR 1 _ rfl
      clear frc0 frc1
      replace fR := fR.below hb3 (by omega)
      have frc0 := fR 0
      have frc1 := fR 1
      have HB3 := hide (HB2.out.trans (hb3.mono (by omega)))
      clear hb3 HB2
      go_wp2_with fail
      refine (l14Make_g _ _ (by omega) (I64.lit (by omega)) _).mono ?_
      rintro e w4 ⟨n4, d4, rfl, HD, hb4⟩
      clear bac0 bac1 bac2 bac3 bbc0 bbc1 brc0 brc1
      have hs4 := hb4.size
      replace bA := bA.below hb4 (by omega)
      replace bB := bB.below hb4 (by omega)
      replace bR := bR.below hb4 (by omega)
      have bac0 := bA 0 _ rfl
      have bac1 := bA 1 _ rfl
      have bac2 := bA 2 _ rfl
      have bac3 := bA 3 _ rfl
      have bbc0 := bB 0 _ rfl
      have bbc1 := bB 1 _ rfl
      have brc0 := bR 0 _ rfl
      have brc1 := bR 1 _ rfl
      clear frc0 frc1
      replace fR := fR.below hb4 (by omega)
      have frc0 := fR 0
      have frc1 := fR 1
      have HB4 := hide (HB3.out.trans (hb4.mono (by omega)))
      clear hb4 HB3
      go_wp2_with fail
      refine bodyPost_ret (v := .agg #[.int .i64 n4, .int .i64 d4]) (by simp [results, Try.results82, go_sem, brc0, brc1]) rfl ⟨_, _, rfl, HD, ?_⟩
      exact ((HB4.out.setCell (by first | omega | (simp; omega)) _).setCell (by first | omega | (simp; omega)) _)
    · go_wp2_with fail
      refine (l14Cross_g _ _ _ _ _ _ _).mono ?_
      rintro e w3 ⟨x3, rfl, -, hb3⟩
      clear bac0 bac1 bac2 bac3 bbc0 bbc1 brc0 brc1
      have hs3 := hb3.size
      replace bA := bA.below hb3 (by omega)
      replace bB := bB.below hb3 (by omega)
      replace bR := bR.below hb3 (by omega)
      have bac0 := bA 0 _ rfl
      have bac1 := bA 1 _ rfl
      have bac2 := bA 2 _ rfl
      have bac3 := bA 3 _ rfl
      have bbc0 := bB 0 _ rfl
      have bbc1 := bB 1 _ rfl
      have brc0 := bR 0 _ rfl
      have brc1 := bR 1 _ rfl
      clear frc0 frc1
      replace fR := fR.below hb3 (by omega)
      have frc0 := fR 0
      have frc1 := fR 1
      have HB3 := hide (HB2.out.trans (hb3.mono (by omega)))
      clear hb3 HB2
      go_wp2_with fail
      refine (l14Make_g _ _ (by omega) I1 _).mono ?_
      rintro e w4 ⟨n4, d4, rfl, HD, hb4⟩
      clear bac0 bac1 bac2 bac3 bbc0 bbc1 brc0 brc1
      have hs4 := hb4.size
      replace bA := bA.below hb4 (by omega)
      replace bB := bB.below hb4 (by omega)
      replace bR := bR.below hb4 (by omega)
      have bac0 := bA 0 _ rfl
      have bac1 := bA 1 _ rfl
      have bac2 := bA 2 _ rfl
      have bac3 := bA 3 _ rfl
      have bbc0 := bB 0 _ rfl
      have bbc1 := bB 1 _ rfl
      have brc0 := bR 0 _ rfl
      have brc1 := bR 1 _ rfl
      clear frc0 frc1
      replace fR := fR.below hb4 (by omega)
      have frc0 := fR 0
      have frc1 := fR 1
      have HB4 := hide (HB3.out.trans (hb4.mono (by omega)))
      clear hb4 HB3
      go_wp2_with fail
      refine bodyPost_ret (v := .agg #[.int .i64 n4, .int .i64 d4]) (by simp [results, Try.results82, go_sem, brc0, brc1]) rfl ⟨_, _, rfl, HD, ?_⟩
      exact ((HB4.out.setCell (by first | omega | (simp; omega)) _).setCell (by first | omega | (simp; omega)) _)

set_option maxRecDepth 100000 in
set_option maxHeartbeats 2000000 in
theorem l14Square_g (ax ay bx cy px py qx qy : Int) (w : World) :
    Calls Try.prog 78 #[.agg #[.int .i64 ax, .int .i64 ay, .int .i64 bx, .int .i64 cy], .agg #[.int .i64 px, .int .i64 py, .int .i64 qx, .int .i64 qy]] w (AnF w) := by
  go_enter Try.func78, Try.ntmps78
  go_wp2_with fail
  obtain ⟨W0, hW0⟩ : ∃ W0 : World, W0 = (((w.alloc (.cells #[.int .i64 ax, .int .i64 ay, .int .i64 bx, .int .i64 cy] 94)).alloc (.cells #[.int .i64 px, .int .i64 py, .int .i64 qx, .int .i64 qy] 94)).alloc (.cells #[.int .i64 0, .int .i64 0] 102)) := ⟨_, rfl⟩
  rw [← hW0]
  have bA : Box W0 w.heap.size [.int .i64 ax, .int .i64 ay, .int .i64 bx, .int .i64 cy] := by rw [hW0]; exact ((box_at _ _ _ _ (by simp)).alloc (by simp) _).alloc (by simp; try omega) _
  have bB : Box W0 (w.heap.size + 1) [.int .i64 px, .int .i64 py, .int .i64 qx, .int .i64 qy] := by rw [hW0]; exact (box_at _ _ _ _ (by simp)).alloc (by simp) _
  have bR : Box W0 (w.heap.size + 2) [.int .i64 0, .int .i64 0] := by rw [hW0]; exact box_at _ _ _ _ (by simp)
  have fR : Fz W0 (w.heap.size + 2) := by rw [hW0]; exact fz_at _ _ _ _ (by simp)
  have HB0 := hide (show Below w.heap.size w W0 by rw [hW0]; exact (((Below.refl _ _).alloc (Nat.le_refl _) _).alloc (by simp) _).alloc (by simp; try omega) _)
  have hs0 : w.heap.size + 3 ≤ W0.heap.size := by rw [hW0]; simp
  clear hW0
  have bac0 := bA 0 _ rfl
  have bac1 := bA 1 _ rfl
  have bac2 := bA 2 _ rfl
  have bac3 := bA 3 _ rfl
  have bbc0 := bB 0 _ rfl
  have bbc1 := bB 1 _ rfl
  have bbc2 := bB 2 _ rfl
  have bbc3 := bB 3 _ rfl
  have brc0 := bR 0 _ rfl
  have brc1 := bR 1 _ rfl
  have frc0 := fR 0
  have frc1 := fR 1
  go_wp2_with fail
  refine (l14Meet_g _ _ _ _ _ _ _ _ _).mono ?_
  rintro e w1 ⟨y1, rfl, hb1⟩
  clear bac0 bac1 bac2 bac3 bbc0 bbc1 bbc2 bbc3 brc0 brc1
  have hs1 := hb1.size
  replace bA := bA.below hb1 (by omega)
  replace bB := bB.below hb1 (by omega)
  replace bR := bR.below hb1 (by omega)
  have bac0 := bA 0 _ rfl
  have bac1 := bA 1 _ rfl
  have bac2 := bA 2 _ rfl
  have bac3 := bA 3 _ rfl
  have bbc0 := bB 0 _ rfl
  have bbc1 := bB 1 _ rfl
  have bbc2 := bB 2 _ rfl
  have bbc3 := bB 3 _ rfl
  have brc0 := bR 0 _ rfl
  have brc1 := bR 1 _ rfl
  clear frc0 frc1
  replace fR := fR.below hb1 (by omega)
  have frc0 := fR 0
  have frc1 := fR 1
  have HB1 := hide (HB0.out.trans (hb1.mono (by omega)))
  clear hb1 HB0
  cases y1
  · go_wp2_with fail
    refine (l14PointSquare_g _ _ _ _ _ _ _).mono ?_
    rintro e w2 ⟨n2, d2, rfl, HD2, hb2⟩
    clear bac0 bac1 bac2 bac3 bbc0 bbc1 bbc2 bbc3 brc0 brc1
    have hs2 := hb2.size
    replace bA := bA.below hb2 (by omega)
    replace bB := bB.below hb2 (by omega)
    replace bR := bR.below hb2 (by omega)
    have bac0 := bA 0 _ rfl
    have bac1 := bA 1 _ rfl
    have bac2 := bA 2 _ rfl
    have bac3 := bA 3 _ rfl
    have bbc0 := bB 0 _ rfl
    have bbc1 := bB 1 _ rfl
    have bbc2 := bB 2 _ rfl
    have bbc3 := bB 3 _ rfl
    have brc0 := bR 0 _ rfl
    have brc1 := bR 1 _ rfl
    clear frc0 frc1
    replace fR := fR.below hb2 (by omega)
    have frc0 := fR 0
    have frc1 := fR 1
    have HB2 := hide (HB1.out.trans (hb2.mono (by omega)))
    clear hb2 HB1
    go_wp2_with fail
    obtain ⟨W3, hW3⟩ : ∃ W3 : World, W3 = w2.alloc (.cells #[.int .i64 n2, .int .i64 d2] 102) := ⟨_, rfl⟩
    rw [← hW3]
    have hz3 : W3.heap.size = w2.heap.size + 1 := by rw [hW3]; simp
    have bC : Box W3 w2.heap.size [.int .i64 n2, .int .i64 d2] := by rw [hW3]; exact box_at _ _ _ _ rfl
    have fC : Fz W3 w2.heap.size := by rw [hW3]; exact fz_at _ _ _ _ rfl
    have bA3 : Box W3 w.heap.size [.int .i64 ax, .int .i64 ay, .int .i64 bx, .int .i64 cy] := by rw [hW3]; exact bA.alloc (by omega) _
    have bB3 : Box W3 (w.heap.size + 1) [.int .i64 px, .int .i64 py, .int .i64 qx, .int .i64 qy] := by rw [hW3]; exact bB.alloc (by omega) _
    have bR3 : Box W3 (w.heap.size + 2) [.int .i64 0, .int .i64 0] := by rw [hW3]; exact bR.alloc (by omega) _
    have fR3 : Fz W3 (w.heap.size + 2) := by rw [hW3]; exact fR.alloc (by omega) _
    have HB3 := hide (show Below w.heap.size w W3 by rw [hW3]; exact HB2.out.alloc (by omega) _)
    clear bac0 bac1 bac2 bac3 bbc0 bbc1 bbc2 bbc3 brc0 brc1 frc0 frc1
    clear hW3 bA bB bR fR HB2
    obtain ⟨b0, hb0⟩ : ∃ b0, w.heap.size = b0 := ⟨_, rfl⟩
    obtain ⟨b1, hb1⟩ : ∃ b1, b0 + 1 = b1 := ⟨_, rfl⟩
    rw [hb0] at bA3 bB3 bR3 fR3
    rw [hb1] at bB3
    have e2 : b0 + 2 = b1 + 1 := by omega
    rw [e2] at bR3 fR3
    clear e2
    have HSS : Hid ((World.drew W3).cell? ⟨b0, 0, none⟩ = some (.int .i64 ax) ∧ (World.drew W3).cell? ⟨b0, 1, none⟩ = some (.int .i64 ay) ∧ (World.drew W3).cell? ⟨b0, 2, none⟩ = some (.int .i64 bx) ∧ (World.drew W3).cell? ⟨b0, 3, none⟩ = some (.int .i64 cy) ∧ (World.drew W3).cell? ⟨b1, 0, none⟩ = some (.int .i64 px) ∧ (World.drew W3).cell? ⟨b1, 1, none⟩ = some (.int .i64 py) ∧ (World.drew W3).cell? ⟨b1, 2, none⟩ = some (.int .i64 qx) ∧ (World.drew W3).cell? ⟨b1, 3, none⟩ = some (.int .i64 qy)) := hide ⟨bA3 0 _ rfl, bA3 1 _ rfl, bA3 2 _ rfl, bA3 3 _ rfl, bB3 0 _ rfl, bB3 1 _ rfl, bB3 2 _ rfl, bB3 3 _ rfl⟩
    have hbs : b0 + 3 ≤ w2.heap.size := by omega
    clear bA3 bB3
    try rw [hb0]
    try rw [hb1]
    go_region_held3 (fun W => W.cell? ⟨b0, 0, none⟩ = some (.int .i64 ax) ∧ W.cell? ⟨b0, 1, none⟩ = some (.int .i64 ay) ∧ W.cell? ⟨b0, 2, none⟩ = some (.int .i64 bx) ∧ W.cell? ⟨b0, 3, none⟩ = some (.int .i64 cy) ∧ W.cell? ⟨b1, 0, none⟩ = some (.int .i64 px) ∧ W.cell? ⟨b1, 1, none⟩ = some (.int .i64 py) ∧ W.cell? ⟨b1, 2, none⟩ = some (.int .i64 qx) ∧ W.cell? ⟨b1, 3, none⟩ = some (.int .i64 qy)) (with_reducible first | exact HSS.out | exact HSA.out _) (first | (go_at_call 82; (with_reducible refine (l14PointSquare_g ax ay bx cy qx qy _).mono ?_); rintro e w4 ⟨n4, d4, rfl, HD4, hq4⟩; have hz4 : W3.heap.size ≤ w4.heap.size := hq4.size; have HSS : Hid (w4.cell? ⟨b0, 0, none⟩ = some (.int .i64 ax) ∧ w4.cell? ⟨b0, 1, none⟩ = some (.int .i64 ay) ∧ w4.cell? ⟨b0, 2, none⟩ = some (.int .i64 bx) ∧ w4.cell? ⟨b0, 3, none⟩ = some (.int .i64 cy) ∧ w4.cell? ⟨b1, 0, none⟩ = some (.int .i64 px) ∧ w4.cell? ⟨b1, 1, none⟩ = some (.int .i64 py) ∧ w4.cell? ⟨b1, 2, none⟩ = some (.int .i64 qx) ∧ w4.cell? ⟨b1, 3, none⟩ = some (.int .i64 qy)) := hide ⟨(hq4.cell (p := ⟨b0, 0, none⟩) (by show b0 < W3.heap.size; omega)).trans HSS.out.1, (hq4.cell (p := ⟨b0, 1, none⟩) (by show b0 < W3.heap.size; omega)).trans HSS.out.2.1, (hq4.cell (p := ⟨b0, 2, none⟩) (by show b0 < W3.heap.size; omega)).trans HSS.out.2.2.1, (hq4.cell (p := ⟨b0, 3, none⟩) (by show b0 < W3.heap.size; omega)).trans HSS.out.2.2.2.1, (hq4.cell (p := ⟨b1, 0, none⟩) (by show b1 < W3.heap.size; omega)).trans HSS.out.2.2.2.2.1, (hq4.cell (p := ⟨b1, 1, none⟩) (by show b1 < W3.heap.size; omega)).trans HSS.out.2.2.2.2.2.1, (hq4.cell (p := ⟨b1, 2, none⟩) (by show b1 < W3.heap.size; omega)).trans HSS.out.2.2.2.2.2.2.1, (hq4.cell (p := ⟨b1, 3, none⟩) (by show b1 < W3.heap.size; omega)).trans HSS.out.2.2.2.2.2.2.2⟩) | (go_at_call 82; (with_reducible refine (l14PointSquare_g px py qx qy ax ay _).mono ?_); rintro e w5 ⟨n5, d5, rfl, HD5, hq5⟩; have hz5 : w4.heap.size ≤ w5.heap.size := hq5.size; have HSS : Hid (w5.cell? ⟨b0, 0, none⟩ = some (.int .i64 ax) ∧ w5.cell? ⟨b0, 1, none⟩ = some (.int .i64 ay) ∧ w5.cell? ⟨b0, 2, none⟩ = some (.int .i64 bx) ∧ w5.cell? ⟨b0, 3, none⟩ = some (.int .i64 cy) ∧ w5.cell? ⟨b1, 0, none⟩ = some (.int .i64 px) ∧ w5.cell? ⟨b1, 1, none⟩ = some (.int .i64 py) ∧ w5.cell? ⟨b1, 2, none⟩ = some (.int .i64 qx) ∧ w5.cell? ⟨b1, 3, none⟩ = some (.int .i64 qy)) := hide ⟨(hq5.cell (p := ⟨b0, 0, none⟩) (by show b0 < w4.heap.size; omega)).trans HSS.out.1, (hq5.cell (p := ⟨b0, 1, none⟩) (by show b0 < w4.heap.size; omega)).trans HSS.out.2.1, (hq5.cell (p := ⟨b0, 2, none⟩) (by show b0 < w4.heap.size; omega)).trans HSS.out.2.2.1, (hq5.cell (p := ⟨b0, 3, none⟩) (by show b0 < w4.heap.size; omega)).trans HSS.out.2.2.2.1, (hq5.cell (p := ⟨b1, 0, none⟩) (by show b1 < w4.heap.size; omega)).trans HSS.out.2.2.2.2.1, (hq5.cell (p := ⟨b1, 1, none⟩) (by show b1 < w4.heap.size; omega)).trans HSS.out.2.2.2.2.2.1, (hq5.cell (p := ⟨b1, 2, none⟩) (by show b1 < w4.heap.size; omega)).trans HSS.out.2.2.2.2.2.2.1, (hq5.cell (p := ⟨b1, 3, none⟩) (by show b1 < w4.heap.size; omega)).trans HSS.out.2.2.2.2.2.2.2⟩) | (go_at_call 82; (with_reducible refine (l14PointSquare_g px py qx qy bx cy _).mono ?_); rintro e w6 ⟨n6, d6, rfl, HD6, hq6⟩; have hz6 : w5.heap.size ≤ w6.heap.size := hq6.size; have HSS : Hid (w6.cell? ⟨b0, 0, none⟩ = some (.int .i64 ax) ∧ w6.cell? ⟨b0, 1, none⟩ = some (.int .i64 ay) ∧ w6.cell? ⟨b0, 2, none⟩ = some (.int .i64 bx) ∧ w6.cell? ⟨b0, 3, none⟩ = some (.int .i64 cy) ∧ w6.cell? ⟨b1, 0, none⟩ = some (.int .i64 px) ∧ w6.cell? ⟨b1, 1, none⟩ = some (.int .i64 py) ∧ w6.cell? ⟨b1, 2, none⟩ = some (.int .i64 qx) ∧ w6.cell? ⟨b1, 3, none⟩ = some (.int .i64 qy)) := hide ⟨(hq6.cell (p := ⟨b0, 0, none⟩) (by show b0 < w5.heap.size; omega)).trans HSS.out.1, (hq6.cell (p := ⟨b0, 1, none⟩) (by show b0 < w5.heap.size; omega)).trans HSS.out.2.1, (hq6.cell (p := ⟨b0, 2, none⟩) (by show b0 < w5.heap.size; omega)).trans HSS.out.2.2.1, (hq6.cell (p := ⟨b0, 3, none⟩) (by show b0 < w5.heap.size; omega)).trans HSS.out.2.2.2.1, (hq6.cell (p := ⟨b1, 0, none⟩) (by show b1 < w5.heap.size; omega)).trans HSS.out.2.2.2.2.1, (hq6.cell (p := ⟨b1, 1, none⟩) (by show b1 < w5.heap.size; omega)).trans HSS.out.2.2.2.2.2.1, (hq6.cell (p := ⟨b1, 2, none⟩) (by show b1 < w5.heap.size; omega)).trans HSS.out.2.2.2.2.2.2.1, (hq6.cell (p := ⟨b1, 3, none⟩) (by show b1 < w5.heap.size; omega)).trans HSS.out.2.2.2.2.2.2.2⟩; have HSA : Hid (∀ o : Obj, (w6.alloc o).cell? ⟨b0, 0, none⟩ = some (.int .i64 ax) ∧ (w6.alloc o).cell? ⟨b0, 1, none⟩ = some (.int .i64 ay) ∧ (w6.alloc o).cell? ⟨b0, 2, none⟩ = some (.int .i64 bx) ∧ (w6.alloc o).cell? ⟨b0, 3, none⟩ = some (.int .i64 cy) ∧ (w6.alloc o).cell? ⟨b1, 0, none⟩ = some (.int .i64 px) ∧ (w6.alloc o).cell? ⟨b1, 1, none⟩ = some (.int .i64 py) ∧ (w6.alloc o).cell? ⟨b1, 2, none⟩ = some (.int .i64 qx) ∧ (w6.alloc o).cell? ⟨b1, 3, none⟩ = some (.int .i64 qy)) := hide (fun o => ⟨(World.cell?_alloc_lt w6 o ⟨b0, 0, none⟩ (by show b0 < w6.heap.size; omega)).trans HSS.out.1, (World.cell?_alloc_lt w6 o ⟨b0, 1, none⟩ (by show b0 < w6.heap.size; omega)).trans HSS.out.2.1, (World.cell?_alloc_lt w6 o ⟨b0, 2, none⟩ (by show b0 < w6.heap.size; omega)).trans HSS.out.2.2.1, (World.cell?_alloc_lt w6 o ⟨b0, 3, none⟩ (by show b0 < w6.heap.size; omega)).trans HSS.out.2.2.2.1, (World.cell?_alloc_lt w6 o ⟨b1, 0, none⟩ (by show b1 < w6.heap.size; omega)).trans HSS.out.2.2.2.2.1, (World.cell?_alloc_lt w6 o ⟨b1, 1, none⟩ (by show b1 < w6.heap.size; omega)).trans HSS.out.2.2.2.2.2.1, (World.cell?_alloc_lt w6 o ⟨b1, 2, none⟩ (by show b1 < w6.heap.size; omega)).trans HSS.out.2.2.2.2.2.2.1, (World.cell?_alloc_lt w6 o ⟨b1, 3, none⟩ (by show b1 < w6.heap.size; omega)).trans HSS.out.2.2.2.2.2.2.2⟩)))
    clear HSA HSS
    have hq36 : Below W3.heap.size W3 w6 := (((Joins.below_draws _ _ 1 : Below W3.heap.size W3 (World.drew W3)).trans hq4).trans (hq5.mono hz4)).trans (hq6.mono (Nat.le_trans hz4 hz5))
    clear hq4 hq5 hq6
    obtain ⟨W7, hW7⟩ : ∃ W7 : World, W7 = w6.alloc (.cells #[.int .i64 n4, .int .i64 d4, .int .i64 n5, .int .i64 d5, .int .i64 n6, .int .i64 d6] 102) := ⟨_, rfl⟩
    rw [← hW7]
    have hz7 : W7.heap.size = w6.heap.size + 1 := by rw [hW7]; simp
    have B7 : Below W3.heap.size W3 W7 := by rw [hW7]; exact hq36.alloc (by omega) _
    have bL : Box W7 w6.heap.size [.int .i64 n4, .int .i64 d4, .int .i64 n5, .int .i64 d5, .int .i64 n6, .int .i64 d6] := by rw [hW7]; exact box_at _ _ _ _ rfl
    clear hW7 hq36
    replace bC := bC.below B7 (by omega)
    replace fC := fC.below B7 (by omega)
    replace bR3 := bR3.below B7 (by omega)
    replace fR3 := fR3.below B7 (by omega)
    have HB7 : Below b0 w W7 := by rw [← hb0]; exact HB3.out.trans (B7.mono (by omega))
    clear B7 HB3
    have h67 : w2.heap.size + 1 ≤ w6.heap.size := by omega
    go_wp2_with fail
    go_loopw [7] (fun i wr => ∃ (k : Nat) (n d : Int), k ≤ 3 ∧ i = .int .i64 k ∧ (d ≠ 0 ∧ I64 d) ∧ Box wr w2.heap.size [.int .i64 n, .int .i64 d] ∧ Fz wr w2.heap.size ∧ Box wr w6.heap.size [.int .i64 n4, .int .i64 d4, .int .i64 n5, .int .i64 d5, .int .i64 n6, .int .i64 d6] ∧ Box wr (b1 + 1) [.int .i64 0, .int .i64 0] ∧ Fz wr (b1 + 1) ∧ Below b0 w wr ∧ w6.heap.size + 1 ≤ wr.heap.size) (fun i _ => 3 - (intOf i).toNat)
    case atStart => exact ⟨0, n2, d2, by omega, rfl, HD2, bC, fC, bL, bR3, fR3, HB7, by omega⟩
    case round =>
      clear bC fC bL bR3 fR3 HB7
      obtain ⟨k, n, d, hk, rfl, hd, bC, fC, bL, bR, fR, hbr, hsr⟩ := hrel
      have hk4 : k = 0 ∨ k = 1 ∨ k = 2 ∨ k = 3 := by omega
      rcases hk4 with rfl | rfl | rfl | rfl
      · have HSS : Hid ((World.drew wr).cell? ⟨w6.heap.size, 0, none⟩ = some (.int .i64 n4) ∧ (World.drew wr).cell? ⟨w6.heap.size, 1, none⟩ = some (.int .i64 d4) ∧ (World.drew wr).cell? ⟨w2.heap.size, 0, none⟩ = some (.int .i64 n) ∧ (World.drew wr).cell? ⟨w2.heap.size, 1, none⟩ = some (.int .i64 d)) := hide ⟨bL 0 _ rfl, bL 1 _ rfl, bC 0 _ rfl, bC 1 _ rfl⟩
        go_wp2_with fail
        go_region_held3 (fun W => W.cell? ⟨w6.heap.size, 0, none⟩ = some (.int .i64 n4) ∧ W.cell? ⟨w6.heap.size, 1, none⟩ = some (.int .i64 d4) ∧ W.cell? ⟨w2.heap.size, 0, none⟩ = some (.int .i64 n) ∧ W.cell? ⟨w2.heap.size, 1, none⟩ = some (.int .i64 d)) (with_reducible exact HSS.out) ((go_at_call 77; (with_reducible refine (l14Less_g n4 d4 n d HD4.1 HD4.2 hd.1 hd.2 _).mono ?_); rintro e w8 ⟨y, rfl, hq8⟩; have hz8 : wr.heap.size ≤ w8.heap.size := hq8.size; have HSS : Hid (w8.cell? ⟨w6.heap.size, 0, none⟩ = some (.int .i64 n4) ∧ w8.cell? ⟨w6.heap.size, 1, none⟩ = some (.int .i64 d4) ∧ w8.cell? ⟨w2.heap.size, 0, none⟩ = some (.int .i64 n) ∧ w8.cell? ⟨w2.heap.size, 1, none⟩ = some (.int .i64 d)) := hide ⟨(hq8.cell (p := ⟨w6.heap.size, 0, none⟩) (by show w6.heap.size < wr.heap.size; omega)).trans HSS.out.1, (hq8.cell (p := ⟨w6.heap.size, 1, none⟩) (by show w6.heap.size < wr.heap.size; omega)).trans HSS.out.2.1, (hq8.cell (p := ⟨w2.heap.size, 0, none⟩) (by show w2.heap.size < wr.heap.size; omega)).trans HSS.out.2.2.1, (hq8.cell (p := ⟨w2.heap.size, 1, none⟩) (by show w2.heap.size < wr.heap.size; omega)).trans HSS.out.2.2.2⟩))
        have B8 : Below wr.heap.size wr w8 := (Joins.below_draws _ _ 1 : Below wr.heap.size wr (World.drew wr)).trans hq8
        clear hq8 HSS
        replace bC := bC.below B8 (by omega)
        replace fC := fC.below B8 (by omega)
        replace bL := bL.below B8 (by omega)
        replace bR := bR.below B8 (by omega)
        replace fR := fR.below B8 (by omega)
        replace hbr := hbr.trans (B8.mono (by omega))
        clear B8
        have hs8 : w6.heap.size + 1 ≤ w8.heap.size := by omega
        cases y
        · skip
          go_wp2_with fail
          go_roundw
          case rel => exact ⟨1, n, d, by omega, by go_num, hd, bC, fC, bL, bR, fR, hbr, hs8⟩
          case measure => simp [intOf]
        · have l0 := bL 0 _ rfl
          have l1 := bL 1 _ rfl
          have g0 := bC 0 _ rfl
          have g1 := bC 1 _ rfl
          have u0 := fC 0
          have u1 := fC 1
          obtain ⟨P1, P2, P3, P4, P5, P6, P7⟩ := best_put (x' := .int .i64 n4) (y' := .int .i64 d4) (by omega) (by omega) (by omega) bC fC bL bR fR hbr hs8
          clear bC fC bL bR fR
          go_wp2_with fail
          go_roundw
          case rel => (with_reducible exact ⟨1, n4, d4, by omega, by go_num, HD4, P1, P2, P3, P4, P5, P6, P7⟩)
          case measure => simp [intOf]
      · have HSS : Hid ((World.drew wr).cell? ⟨w6.heap.size, 2, none⟩ = some (.int .i64 n5) ∧ (World.drew wr).cell? ⟨w6.heap.size, 3, none⟩ = some (.int .i64 d5) ∧ (World.drew wr).cell? ⟨w2.heap.size, 0, none⟩ = some (.int .i64 n) ∧ (World.drew wr).cell? ⟨w2.heap.size, 1, none⟩ = some (.int .i64 d)) := hide ⟨bL 2 _ rfl, bL 3 _ rfl, bC 0 _ rfl, bC 1 _ rfl⟩
        go_wp2_with fail
        go_region_held3 (fun W => W.cell? ⟨w6.heap.size, 2, none⟩ = some (.int .i64 n5) ∧ W.cell? ⟨w6.heap.size, 3, none⟩ = some (.int .i64 d5) ∧ W.cell? ⟨w2.heap.size, 0, none⟩ = some (.int .i64 n) ∧ W.cell? ⟨w2.heap.size, 1, none⟩ = some (.int .i64 d)) (with_reducible exact HSS.out) ((go_at_call 77; (with_reducible refine (l14Less_g n5 d5 n d HD5.1 HD5.2 hd.1 hd.2 _).mono ?_); rintro e w8 ⟨y, rfl, hq8⟩; have hz8 : wr.heap.size ≤ w8.heap.size := hq8.size; have HSS : Hid (w8.cell? ⟨w6.heap.size, 2, none⟩ = some (.int .i64 n5) ∧ w8.cell? ⟨w6.heap.size, 3, none⟩ = some (.int .i64 d5) ∧ w8.cell? ⟨w2.heap.size, 0, none⟩ = some (.int .i64 n) ∧ w8.cell? ⟨w2.heap.size, 1, none⟩ = some (.int .i64 d)) := hide ⟨(hq8.cell (p := ⟨w6.heap.size, 2, none⟩) (by show w6.heap.size < wr.heap.size; omega)).trans HSS.out.1, (hq8.cell (p := ⟨w6.heap.size, 3, none⟩) (by show w6.heap.size < wr.heap.size; omega)).trans HSS.out.2.1, (hq8.cell (p := ⟨w2.heap.size, 0, none⟩) (by show w2.heap.size < wr.heap.size; omega)).trans HSS.out.2.2.1, (hq8.cell (p := ⟨w2.heap.size, 1, none⟩) (by show w2.heap.size < wr.heap.size; omega)).trans HSS.out.2.2.2⟩))
        have B8 : Below wr.heap.size wr w8 := (Joins.below_draws _ _ 1 : Below wr.heap.size wr (World.drew wr)).trans hq8
        clear hq8 HSS
        replace bC := bC.below B8 (by omega)
        replace fC := fC.below B8 (by omega)
        replace bL := bL.below B8 (by omega)
        replace bR := bR.below B8 (by omega)
        replace fR := fR.below B8 (by omega)
        replace hbr := hbr.trans (B8.mono (by omega))
        clear B8
        have hs8 : w6.heap.size + 1 ≤ w8.heap.size := by omega
        cases y
        · skip
          go_wp2_with fail
          go_roundw
          case rel => exact ⟨2, n, d, by omega, by go_num, hd, bC, fC, bL, bR, fR, hbr, hs8⟩
          case measure => simp [intOf]
        · have l0 := bL 2 _ rfl
          have l1 := bL 3 _ rfl
          have g0 := bC 0 _ rfl
          have g1 := bC 1 _ rfl
          have u0 := fC 0
          have u1 := fC 1
          obtain ⟨P1, P2, P3, P4, P5, P6, P7⟩ := best_put (x' := .int .i64 n5) (y' := .int .i64 d5) (by omega) (by omega) (by omega) bC fC bL bR fR hbr hs8
          clear bC fC bL bR fR
          go_wp2_with fail
          go_roundw
          case rel => (with_reducible exact ⟨2, n5, d5, by omega, by go_num, HD5, P1, P2, P3, P4, P5, P6, P7⟩)
          case measure => simp [intOf]
      · have HSS : Hid ((World.drew wr).cell? ⟨w6.heap.size, 4, none⟩ = some (.int .i64 n6) ∧ (World.drew wr).cell? ⟨w6.heap.size, 5, none⟩ = some (.int .i64 d6) ∧ (World.drew wr).cell? ⟨w2.heap.size, 0, none⟩ = some (.int .i64 n) ∧ (World.drew wr).cell? ⟨w2.heap.size, 1, none⟩ = some (.int .i64 d)) := hide ⟨bL 4 _ rfl, bL 5 _ rfl, bC 0 _ rfl, bC 1 _ rfl⟩
        go_wp2_with fail
        go_region_held3 (fun W => W.cell? ⟨w6.heap.size, 4, none⟩ = some (.int .i64 n6) ∧ W.cell? ⟨w6.heap.size, 5, none⟩ = some (.int .i64 d6) ∧ W.cell? ⟨w2.heap.size, 0, none⟩ = some (.int .i64 n) ∧ W.cell? ⟨w2.heap.size, 1, none⟩ = some (.int .i64 d)) (with_reducible exact HSS.out) ((go_at_call 77; (with_reducible refine (l14Less_g n6 d6 n d HD6.1 HD6.2 hd.1 hd.2 _).mono ?_); rintro e w8 ⟨y, rfl, hq8⟩; have hz8 : wr.heap.size ≤ w8.heap.size := hq8.size; have HSS : Hid (w8.cell? ⟨w6.heap.size, 4, none⟩ = some (.int .i64 n6) ∧ w8.cell? ⟨w6.heap.size, 5, none⟩ = some (.int .i64 d6) ∧ w8.cell? ⟨w2.heap.size, 0, none⟩ = some (.int .i64 n) ∧ w8.cell? ⟨w2.heap.size, 1, none⟩ = some (.int .i64 d)) := hide ⟨(hq8.cell (p := ⟨w6.heap.size, 4, none⟩) (by show w6.heap.size < wr.heap.size; omega)).trans HSS.out.1, (hq8.cell (p := ⟨w6.heap.size, 5, none⟩) (by show w6.heap.size < wr.heap.size; omega)).trans HSS.out.2.1, (hq8.cell (p := ⟨w2.heap.size, 0, none⟩) (by show w2.heap.size < wr.heap.size; omega)).trans HSS.out.2.2.1, (hq8.cell (p := ⟨w2.heap.size, 1, none⟩) (by show w2.heap.size < wr.heap.size; omega)).trans HSS.out.2.2.2⟩))
        have B8 : Below wr.heap.size wr w8 := (Joins.below_draws _ _ 1 : Below wr.heap.size wr (World.drew wr)).trans hq8
        clear hq8 HSS
        replace bC := bC.below B8 (by omega)
        replace fC := fC.below B8 (by omega)
        replace bL := bL.below B8 (by omega)
        replace bR := bR.below B8 (by omega)
        replace fR := fR.below B8 (by omega)
        replace hbr := hbr.trans (B8.mono (by omega))
        clear B8
        have hs8 : w6.heap.size + 1 ≤ w8.heap.size := by omega
        cases y
        · skip
          go_wp2_with fail
          go_roundw
          case rel => exact ⟨3, n, d, by omega, by go_num, hd, bC, fC, bL, bR, fR, hbr, hs8⟩
          case measure => simp [intOf]
        · have l0 := bL 4 _ rfl
          have l1 := bL 5 _ rfl
          have g0 := bC 0 _ rfl
          have g1 := bC 1 _ rfl
          have u0 := fC 0
          have u1 := fC 1
          obtain ⟨P1, P2, P3, P4, P5, P6, P7⟩ := best_put (x' := .int .i64 n6) (y' := .int .i64 d6) (by omega) (by omega) (by omega) bC fC bL bR fR hbr hs8
          clear bC fC bL bR fR
          go_wp2_with fail
          go_roundw
          case rel => (with_reducible exact ⟨3, n6, d6, by omega, by go_num, HD6, P1, P2, P3, P4, P5, P6, P7⟩)
          case measure => simp [intOf]
      · have g0 := bC 0 _ rfl
        have g1 := bC 1 _ rfl
        have r0 := bR 0 _ rfl
        have r1 := bR 1 _ rfl
        have u0 := fR 0
        have u1 := fR 1
        go_wp2_with fail
        refine bodyPost_ret (v := .agg #[.int .i64 n, .int .i64 d]) (by simp [results, Try.results78, go_sem, r0, r1]) rfl ⟨_, _, rfl, hd, ?_⟩
        rw [hb0]
        exact ((hbr.setCell (by first | omega | (simp; omega)) _).setCell (by first | omega | (simp; omega)) _)
  · go_wp2_with fail
    refine bodyPost_ret (v := .agg #[.int .i64 0, .int .i64 1]) (by simp [results, Try.results78, go_sem, brc0, brc1]) rfl ⟨_, _, rfl, ⟨by omega, I64.lit (by omega)⟩, ?_⟩
    exact ((HB1.out.setCell (by first | omega | (simp; omega)) _).setCell (by first | omega | (simp; omega)) _)


end Go.Proofs.Ytoklcjpokffocaa
