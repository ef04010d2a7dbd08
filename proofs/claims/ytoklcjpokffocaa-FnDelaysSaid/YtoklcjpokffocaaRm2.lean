/-
  RouteMotions, the program's. No condition but those that each theorem names.
-/
import Derived.Test.YtoklcjpokffocaaRm
namespace Go.Proofs.Ytoklcjpokffocaa
open Go.RowKit
set_option linter.unusedVariables false
set_option linter.unusedSimpArgs false

/-- What RouteMotions hands back: two motions in rows of their own, and the code. -/
def RmV (w w' : World) (e : Ending) (R : List (List Int)) : Prop := ∃ va vb, e = .returned (.tuple #[.agg #[.int .i64 (rmX R (r0 R 0)), va], .agg #[.int .i64 (rmX R (r1 R 0)), vb], .int .i64 (rmC R)]) ∧
  Own w' w.heap.size w'.heap.size 2 1 va (rmL R (tA R (R.length - 1))).length (rInt64 (rmL R (tA R (R.length - 1)))) ∧ Own w' w.heap.size w'.heap.size 2 1 vb (rmL R (tB R (R.length - 1))).length (rInt64 (rmL R (tB R (R.length - 1)))) ∧ Below w.heap.size w w'
theorem rmV_bad {w w' : World} {R : List (List Int)} {co : Int} (hc : rmC R = co) (h0 : co ≠ 0) (hb : Below w.heap.size w w') : RmV w w' (.returned (.tuple #[.agg #[.int .i64 0, .slice none 0 0], .agg #[.int .i64 0, .slice none 0 0], .int .i64 co])) R := by
  refine ⟨.slice none 0 0, .slice none 0 0, ?_, ?_, ?_, hb⟩
  · simp [rmX, hc, h0]
  · rw [show rmL R (tA R (R.length - 1)) = [] by simp [rmL, hc, h0]]
    exact ⟨World.ownsRow_nil _ _ _ _, fun g hg => by simp [Value.ownBlock] at hg⟩
  · rw [show rmL R (tB R (R.length - 1)) = [] by simp [rmL, hc, h0]]
    exact ⟨World.ownsRow_nil _ _ _ _, fun g hg => by simp [Value.ownBlock] at hg⟩

/-- The start: four boxes. -/
theorem rm_start (w : World) {X : World} (hX : (((w.alloc (.cells #[.int .i64 0, .slice none 0 0] 27)).alloc (.cells #[.int .i64 0, .slice none 0 0] 27)).alloc (.cells #[.int .i64 0, .slice none 0 0] 27)).alloc (.cells #[.int .i64 0, .slice none 0 0] 27) = X) :
    Below w.heap.size w X ∧ X.heap.size = w.heap.size + 4 ∧ RmI X w.heap.size w.heap.size (w.heap.size + 1) (w.heap.size + 1 + 1) (w.heap.size + 1 + 1 + 1) 0 0 (.slice none 0 0) (.slice none 0 0) [] [] := by
  subst hX
  refine ⟨Below.alloc (Below.alloc (Below.alloc (below_al _ _) (by simp) _) (by simp; omega) _) (by simp; omega) _, by simp, ?_⟩
  refine ⟨(((box_at _ _ _ _ (by simp)).more _).more _).more _, ((box_at _ _ _ _ (by simp)).more _).more _, (box_at _ _ _ _ (by simp)).more _, box_at _ _ _ _ (by simp), (((fz_at _ _ _ _ (by simp)).alloc (by simp) _).alloc (by first | omega | (simp; done) | (simp; omega)) _).alloc (by first | omega | (simp; done) | (simp; omega)) _, ((fz_at _ _ _ _ (by simp)).alloc (by simp) _).alloc (by first | omega | simp | (simp; omega)) _, (fz_at _ _ _ _ (by simp)).alloc (by simp) _, fz_at _ _ _ _ (by simp), World.ownsRow_nil _ _ _ _, World.ownsRow_nil _ _ _ _, ?_, ?_, ?_, by simp; omega, by simp; omega⟩ <;> (intro g hg; simp [Value.ownBlock] at hg)

theorem four_set {W : World} {p j a b : Nat} {u s t x v : Value} (h : W.cell? ⟨a, 0, none⟩ = some s ∧ W.cell? ⟨a, 1, none⟩ = some t ∧ W.cell? ⟨b, 0, none⟩ = some x ∧ W.cell? ⟨b, 1, none⟩ = some v) (h1 : p ≠ a) (h2 : p ≠ b) :
    (W.setCell ⟨p, j, none⟩ u).cell? ⟨a, 0, none⟩ = some s ∧ (W.setCell ⟨p, j, none⟩ u).cell? ⟨a, 1, none⟩ = some t ∧ (W.setCell ⟨p, j, none⟩ u).cell? ⟨b, 0, none⟩ = some x ∧ (W.setCell ⟨p, j, none⟩ u).cell? ⟨b, 1, none⟩ = some v :=
  ⟨(World.cell?_setCell_far _ _ ⟨a, 0, none⟩ _ h1).trans h.1, (World.cell?_setCell_far _ _ ⟨a, 1, none⟩ _ h1).trans h.2.1, (World.cell?_setCell_far _ _ ⟨b, 0, none⟩ _ h2).trans h.2.2.1, (World.cell?_setCell_far _ _ ⟨b, 1, none⟩ _ h2).trans h.2.2.2⟩
theorem four_drew {W : World} {a b : Nat} {s t x v : Value} (h : W.cell? ⟨a, 0, none⟩ = some s ∧ W.cell? ⟨a, 1, none⟩ = some t ∧ W.cell? ⟨b, 0, none⟩ = some x ∧ W.cell? ⟨b, 1, none⟩ = some v) :
    W.drew.cell? ⟨a, 0, none⟩ = some s ∧ W.drew.cell? ⟨a, 1, none⟩ = some t ∧ W.drew.cell? ⟨b, 0, none⟩ = some x ∧ W.drew.cell? ⟨b, 1, none⟩ = some v := h
theorem rmV_good {w w' : World} {R : List (List Int)} {x y : Int} {va vb : Value} {m : Nat} (hc : rmC R = 0) (hx : r0 R 0 = x) (hy : r1 R 0 = y) (hm : m = R.length - 1) (hb : Below w.heap.size w w')
    (ha : w'.ownsRow w.heap.size 2 1 va m (rInt64 (tA R m))) (hbb : w'.ownsRow w.heap.size 2 1 vb m (rInt64 (tB R m))) : RmV w w' (.returned (.tuple #[.agg #[.int .i64 x, va], .agg #[.int .i64 y, vb], .int .i64 0])) R := by
  subst hm
  refine ⟨va, vb, by simp [rmX, hc, hx, hy], ?_, ?_, hb⟩
  · rw [show rmL R (tA R (R.length - 1)) = tA R (R.length - 1) by simp [rmL, hc], tA_len]; exact Own.of_owns ha
  · rw [show rmL R (tB R (R.length - 1)) = tB R (R.length - 1) by simp [rmL, hc], tB_len]; exact Own.of_owns hbb
/-- Two boxes are written. -/
theorem put4 {X w : World} {B p1 p2 : Nat} {a1 a2 b1 b2 : Value} (h1 : Box X p1 [a1, a2]) (h2 : Box X p2 [b1, b2]) (hne : p1 < p2) (hB : B ≤ p1) (hb : Below B w X) (s1 t1 s2 t2 : Value) {W : World} (hW : (((X.setCell ⟨p1, 0, none⟩ s1).setCell ⟨p1, 1, none⟩ t1).setCell ⟨p2, 0, none⟩ s2).setCell ⟨p2, 1, none⟩ t2 = W) :
    Box W p1 [s1, t1] ∧ Box W p2 [s2, t2] ∧ Below B w W ∧ W.heap.size = X.heap.size ∧ ∀ g, g ≠ p1 → g ≠ p2 → W.heap[g]? = X.heap[g]? := by
  subst hW
  refine ⟨(((h1.put 0 s1 (by simp)).put 1 t1 (by simp)).far _ _ (by show p2 ≠ p1; omega)).far _ _ (by show p2 ≠ p1; omega), (((h2.far _ _ (by show p1 ≠ p2; omega)).far _ _ (by show p1 ≠ p2; omega)).put 0 s2 (by simp)).put 1 t2 (by simp), ?_, by simp [World.setCell], fun g g1 g2 => ?_⟩
  · exact ((((hb.setCell (p := ⟨p1, 0, none⟩) hB _).setCell (p := ⟨p1, 1, none⟩) hB _).setCell (p := ⟨p2, 0, none⟩) (by show B ≤ p2; omega) _).setCell (p := ⟨p2, 1, none⟩) (by show B ≤ p2; omega) _)
  · rw [Below.heap_setCell _ _ _ _ g2, Below.heap_setCell _ _ _ _ g2, Below.heap_setCell _ _ _ _ g1, Below.heap_setCell _ _ _ _ g1]

set_option maxRecDepth 100000 in
set_option maxHeartbeats 1000000 in
theorem implRouteMotions_any (A : Option Addr) (n c lo hi : Nat) (R : List (List Int)) (hm : n ≤ maxLen) (w : World) (h : RdSS w lo hi A n (rrInt64 R)) (hw : hi ≤ w.heap.size) :
    Calls Try.prog 12 #[.slice A n c] w fun e w' => RmV w w' e R := by
  unfold maxLen at hm
  obtain ⟨i0, hi0, hz0, hz1, hz2⟩ := info_parts infoInt64
  have I := hide (And.intro hi0 (And.intro hz0 (And.intro hz1 hz2)))
  have hn : R.length = n := by have := h.length; rw [rrInt64_len] at this; exact this
  have HN := hide hn
  have HR := hide h
  clear hi0 hz0 hz1 hz2 h hn
  cases hq : inR (n : Int) 1 201
  · have HC : Hid (rmC R = 2) := hide (by unfold rmC; rw [HN.out, hq]; rfl)
    have HQ := hide hq
    clear hq
    go_enter Try.func12, Try.ntmps12
    go_wp2_with (fail)
    refine (within_any _ _ _ _).mono ?_
    rintro e w' ⟨rfl, hw'⟩
    obtain rfl := hw'.symm
    rw [HQ.out]
    obtain ⟨X, hX⟩ : ∃ X, ((w.alloc (.cells #[.int .i64 0, .slice none 0 0] 27)).alloc (.cells #[.int .i64 0, .slice none 0 0] 27)) = X := ⟨_, rfl⟩
    obtain ⟨hb0, hs0, B1, B2⟩ := two_boxes w 0 0 none none 0 0 0 0 hX
    have F1 : Fz X w.heap.size := by rw [← hX]; exact (fz_at _ _ _ _ (by simp)).alloc (by simp) _
    have F2 : Fz X (w.heap.size + 1) := by rw [← hX]; exact fz_at _ _ _ _ (by simp)
    rw [hX]
    have HB := hide hb0
    have c0 := B1 0 _ rfl
    have c1 := B1 1 _ rfl
    have d0 := B2 0 _ rfl
    have d1 := B2 1 _ rfl
    have e0 := F1 0
    have e1 := F1 1
    have g0 := F2 0
    have g1 := F2 1
    clear hb0 hX
    go_wp2_with (fail)
    obtain ⟨WE, hWE⟩ : ∃ WE, (((X.setCell ⟨w.heap.size, 0, none⟩ (.int .i64 0)).setCell ⟨w.heap.size, 1, none⟩ (.slice none 0 0)).setCell ⟨w.heap.size + 1, 0, none⟩ (.int .i64 0)).setCell ⟨w.heap.size + 1, 1, none⟩ (.slice none 0 0) = WE := ⟨_, rfl⟩
    obtain ⟨k1, k2, hbe, _, _⟩ := put4 B1 B2 (by omega) (Nat.le_refl _) HB.out _ _ _ _ hWE
    rw [hWE]
    have q0 := k1 0 _ rfl
    have q1 := k1 1 _ rfl
    have q2 := k2 0 _ rfl
    have q3 := k2 1 _ rfl
    refine bodyPost_ret (v := .tuple #[.agg #[.int .i64 0, .slice none 0 0], .agg #[.int .i64 0, .slice none 0 0], .int .i64 2]) (by simp [results, Try.results12, go_sem, q0, q1, q2, q3]) rfl ?_
    exact rmV_bad HC.out (by decide) hbe
  · have HQ := hide hq
    obtain ⟨q0, q1⟩ := inR_true hq
    clear hq
    have HC : Hid (rmC R = rmF R n 0) := hide (by unfold rmC; rw [HN.out, HQ.out]; rfl)
    go_enter Try.func12, Try.ntmps12
    go_wp2_with (fail)
    refine (within_any _ _ _ _).mono ?_
    rintro e w' ⟨rfl, hw'⟩
    obtain rfl := hw'.symm
    rw [HQ.out]
    go_wp2_with (fail)
    obtain ⟨X, hX⟩ : ∃ X, (((w.alloc (.cells #[.int .i64 0, .slice none 0 0] 27)).alloc (.cells #[.int .i64 0, .slice none 0 0] 27)).alloc (.cells #[.int .i64 0, .slice none 0 0] 27)).alloc (.cells #[.int .i64 0, .slice none 0 0] 27) = X := ⟨_, rfl⟩
    obtain ⟨hb0, hs0, hI⟩ := rm_start w hX
    rw [hX]
    have HB := hide hb0
    have HI := hide hI
    clear hb0 hI hX hw'
    go_loopw [7, 8, 9, 10, 19] (fun _ _ _ _ i wr => ∃ k : Nat, k ≤ n ∧ i = .int .i64 (k : Int) ∧ Hid (Below w.heap.size w wr) ∧ Hid (rmC R = rmF R (n - k) k) ∧ Hid (∀ j, j < k → stV (R.getD j []) = true) ∧ ∃ va vb, Hid (RmI wr w.heap.size w.heap.size (w.heap.size + 1) (w.heap.size + 1 + 1) (w.heap.size + 1 + 1 + 1) (if k = 0 then 0 else r0 R 0) (if k = 0 then 0 else r1 R 0) va vb (tA R (k - 1)) (tB R (k - 1)))) (fun _ _ _ _ i _ => n - (intOf i).toNat)
    case atStart => exact ⟨0, by omega, rfl, HB, HC, hide (by intro j hj; omega), _, _, HI⟩
    case round =>
      clear HB HI HC
      obtain ⟨k, hk, rfl, HB, HC, HP, va, vb, HI⟩ := hrel
      have hsz := HB.out.size
      by_cases hlt : k < n
      · have z1 : (k : Int) < (n : Int) := by omega
        obtain ⟨b0, o0, Ai, ni, ci, rfl, lb0, lb1, hc, hnm, hnl, hrd⟩ := (HR.out.below HB.out hw).at_ hlt
        rw [rrInt64_at] at hnl hrd
        rw [rInt64_len1] at hnl
        unfold maxLen at hnm
        have HNL := hide hnl
        have HRD := hide hrd
        clear hnl hrd
        cases hs : stV (R.getD k [])
        · have HS := hide hs
          clear hs
          have HCC : Hid (rmC R = 1) := hide (by rw [HC.out, show n - k = (n - k - 1) + 1 by omega, rmF_succ, if_neg (by rw [HS.out]; decide)])
          go_wp2_with (fail)
          refine (isState_any Ai ni ci lo hi _ HNL.out.symm (by unfold maxLen; omega) _ HRD.out).mono ?_
          rintro e w' ⟨rfl, hw'⟩
          obtain rfl := hw'.symm
          rw [HS.out]
          have B1 := HI.out.r1
          have B2 := HI.out.r2
          have c0 := B1 0 _ rfl
          have c1 := B1 1 _ rfl
          have d0 := B2 0 _ rfl
          have d1 := B2 1 _ rfl
          have e0 := HI.out.f1 0
          have e1 := HI.out.f1 1
          have g0 := HI.out.f2 0
          have g1 := HI.out.f2 1
          clear hc
          go_wp2_with (fail)
          obtain ⟨WE, hWE⟩ : ∃ WE, (((wr.setCell ⟨w.heap.size, 0, none⟩ (.int .i64 0)).setCell ⟨w.heap.size, 1, none⟩ (.slice none 0 0)).setCell ⟨w.heap.size + 1, 0, none⟩ (.int .i64 0)).setCell ⟨w.heap.size + 1, 1, none⟩ (.slice none 0 0) = WE := ⟨_, rfl⟩
          obtain ⟨k1, k2, hbe, _, _⟩ := put4 B1 B2 (by omega) (Nat.le_refl _) HB.out _ _ _ _ hWE
          rw [hWE]
          have q0 := k1 0 _ rfl
          have q1 := k1 1 _ rfl
          have q2 := k2 0 _ rfl
          have q3 := k2 1 _ rfl
          refine bodyPost_ret (v := .tuple #[.agg #[.int .i64 0, .slice none 0 0], .agg #[.int .i64 0, .slice none 0 0], .int .i64 1]) (by simp [results, Try.results12, go_sem, q0, q1, q2, q3]) rfl ?_
          exact rmV_bad HCC.out (by decide) hbe
        · have HS := hide hs
          clear hs
          obtain ⟨eR, x0, x1, y0, y1⟩ := r_state HS.out
          obtain rfl : ni = 2 := by rw [HNL.out, eR]; rfl
          rw [eR] at HRD
          obtain ⟨br, or_, rfl, hbr0, hbr1, cx, cy⟩ := st_cells HRD.out
          have HX := hide (And.intro x0 (And.intro x1 (And.intro y0 y1)))
          have HER := hide eR
          clear eR x0 x1 y0 y1
          by_cases hk0 : k = 0
          · subst hk0
            simp only [Nat.add_zero] at hc
            replace z1 : (0 : Int) < (n : Int) := by omega
            obtain ⟨x, hx⟩ : ∃ x, r0 R 0 = x := ⟨_, rfl⟩
            obtain ⟨y, hy⟩ : ∃ y, r1 R 0 = y := ⟨_, rfl⟩
            rw [hx] at cx HRD
            rw [hy] at cy HRD
            have HXX := hide (And.intro hx hy)
            clear hx hy
            have HCC : Hid (rmC R = rmF R (n - 1) 1) := hide (by rw [HC.out, show n - 0 = (n - 1) + 1 by omega, rmF_succ, if_pos HS.out, if_pos (by simp)])
            have hI := HI.out
            simp only [if_true] at hI
            have HI2 := hide hI
            clear hI
            have c0 := HI2.out.ba 0 _ rfl
            have d0 := HI2.out.bb 0 _ rfl
            have e0 := HI2.out.fa 0
            have g0 := HI2.out.fb 0
            have HS0 : Hid (wr.cell? ⟨br, or_, none⟩ = some (.int .i64 x) ∧ wr.cell? ⟨br, or_ + 1, none⟩ = some (.int .i64 y)) := hide ⟨cx, cy⟩
            go_wp2_with (go_at_call 30; refine (isState_any _ 2 ci lo hi _ HNL.out.symm (by unfold maxLen; omega) _ (by rw [HER.out, HXX.out.1, HXX.out.2]; exact HRD.out)).mono ?_; rintro e w' ⟨rfl, hw'⟩; obtain rfl := hw'.symm; rw [HS.out])
            go_region_held3 (fun W => W.cell? ⟨br, or_, none⟩ = some (.int .i64 x) ∧ W.cell? ⟨br, or_ + 1, none⟩ = some (.int .i64 y)) (first | exact HS0.out | exact ⟨((World.cell?_setCell_far _ _ ⟨br, or_, none⟩ _ (by show w.heap.size + 1 + 1 ≠ br; omega))).trans HS0.out.1, ((World.cell?_setCell_far _ _ ⟨br, or_ + 1, none⟩ _ (by show w.heap.size + 1 + 1 ≠ br; omega))).trans HS0.out.2⟩ | exact ⟨((World.cell?_setCell_far _ _ ⟨br, or_, none⟩ _ (by show w.heap.size + 1 + 1 + 1 ≠ br; omega)).trans (World.cell?_setCell_far _ _ ⟨br, or_, none⟩ _ (by show w.heap.size + 1 + 1 ≠ br; omega))).trans HS0.out.1, ((World.cell?_setCell_far _ _ ⟨br, or_ + 1, none⟩ _ (by show w.heap.size + 1 + 1 + 1 ≠ br; omega)).trans (World.cell?_setCell_far _ _ ⟨br, or_ + 1, none⟩ _ (by show w.heap.size + 1 + 1 ≠ br; omega))).trans HS0.out.2⟩) (fail)
            have HJ := hide (((HI2.out.startA x).startB y).drew)
            have hbj : Below w.heap.size w (World.drew ((wr.setCell ⟨w.heap.size + 1 + 1, 0, none⟩ (.int .i64 x)).setCell ⟨w.heap.size + 1 + 1 + 1, 0, none⟩ (.int .i64 y))) := ((HB.out.setCell (p := ⟨w.heap.size + 1 + 1, 0, none⟩) (by show w.heap.size ≤ w.heap.size + 1 + 1; omega) _).setCell (p := ⟨w.heap.size + 1 + 1 + 1, 0, none⟩) (by show w.heap.size ≤ w.heap.size + 1 + 1 + 1; omega) _).drew
            have HBJ := hide hbj
            clear hbj c0 d0 e0 g0 cx cy hc
            generalize World.drew ((wr.setCell ⟨w.heap.size + 1 + 1, 0, none⟩ (.int .i64 x)).setCell ⟨w.heap.size + 1 + 1 + 1, 0, none⟩ (.int .i64 y)) = WJ at *
            go_wp2_with fail
            go_roundw
            case rel => exact ⟨1, by omega, rfl, HBJ, HCC, hide (by intro j hj; obtain rfl : j = 0 := (by omega); exact HS.out), va, vb, hide (by rw [if_neg (by decide), if_neg (by decide), HXX.out.1, HXX.out.2]; exact HJ.out)⟩
            case measure => simp [intOf]; omega
          · obtain ⟨j, rfl⟩ : ∃ j, k = j + 1 := ⟨k - 1, by omega⟩
            obtain ⟨eQ, u0, u1, v0, v1⟩ := r_state (HP.out j (by omega))
            obtain ⟨b0', o0', Aj, nj, cj, hA1', _, _, hcj, hnmj, hnj, hrj⟩ := (HR.out.below HB.out hw).at_ (show j < n by omega)
            obtain ⟨rfl, rfl⟩ : b0 = b0' ∧ o0 = o0' := by simpa using hA1'
            rw [rrInt64_at, rInt64_len1] at hnj
            rw [rrInt64_at] at hrj
            rw [eQ] at hrj hnj
            obtain rfl : nj = 2 := hnj
            obtain ⟨bp, op, rfl, _, hbp, p0, p1⟩ := st_cells hrj
            obtain ⟨x0, x1, y0, y1⟩ := HX.out
            have HRT : Hid (rmT R (j + 1) = (inR (trn (r0 R j) (r0 R (j + 1))) (-1) 1 && inR (trn (r1 R j) (r1 R (j + 1))) (-1) 1)) := hide rfl
            have HTA := hide (tA_succ R j)
            have HTB := hide (tB_succ R j)
            have HISW : Hid (stV [r0 R (j + 1), r1 R (j + 1)] = true) := hide (by rw [← HER.out]; exact HS.out)
            obtain ⟨x, hx⟩ : ∃ x, r0 R (j + 1) = x := ⟨_, rfl⟩
            obtain ⟨y, hy⟩ : ∃ x, r1 R (j + 1) = x := ⟨_, rfl⟩
            obtain ⟨x', hx'⟩ : ∃ x, r0 R j = x := ⟨_, rfl⟩
            obtain ⟨y', hy'⟩ : ∃ x, r1 R j = x := ⟨_, rfl⟩
            rw [hx] at cx x0 x1 HRD HISW
            rw [hy] at cy y0 y1 HRD HISW
            rw [hx'] at p0 u0 u1
            rw [hy'] at p1 v0 v1
            rw [hx, hx', hy, hy'] at HRT
            rw [hx, hx'] at HTA
            rw [hy, hy'] at HTB
            clear hx hy hx' hy' hA1' hrj eQ HER
            have HCC : Hid (∀ b, rmT R (j + 1) = b → rmC R = if b = true then rmF R (n - (j + 1 + 1)) (j + 1 + 1) else 6) := hide (by intro b hb; rw [HC.out, show n - (j + 1) = (n - (j + 1 + 1)) + 1 by omega, rmF_succ, if_pos HS.out, hb]; simp)
            have hI := HI.out
            rw [if_neg (by omega), if_neg (by omega), Nat.add_sub_cancel] at hI
            have HI2 := hide hI
            clear hI HI
            go_wp2_with (go_at_call 30; refine (isState_any _ 2 ci lo hi _ rfl (by unfold maxLen; omega) _ HRD.out).mono ?_; rintro e w' ⟨rfl, hw'⟩; obtain rfl := hw'.symm; rw [HISW.out])
            go_quiet ((go_at_call 31; exact Calls.quiet_of_same (turnBetween_any _ _ (by omega) (by omega) (by omega) (by omega) _)))
            generalize hq : World.drewN wr _ = wq
            have HIQ : Hid (RmI wq w.heap.size w.heap.size (w.heap.size + 1) (w.heap.size + 1 + 1) (w.heap.size + 1 + 1 + 1) (r0 R 0) (r1 R 0) va vb (tA R j) (tB R j)) := hide (by rw [← hq]; exact HI2.out.drewN _)
            have HBQ : Hid (Below w.heap.size w wq) := hide (HB.out.trans (by rw [← hq]; exact (Joins.below_draws _ _ _).mono hsz))
            have hsq := HBQ.out.size
            clear hq HI2 HB cx cy p0 p1 hc hcj
            generalize trn x' x = p at *
            generalize trn y' y = q at *
            cases e1 : inR p (-1) 1 <;> cases e2 : inR q (-1) 1
            case true.true =>
              have HE1 := hide e1
              have HE2 := hide e2
              clear e1 e2
              have HC2 : Hid (rmC R = rmF R (n - (j + 1 + 1)) (j + 1 + 1)) := hide (by rw [HCC.out true (by rw [HRT.out, HE1.out, HE2.out]; rfl)]; simp)
              go_upto_region 14 with (go_at_call 32; refine (isTurn2_any _ _).mono ?_; rintro e w' ⟨rfl, hw'⟩; obtain rfl := hw'.symm; first | rw [HE1.out] | rw [HE2.out])
              have HA1 : Hid ((wq.alloc (.cells #[.int .i64 p] 2)).ownsRow w.heap.size 2 1 va j (rInt64 (tA R j))) := hide (by have := (HIQ.out.alloc (.cells #[.int .i64 p] 2)).oa; rw [tA_len] at this; exact this)
              have cA := HIQ.out.ba 1 _ rfl
              have fA := HIQ.out.fa 1
              have hAz := HIQ.out.lt
              go_upto_region 15 with (at_builtin; refine wpList_append_lies _ (by rfl) (.tmp 72) (.tmp 74) 25 (by rfl) w.heap.size 2 i0 (.int .i64 0) 1 8 Try.underlying25 I.out.1 I.out.2.1 I.out.2.2.1 I.out.2.2.2 rfl (by decide) va j (rInt64 (tA R j)) (by rfl) HA1.out ⟨wq.heap.size, 0, none⟩ 1 1 [.int .i64 p] (by rfl) rfl (cell_one_t _ _ _ _ rfl) (by simp [Value.oneCell']) (by decide) (by unfold maxLen; omega) (by omega) (by simp; omega) _ rfl ?_; intro gA capA wnA hown' hgrow hat hlt'; have HOA := hide hown'; have HGA := hide hgrow; have HATA := hide hat; have HLTA := hide hlt'; replace cA := (hgrow.cell_far ⟨w.heap.size + 1 + 1, 1, none⟩ (by show w.heap.size + 1 + 1 < _; simp; omega) (fun e => (((HIQ.out.na) _ e.symm).2.2.1 rfl))).trans ((World.cell?_alloc_lt _ _ _ (by show w.heap.size + 1 + 1 < _; omega)).trans cA); replace fA := (hgrow.frozen_far ⟨w.heap.size + 1 + 1, 1, none⟩ (by show w.heap.size + 1 + 1 < _; simp; omega) (fun e => (((HIQ.out.na) _ e.symm).2.2.1 rfl))).trans ((HIQ.out.alloc _).fa 1); clear hown' hgrow hat hlt')
              have hIA := (HIQ.out.alloc (.cells #[.int .i64 p] 2)).appA (m := j) (by rw [tA_len]) HOA.out HGA.out HATA.out rfl HLTA.out
              have hbA : Below w.heap.size w (wnA.setCell ⟨w.heap.size + 1 + 1, 1, none⟩ (.slice (some ⟨gA, 0, none⟩) (j + 1) capA)) := Below.setCell (Below.grown (HBQ.out.alloc (by omega) (.cells #[.int .i64 p] 2)) HGA.out (by simp; omega) (fun g hg => (HA1.out.lt g hg).1)) (by show w.heap.size ≤ w.heap.size + 1 + 1; omega) _
              rw [← HTA.out] at hIA
              have HIA := hide hIA
              have HBA := hide hbA
              have hsA := hbA.size
              clear hIA hbA HOA HGA HATA HLTA cA fA hAz HA1
              generalize (wnA.setCell ⟨w.heap.size + 1 + 1, 1, none⟩ (.slice (some ⟨gA, 0, none⟩) (j + 1) capA)) = WA at *
              have HB1 : Hid ((WA.alloc (.cells #[.int .i64 q] 2)).ownsRow w.heap.size 2 1 vb j (rInt64 (tB R j))) := hide (by have := (HIA.out.alloc (.cells #[.int .i64 q] 2)).ob; rw [tB_len] at this; exact this)
              have cB := HIA.out.bb 1 _ rfl
              have fB := HIA.out.fb 1
              have hBz := HIA.out.lt
              go_upto_region 16 with (at_builtin; refine wpList_append_lies _ (by rfl) (.tmp 78) (.tmp 80) 25 (by rfl) w.heap.size 2 i0 (.int .i64 0) 1 8 Try.underlying25 I.out.1 I.out.2.1 I.out.2.2.1 I.out.2.2.2 rfl (by decide) vb j (rInt64 (tB R j)) (by rfl) HB1.out ⟨WA.heap.size, 0, none⟩ 1 1 [.int .i64 q] (by rfl) rfl (cell_one_t _ _ _ _ rfl) (by simp [Value.oneCell']) (by decide) (by unfold maxLen; omega) (by omega) (by simp; omega) _ rfl ?_; intro gB capB wnB hown' hgrow hat hlt'; have HOB := hide hown'; have HGB := hide hgrow; have HATB := hide hat; have HLTB := hide hlt'; replace cB := (hgrow.cell_far ⟨w.heap.size + 1 + 1 + 1, 1, none⟩ (by show w.heap.size + 1 + 1 + 1 < _; simp; omega) (fun e => (((HIA.out.nb) _ e.symm).2.2.2 rfl))).trans ((World.cell?_alloc_lt _ _ _ (by show w.heap.size + 1 + 1 + 1 < _; omega)).trans cB); replace fB := (hgrow.frozen_far ⟨w.heap.size + 1 + 1 + 1, 1, none⟩ (by show w.heap.size + 1 + 1 + 1 < _; simp; omega) (fun e => (((HIA.out.nb) _ e.symm).2.2.2 rfl))).trans ((HIA.out.alloc _).fb 1); clear hown' hgrow hat hlt')
              have hIB := (HIA.out.alloc (.cells #[.int .i64 q] 2)).appB (m := j) (by rw [tB_len]) HOB.out HGB.out HATB.out rfl HLTB.out
              have hbB : Below w.heap.size w (wnB.setCell ⟨w.heap.size + 1 + 1 + 1, 1, none⟩ (.slice (some ⟨gB, 0, none⟩) (j + 1) capB)) := Below.setCell (Below.grown (HBA.out.alloc (by omega) (.cells #[.int .i64 q] 2)) HGB.out (by simp; omega) (fun g hg => (HB1.out.lt g hg).1)) (by show w.heap.size ≤ w.heap.size + 1 + 1 + 1; omega) _
              rw [← HTB.out] at hIB
              have HIB := hide hIB
              have HBB := hide hbB
              have hsB := hbB.size
              clear hIB hbB HOB HGB HATB HLTB cB fB hBz HB1
              generalize (wnB.setCell ⟨w.heap.size + 1 + 1 + 1, 1, none⟩ (.slice (some ⟨gB, 0, none⟩) (j + 1) capB)) = WB at *
              go_wp2_with fail
              go_roundw
              case rel =>
                refine ⟨j + 1 + 1, by omega, by go_num, HBB, HC2, hide ?_, _, _, hide (by rw [if_neg (by omega), if_neg (by omega), Nat.add_sub_cancel]; exact HIB.out)⟩
                intro i hi
                by_cases hij : i = j + 1
                · subst hij; exact HS.out
                · exact HP.out i (by omega)
              case measure => simp [intOf]; omega
            all_goals
              have HE1 := hide e1
              have HE2 := hide e2
              clear e1 e2
              have HC2 : Hid (rmC R = 6) := hide (by rw [HCC.out false (by rw [HRT.out, HE1.out, HE2.out]; rfl)]; simp)
              have B1 := HIQ.out.r1
              have B2 := HIQ.out.r2
              have c0 := B1 0 _ rfl
              have c1 := B1 1 _ rfl
              have d0 := B2 0 _ rfl
              have d1 := B2 1 _ rfl
              have e0 := HIQ.out.f1 0
              have e1 := HIQ.out.f1 1
              have g0 := HIQ.out.f2 0
              have g1 := HIQ.out.f2 1
              go_wp2_with (go_at_call 32; refine (isTurn2_any _ _).mono ?_; rintro e w' ⟨rfl, hw'⟩; obtain rfl := hw'.symm; first | rw [HE1.out] | rw [HE2.out])
              obtain ⟨WE, hWE⟩ : ∃ WE, (((wq.setCell ⟨w.heap.size, 0, none⟩ (.int .i64 0)).setCell ⟨w.heap.size, 1, none⟩ (.slice none 0 0)).setCell ⟨w.heap.size + 1, 0, none⟩ (.int .i64 0)).setCell ⟨w.heap.size + 1, 1, none⟩ (.slice none 0 0) = WE := ⟨_, rfl⟩
              obtain ⟨k1, k2, hbe, _, _⟩ := put4 B1 B2 (by omega) (Nat.le_refl _) HBQ.out _ _ _ _ hWE
              rw [hWE]
              have q0 := k1 0 _ rfl
              have q1 := k1 1 _ rfl
              have q2 := k2 0 _ rfl
              have q3 := k2 1 _ rfl
              refine bodyPost_ret (v := .tuple #[.agg #[.int .i64 0, .slice none 0 0], .agg #[.int .i64 0, .slice none 0 0], .int .i64 6]) (by simp [results, Try.results12, go_sem, q0, q1, q2, q3]) rfl ?_
              exact rmV_bad HC2.out (by decide) hbe
      · obtain rfl : k = n := by omega
        have HCZ : Hid (rmC R = 0) := hide (by rw [HC.out, Nat.sub_self]; rfl)
        have hI := HI.out
        rw [if_neg (by omega), if_neg (by omega)] at hI
        have HI2 := hide hI
        clear hI HI
        have c0 := HI2.out.r1 0 _ rfl
        have c1 := HI2.out.r1 1 _ rfl
        have d0 := HI2.out.r2 0 _ rfl
        have d1 := HI2.out.r2 1 _ rfl
        have e0 := HI2.out.f1 0
        have e1 := HI2.out.f1 1
        have g0 := HI2.out.f2 0
        have g1 := HI2.out.f2 1
        have HT0 : Hid (wr.cell? ⟨w.heap.size + 1 + 1, 0, none⟩ = some (.int .i64 (r0 R 0)) ∧ wr.cell? ⟨w.heap.size + 1 + 1, 1, none⟩ = some va ∧ wr.cell? ⟨w.heap.size + 1 + 1 + 1, 0, none⟩ = some (.int .i64 (r1 R 0)) ∧ wr.cell? ⟨w.heap.size + 1 + 1 + 1, 1, none⟩ = some vb) := hide ⟨HI2.out.ba 0 _ rfl, HI2.out.ba 1 _ rfl, HI2.out.bb 0 _ rfl, HI2.out.bb 1 _ rfl⟩
        obtain ⟨x, hx⟩ : ∃ x, r0 R 0 = x := ⟨_, rfl⟩
        obtain ⟨y, hy⟩ : ∃ x, r1 R 0 = x := ⟨_, rfl⟩
        rw [hx, hy] at HT0
        have HXY := hide (And.intro hx hy)
        clear hx hy
        obtain ⟨A2, c2, hva, hnA, hmA, _⟩ := (Own.of_owns HI2.out.oa).rd
        obtain ⟨A3, c3, hvb, hnB, hmB, _⟩ := (Own.of_owns HI2.out.ob).rd
        subst hva hvb
        rw [tA_len] at HT0 HI2
        rw [tB_len] at HT0 HI2
        go_wp2_with fail
        go_region_held3 (fun W => W.cell? ⟨w.heap.size + 1 + 1, 0, none⟩ = some (.int .i64 x) ∧ W.cell? ⟨w.heap.size + 1 + 1, 1, none⟩ = some (.slice A2 (k - 1) c2) ∧ W.cell? ⟨w.heap.size + 1 + 1 + 1, 0, none⟩ = some (.int .i64 y) ∧ W.cell? ⟨w.heap.size + 1 + 1 + 1, 1, none⟩ = some (.slice A3 (k - 1) c3)) (first | exact HT0.out | (with_reducible exact four_drew (four_set (four_set HT0.out (by omega) (by omega)) (by omega) (by omega))) | (with_reducible exact four_drew (four_set (four_set (four_set (four_set HT0.out (by omega) (by omega)) (by omega) (by omega)) (by omega) (by omega)) (by omega) (by omega)))) (fail)
        obtain ⟨WE, hWE⟩ : ∃ WE, ((((wr.setCell ⟨w.heap.size, 0, none⟩ (.int .i64 x)).setCell ⟨w.heap.size, 1, none⟩ (.slice A2 (k - 1) c2)).setCell ⟨w.heap.size + 1, 0, none⟩ (.int .i64 y)).setCell ⟨w.heap.size + 1, 1, none⟩ (.slice A3 (k - 1) c3)) = WE := ⟨_, rfl⟩
        obtain ⟨k1, k2, hbe, _, hkeep⟩ := put4 HI2.out.r1 HI2.out.r2 (by omega) (Nat.le_refl _) HB.out _ _ _ _ hWE
        have hown1 := owns_of_block HI2.out.oa (W' := WE) (fun g hg => hkeep g (HI2.out.na g hg).1 (HI2.out.na g hg).2.1)
        have hown2 := owns_of_block HI2.out.ob (W' := WE) (fun g hg => hkeep g (HI2.out.nb g hg).1 (HI2.out.nb g hg).2.1)
        rw [tA_len] at hown1
        rw [tB_len] at hown2
        have q0 : WE.drew.cell? ⟨w.heap.size, 0, none⟩ = _ := k1 0 _ rfl
        have q1 : WE.drew.cell? ⟨w.heap.size, 1, none⟩ = _ := k1 1 _ rfl
        have q2 : WE.drew.cell? ⟨w.heap.size + 1, 0, none⟩ = _ := k2 0 _ rfl
        have q3 : WE.drew.cell? ⟨w.heap.size + 1, 1, none⟩ = _ := k2 1 _ rfl
        rw [hWE]
        have HE1 := hide hown1
        have HE2 := hide hown2
        have HEB := hide hbe
        clear hown1 hown2 hbe hkeep k1 k2 hWE c0 c1 d0 d1 e0 e1 g0 g1
        go_wp2_with fail
        refine bodyPost_ret (v := .tuple #[.agg #[.int .i64 x, .slice A2 (k - 1) c2], .agg #[.int .i64 y, .slice A3 (k - 1) c3], .int .i64 0]) (by simp [results, Try.results12, go_sem, q0, q1, q2, q3]) rfl ?_
        exact rmV_good HCZ.out HXY.out.1 HXY.out.2 (by rw [HN.out]) HEB.out.drew HE1.out HE2.out
end Go.Proofs.Ytoklcjpokffocaa
