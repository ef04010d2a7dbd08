/-
  GEOMETRY of the program, exactly: vectors out of the table of quarters, ends of jibs, booms. No condition but those that each theorem names.
-/
import Derived.Test.YtajjophmngabbaaGreatDoorGi5
import Derived.Test.YtajjophmngabbaaGreatDoorSwing
import Derived.StillTailTactics
import Derived.Deep.RegionHeld3
namespace Go.Proofs.YtajjophmngabbaaGreatDoor
open Go.RowKit
set_option linter.unusedVariables false
set_option linter.unusedSimpArgs false

/-- The program's table of the first quarter stands as its text lays it. -/
def Tq (W : World) : Prop := 0 < W.heap.size ∧ ∀ k, k < 6 → W.cell? ⟨0, k * 2, none⟩ = some (.int .i64 (vqT.getD k (0, 0)).1) ∧ W.cell? ⟨0, k * 2 + 1, none⟩ = some (.int .i64 (vqT.getD k (0, 0)).2)
theorem Tq.below {W W' : World} {B : Nat} (h : Tq W) (hb : Below B W W') (hB : 0 < B) : Tq W' :=
  ⟨Nat.lt_of_lt_of_le h.1 hb.size, fun k hk => ⟨(hb.cell (p := ⟨0, k * 2, none⟩) hB).trans (h.2 k hk).1, (hb.cell (p := ⟨0, k * 2 + 1, none⟩) hB).trans (h.2 k hk).2⟩⟩
theorem Tq.drew {W : World} (h : Tq W) : Tq (World.drew W) := h
theorem Tq.drewN {W : World} (h : Tq W) (n : Nat) : Tq (W.drewN n) := h
theorem Tq.of {W W' : World} (h : Tq W) (hb : Below W.heap.size W W') : Tq W' := h.below hb h.1

set_option maxRecDepth 100000 in
set_option maxHeartbeats 2000000 in
theorem vector_is {d vx vy : Int} (h0 : 0 ≤ d) (h1 : d ≤ 23) (hv : vcI d = (vx, vy)) {w : World} (ht : Tq w) :
    Calls Tryz.prog 87 #[.int .i64 d] w fun e w' => e = .returned (.agg #[.int .i64 vx, .int .i64 vy]) ∧ Below w.heap.size w w' := by
  obtain ⟨x, y, e2⟩ : ∃ x y, vqT.getD (d % 6).toNat (0, 0) = (x, y) := ⟨_, _, rfl⟩
  obtain ⟨q0, q1⟩ := ht.2 (d % 6).toNat (by omega)
  rw [e2] at q0 q1
  have e0 := fun o => (World.cell?_alloc_lt w o ⟨0, (d % 6).toNat * 2, none⟩ ht.1).trans q0
  have e1 := fun o => (World.cell?_alloc_lt w o ⟨0, (d % 6).toNat * 2 + 1, none⟩ ht.1).trans q1
  clear q0 q1 ht
  have ok := vq_ok (d % 6).toNat
  rw [e2] at ok
  obtain ⟨k0, k1, k2, k3⟩ := ok
  simp only at k0 k1 k2 k3
  have HV := hide (show rotI d (x, y) = (vx, vy) by rw [← e2]; exact hv)
  clear e2 hv
  go_enter Tryz.func87, Tryz.ntmps87
  go_wp2_with fail
  clear e0 e1
  obtain ⟨W0, hW0⟩ : ∃ W0 : World, W0 = ((w.alloc (.cells #[.int .i64 0, .int .i64 0] 42)).alloc (.cells #[.int .i64 x, .int .i64 y] 42)) := ⟨_, rfl⟩
  rw [← hW0]
  have bC : Box W0 (w.heap.size + 1) [.int .i64 x, .int .i64 y] := by rw [hW0]; exact box_at _ _ _ _ (by simp)
  have fC : Fz W0 (w.heap.size + 1) := by rw [hW0]; exact fz_at _ _ _ _ (by simp)
  have bR : Box W0 w.heap.size [.int .i64 0, .int .i64 0] := by rw [hW0]; exact (box_at _ _ _ _ (by simp)).alloc (by simp) _
  have fR : Fz W0 w.heap.size := by rw [hW0]; exact (fz_at _ _ _ _ (by simp)).alloc (by simp) _
  have hB : Below w.heap.size w W0 := by rw [hW0]; exact ((Below.refl _ _).alloc (Nat.le_refl _) _).alloc (by simp) _
  have hs : w.heap.size + 1 + 1 ≤ W0.heap.size := by rw [hW0]; simp
  clear hW0
  go_loopw [0] (fun dd wr => ∃ d x y : Int, 0 ≤ d ∧ d ≤ 23 ∧ dd = .int .i64 d ∧ (-1000 ≤ x ∧ x ≤ 1000 ∧ -1000 ≤ y ∧ y ≤ 1000) ∧ Hid (rotI d (x, y) = (vx, vy)) ∧ Box wr (w.heap.size + 1) [.int .i64 x, .int .i64 y] ∧ Fz wr (w.heap.size + 1) ∧ Box wr w.heap.size [.int .i64 0, .int .i64 0] ∧ Fz wr w.heap.size ∧ Below w.heap.size w wr ∧ w.heap.size + 1 + 1 ≤ wr.heap.size) (fun dd _ => (intOf dd).toNat)
  case atStart => exact ⟨d, x, y, h0, h1, rfl, ⟨k0, k1, k2, k3⟩, HV, bC, fC, bR, fR, hB, hs⟩
  case round =>
    clear bC fC bR fR hB hs h0 h1 HV k0 k1 k2 k3
    obtain ⟨d, x, y, h0, h1, rfl, ⟨k0, k1, k2, k3⟩, HV, bC, fC, bR, fR, hbr, hsr⟩ := hrel
    have g0 := bC 0 _ rfl
    have g1 := bC 1 _ rfl
    have r0 := bR 0 _ rfl
    have r1 := bR 1 _ rfl
    have u0 := fC 0
    have u1 := fC 1
    have v0 := fR 0
    have v1 := fR 1
    by_cases h6 : 6 ≤ d
    · obtain ⟨P1, P2, _, P4, P5, P6, P7⟩ := best_put' (x' := .int .i64 (-y)) (y' := .int .i64 x) (l := w.heap.size) (by omega) (by omega) (by omega) bC fC bR bR fR hbr (by omega)
      have e1 : w.heap.size + 1 + 1 ≤ ((wr.setCell ⟨w.heap.size + 1, 0, none⟩ (.int .i64 (-y))).setCell ⟨w.heap.size + 1, 1, none⟩ (.int .i64 x)).heap.size := by simpa [World.setCell] using hsr
      have HV2 := hide ((rotI_s h6 h1 x y).trans HV.out)
      clear bC fC bR fR hbr
      go_wp2_with fail
      go_roundw
      case rel => (with_reducible exact ⟨d - 6, _, _, by omega, by omega, by go_num, ⟨by omega, by omega, by omega, by omega⟩, HV2, P1, P2, P4, P5, P6, e1⟩)
      case measure => first | (simp [intOf]; done) | (simp [intOf]; omega)
    · have HN := hide ((rotI_0 (x, y) (show d < 6 by omega)).symm.trans HV.out)
      clear bC fC
      go_wp2_with fail
      refine bodyPost_ret (v := .agg #[.int .i64 x, .int .i64 y]) (by simp [results, Tryz.results87, go_sem, r0, r1]) rfl ⟨by have h := HN.out; injection h with h1 h2; rw [h1, h2], ?_⟩
      exact ((hbr.setCell (Nat.le_refl _) _).setCell (Nat.le_refl _) _)


theorem res_put' {w1 : World} {g : Nat} {x y r0 r1 : Value} {o : Obj} (bR : Box w1 g [r0, r1]) (hg : g < w1.heap.size) : Box (((w1.setCell ⟨g, 0, none⟩ x).setCell ⟨g, 1, none⟩ y).alloc o) g [x, y] := by
  obtain ⟨W1, h1⟩ : ∃ W, W = w1.setCell ⟨g, 0, none⟩ x := ⟨_, rfl⟩
  obtain ⟨W2, h2⟩ : ∃ W, W = W1.setCell ⟨g, 1, none⟩ y := ⟨_, rfl⟩
  rw [← h1, ← h2]
  have c1 : Box W1 g [x, r1] := by rw [h1]; exact bR.put 0 x (by simp)
  have c2 : Box W2 g [x, y] := by rw [h2]; exact c1.put 1 y (by simp)
  have e : W2.heap.size = w1.heap.size := by rw [h2, h1]; simp [World.setCell]
  exact c2.alloc (by omega) _

set_option maxRecDepth 100000 in
set_option maxHeartbeats 2000000 in
theorem placeAt_is {x y d r vx vy px py : Int} (hx0 : -10000 ≤ x) (hx1 : x ≤ 10000) (hy0 : -10000 ≤ y) (hy1 : y ≤ 10000) (h0 : 0 ≤ d) (h1 : d ≤ 23) (hr0 : 0 ≤ r) (hr1 : r ≤ 1000) (hv : vcI d = (vx, vy)) (hp : atI x vx r = px) (hq : atI y vy r = py) {w : World} (ht : Tq w) :
    Calls Tryz.prog 63 #[.agg #[.int .i64 x, .int .i64 y], .int .i64 d, .int .i64 r] w fun e w' => e = .returned (.agg #[.int .i64 px, .int .i64 py]) ∧ Below w.heap.size w w' := by
  have ok := vcI_ok d
  rw [hv] at ok
  obtain ⟨k0, k1, k2, k3⟩ := ok
  simp only at k0 k1 k2 k3
  have m1 := mulr_fit ⟨k0, k1⟩ ⟨hr0, hr1⟩
  have m2 := mulr_fit ⟨k2, k3⟩ ⟨hr0, hr1⟩
  have n1 := tdiv_fit m1
  have n2 := tdiv_fit m2
  have HV := hide hv
  have HP := hide hp
  have HQ := hide hq
  clear hv hp hq
  go_enter Tryz.func63, Tryz.ntmps63
  go_wp2_with fail
  obtain ⟨W0, hW0⟩ : ∃ W0 : World, W0 = ((w.alloc (.cells #[.int .i64 x, .int .i64 y] 42)).alloc (.cells #[.int .i64 0, .int .i64 0] 42)) := ⟨_, rfl⟩
  rw [← hW0]
  have bA : Box W0 w.heap.size [.int .i64 x, .int .i64 y] := by rw [hW0]; exact (box_at _ _ _ _ (by simp)).alloc (by simp) _
  have bR : Box W0 (w.heap.size + 1) [.int .i64 0, .int .i64 0] := by rw [hW0]; exact box_at _ _ _ _ (by simp)
  have fR : Fz W0 (w.heap.size + 1) := by rw [hW0]; exact fz_at _ _ _ _ (by simp)
  have hB : Below w.heap.size w W0 := by rw [hW0]; exact ((Below.refl _ _).alloc (Nat.le_refl _) _).alloc (by simp) _
  have hs : w.heap.size + 2 ≤ W0.heap.size := by rw [hW0]; simp
  clear hW0
  refine (vector_is h0 h1 HV.out (ht.below hB ht.1)).mono ?_
  rintro e w1 ⟨rfl, hb1⟩
  clear ht
  have hs1 := hb1.size
  have a0 := bA.below hb1 (by omega) 0 _ rfl
  have a1 := bA.below hb1 (by omega) 1 _ rfl
  have r0 := bR.below hb1 (by omega) 0 _ rfl
  have r1 := bR.below hb1 (by omega) 1 _ rfl
  have v0 := fR.below hb1 (by omega) 0
  have v1 := fR.below hb1 (by omega) 1
  have n0' : w.heap.size < w1.heap.size := by omega
  have n1' : w.heap.size + 1 < w1.heap.size := by omega
  have HB := hide (hB.trans (hb1.mono (by omega)))
  have bE := res_put' (x := .int .i64 (x + (vx * r).tdiv 1000)) (y := .int .i64 (y + (vy * r).tdiv 1000)) (o := .cells #[.int .i64 vx, .int .i64 vy] 42) (bR.below hb1 (by omega)) (by omega)
  have e0 := bE 0 _ rfl
  have e1 := bE 1 _ rfl
  have E0 := hide e0
  have E1 := hide e1
  clear bA bR fR hB hb1 bE e0 e1
  go_wp2_with fail
  have e0 := E0.out
  have e1 := E1.out
  refine bodyPost_ret (v := .agg #[.int .i64 (x + (vx * r).tdiv 1000), .int .i64 (y + (vy * r).tdiv 1000)]) (by simp [results, Tryz.results63, go_sem, e0, e1]) rfl ⟨by rw [← HP.out, ← HQ.out]; rfl, ?_⟩
  exact ((HB.out.setCell (by first | omega | (simp; done) | (simp; omega)) _).setCell (by first | omega | (simp; done) | (simp; omega)) _).alloc (by simp [World.setCell]; omega) _


set_option maxRecDepth 100000 in
set_option maxHeartbeats 2000000 in
theorem jibEnd_is {nm : ByteArray} {x y h j b : Int} {ch : List (Int × Int)} {Ai : Option Addr} {ni ci : Nat} {d vx vy px py : Int} (hc : crB ⟨nm, x, y, h, j, b, ch⟩ = true) (h0 : 0 ≤ d) (h1 : d ≤ 23) (hv : vcI d = (vx, vy)) (hp : atI x vx j = px) (hq : atI y vy j = py) {w : World} (ht : Tq w) :
    Calls Tryz.prog 46 #[.agg #[.string nm, .int .i64 x, .int .i64 y, .int .i64 h, .int .i64 j, .int .i64 b, .slice Ai ni ci], .int .i64 d] w fun e w' => e = .returned (.agg #[.int .i64 px, .int .i64 py]) ∧ Below w.heap.size w w' := by
  obtain ⟨⟨z0, z1⟩, ⟨z2, z3⟩, -, ⟨z4, z5⟩, ⟨z6, z7⟩⟩ := cr_nums hc
  simp only at z0 z1 z2 z3 z4 z5 z6 z7
  have HV := hide hv
  have HP := hide hp
  have HQ := hide hq
  clear hv hp hq hc
  go_enter Tryz.func46, Tryz.ntmps46
  go_wp2_with fail
  obtain ⟨W0, hW0⟩ : ∃ W0 : World, W0 = ((w.alloc (.cells #[.string nm, .int .i64 x, .int .i64 y, .int .i64 h, .int .i64 j, .int .i64 b, .slice Ai ni ci] 45)).alloc (.cells #[.int .i64 0, .int .i64 0] 42)) := ⟨_, rfl⟩
  rw [← hW0]
  have bA : Box W0 w.heap.size [.string nm, .int .i64 x, .int .i64 y, .int .i64 h, .int .i64 j, .int .i64 b, .slice Ai ni ci] := by rw [hW0]; exact (box_at _ _ _ _ (by simp)).alloc (by simp) _
  have bR : Box W0 (w.heap.size + 1) [.int .i64 0, .int .i64 0] := by rw [hW0]; exact box_at _ _ _ _ (by simp)
  have fR : Fz W0 (w.heap.size + 1) := by rw [hW0]; exact fz_at _ _ _ _ (by simp)
  have hB : Below w.heap.size w W0 := by rw [hW0]; exact ((Below.refl _ _).alloc (Nat.le_refl _) _).alloc (by simp) _
  have hs : w.heap.size + 2 ≤ W0.heap.size := by rw [hW0]; simp
  have HT := hide (ht.below hB ht.1)
  clear hW0 ht
  have c1 := bA 1 _ rfl
  have c2 := bA 2 _ rfl
  have c4 := bA 4 _ rfl
  go_wp2_with fail
  refine (placeAt_is z0 z1 z2 z3 h0 h1 (by omega) (by omega) HV.out HP.out HQ.out HT.out).mono ?_
  rintro e w1 ⟨rfl, hb1⟩
  have hs1 := hb1.size
  have r0 := bR.below hb1 (by omega) 0 _ rfl
  have r1 := bR.below hb1 (by omega) 1 _ rfl
  have v0 := fR.below hb1 (by omega) 0
  have v1 := fR.below hb1 (by omega) 1
  have HB := hide (hB.trans (hb1.mono (by omega)))
  clear c1 c2 c4
  go_wp2_with fail
  refine bodyPost_ret (v := .agg #[.int .i64 px, .int .i64 py]) (by simp [results, Tryz.results46, go_sem, r0, r1]) rfl ⟨rfl, ?_⟩
  exact ((HB.out.setCell (by first | omega | (simp; done) | (simp; omega)) _).setCell (by first | omega | (simp; done) | (simp; omega)) _)

set_option maxRecDepth 100000 in
set_option maxHeartbeats 2000000 in
theorem backEnd_is {nm : ByteArray} {x y h j b : Int} {ch : List (Int × Int)} {Ai : Option Addr} {ni ci : Nat} {d vx vy px py : Int} (hc : crB ⟨nm, x, y, h, j, b, ch⟩ = true) (h0 : 0 ≤ d) (h1 : d ≤ 23) (hv : vcI ((d + 12) % 24) = (vx, vy)) (hp : atI x vx b = px) (hq : atI y vy b = py) {w : World} (ht : Tq w) :
    Calls Tryz.prog 45 #[.agg #[.string nm, .int .i64 x, .int .i64 y, .int .i64 h, .int .i64 j, .int .i64 b, .slice Ai ni ci], .int .i64 d] w fun e w' => e = .returned (.agg #[.int .i64 px, .int .i64 py]) ∧ Below w.heap.size w w' := by
  obtain ⟨⟨z0, z1⟩, ⟨z2, z3⟩, -, ⟨z4, z5⟩, ⟨z6, z7⟩⟩ := cr_nums hc
  simp only at z0 z1 z2 z3 z4 z5 z6 z7
  have HV := hide hv
  have HP := hide hp
  have HQ := hide hq
  clear hv hp hq hc
  go_enter Tryz.func45, Tryz.ntmps45
  go_wp2_with fail
  obtain ⟨W0, hW0⟩ : ∃ W0 : World, W0 = ((w.alloc (.cells #[.string nm, .int .i64 x, .int .i64 y, .int .i64 h, .int .i64 j, .int .i64 b, .slice Ai ni ci] 45)).alloc (.cells #[.int .i64 0, .int .i64 0] 42)) := ⟨_, rfl⟩
  rw [← hW0]
  have bA : Box W0 w.heap.size [.string nm, .int .i64 x, .int .i64 y, .int .i64 h, .int .i64 j, .int .i64 b, .slice Ai ni ci] := by rw [hW0]; exact (box_at _ _ _ _ (by simp)).alloc (by simp) _
  have bR : Box W0 (w.heap.size + 1) [.int .i64 0, .int .i64 0] := by rw [hW0]; exact box_at _ _ _ _ (by simp)
  have fR : Fz W0 (w.heap.size + 1) := by rw [hW0]; exact fz_at _ _ _ _ (by simp)
  have hB : Below w.heap.size w W0 := by rw [hW0]; exact ((Below.refl _ _).alloc (Nat.le_refl _) _).alloc (by simp) _
  have hs : w.heap.size + 2 ≤ W0.heap.size := by rw [hW0]; simp
  have HT := hide (ht.below hB ht.1)
  clear hW0 ht
  have c1 := bA 1 _ rfl
  have c2 := bA 2 _ rfl
  have c5 := bA 5 _ rfl
  go_wp2_with fail
  go_still_tail 6, (by kernel_rfl)
  still_call (opposite_any d (by omega) (by omega) _)
  repeat still_step
  refine wpStill_nil ?_
  change wpList _ _ _ _ _ W0.drew
  have hB0 : Below W0.heap.size W0 W0.drew := Joins.below_draws _ _ 1
  replace bR : Box W0.drew (w.heap.size + 1) [.int .i64 0, .int .i64 0] := bR
  replace fR : Fz W0.drew (w.heap.size + 1) := fR
  replace hB : Below w.heap.size w W0.drew := hB.trans (hB0.mono (by omega))
  replace hs : w.heap.size + 2 ≤ W0.drew.heap.size := hs
  replace HT := hide (show Tq W0.drew from HT.out)
  clear hB0
  generalize W0.drew = w2 at *
  go_wp2_with fail
  refine (placeAt_is z0 z1 z2 z3 (by omega) (by omega) (by omega) (by omega) HV.out HP.out HQ.out HT.out).mono ?_
  rintro e w1 ⟨rfl, hb1⟩
  have hs1 := hb1.size
  have r0 := bR.below hb1 (by omega) 0 _ rfl
  have r1 := bR.below hb1 (by omega) 1 _ rfl
  have v0 := fR.below hb1 (by omega) 0
  have v1 := fR.below hb1 (by omega) 1
  have HB := hide (hB.trans (hb1.mono (by omega)))
  clear c1 c2 c5
  go_wp2_with fail
  refine bodyPost_ret (v := .agg #[.int .i64 px, .int .i64 py]) (by simp [results, Tryz.results45, go_sem, r0, r1]) rfl ⟨rfl, ?_⟩
  exact ((HB.out.setCell (by first | omega | (simp; done) | (simp; omega)) _).setCell (by first | omega | (simp; done) | (simp; omega)) _)

set_option maxRecDepth 100000 in
set_option maxHeartbeats 2000000 in
theorem boom_is {nm : ByteArray} {x y h j b : Int} {ch : List (Int × Int)} {Ai : Option Addr} {ni ci : Nat} {d px py qx qy : Int} (hc : crB ⟨nm, x, y, h, j, b, ch⟩ = true) (h0 : 0 ≤ d) (h1 : d ≤ 23) (hm : bmI ⟨nm, x, y, h, j, b, ch⟩ d = (px, py, qx, qy)) {w : World} (ht : Tq w) :
    Calls Tryz.prog 32 #[.agg #[.string nm, .int .i64 x, .int .i64 y, .int .i64 h, .int .i64 j, .int .i64 b, .slice Ai ni ci], .int .i64 d] w fun e w' => e = .returned (.agg #[.int .i64 px, .int .i64 py, .int .i64 qx, .int .i64 qy]) ∧ Below w.heap.size w w' := by
  obtain ⟨⟨vx, vy⟩, hv⟩ : ∃ p, vcI d = p := ⟨_, rfl⟩
  obtain ⟨⟨ux, uy⟩, hu⟩ : ∃ p, vcI ((d + 12) % 24) = p := ⟨_, rfl⟩
  unfold bmI at hm
  rw [hv, hu] at hm
  injection hm with e1 hm
  injection hm with e2 hm
  injection hm with e3 e4
  have HV := hide hv
  have HU := hide hu
  have E1 := hide e1
  have E2 := hide e2
  have E3 := hide e3
  have E4 := hide e4
  have HCR := hide hc
  clear hv hu e1 e2 e3 e4 hc
  obtain ⟨W1, hW1⟩ : ∃ W1 : World, w.alloc (.cells #[.string nm, .int .i64 x, .int .i64 y, .int .i64 h, .int .i64 j, .int .i64 b, .slice Ai ni ci] 45) = W1 := ⟨_, rfl⟩
  have hB1 : Below w.heap.size w W1 := by rw [← hW1]; exact (Below.refl _ _).alloc (Nat.le_refl _) _
  have hs1 : W1.heap.size = w.heap.size + 1 := by rw [← hW1]; simp
  obtain ⟨W0, hW0⟩ : ∃ W0 : World, W1.alloc (.cells #[.int .i64 0, .int .i64 0, .int .i64 0, .int .i64 0] 70) = W0 := ⟨_, rfl⟩
  obtain ⟨bc, hbc⟩ : ∃ bc, w.heap.size = bc := ⟨_, rfl⟩
  have hbr : W1.heap.size = bc + 1 := by omega
  have bA : Box W0 bc [.string nm, .int .i64 x, .int .i64 y, .int .i64 h, .int .i64 j, .int .i64 b, .slice Ai ni ci] := by rw [← hW0]; exact (show Box W1 bc [.string nm, .int .i64 x, .int .i64 y, .int .i64 h, .int .i64 j, .int .i64 b, .slice Ai ni ci] by rw [← hW1, ← hbc]; exact box_at _ _ _ _ rfl).alloc (by omega) _
  have bR : Box W0 (bc + 1) [.int .i64 0, .int .i64 0, .int .i64 0, .int .i64 0] := by rw [← hW0]; exact box_at _ _ _ _ hbr.symm
  have fR : Fz W0 (bc + 1) := by rw [← hW0]; exact fz_at _ _ _ _ hbr.symm
  have hB : Below w.heap.size w W0 := by rw [← hW0]; exact hB1.alloc (by omega) _
  have hs : bc + 1 < W0.heap.size := by rw [← hW0]; simp; omega
  have hne : bc < bc + 1 := by omega
  have hle : w.heap.size ≤ bc + 1 := by omega
  have hsz : w.heap.size ≤ W0.heap.size := hB.size
  have HT := hide (Tq.drew (ht.below hB ht.1))
  have HSS : Hid ((World.drew W0).cell? ⟨bc, 0, none⟩ = some (.string nm) ∧ (World.drew W0).cell? ⟨bc, 1, none⟩ = some (.int .i64 x) ∧ (World.drew W0).cell? ⟨bc, 2, none⟩ = some (.int .i64 y) ∧ (World.drew W0).cell? ⟨bc, 3, none⟩ = some (.int .i64 h) ∧ (World.drew W0).cell? ⟨bc, 4, none⟩ = some (.int .i64 j) ∧ (World.drew W0).cell? ⟨bc, 5, none⟩ = some (.int .i64 b) ∧ (World.drew W0).cell? ⟨bc, 6, none⟩ = some (.slice Ai ni ci)) := hide ⟨bA 0 _ rfl, bA 1 _ rfl, bA 2 _ rfl, bA 3 _ rfl, bA 4 _ rfl, bA 5 _ rfl, bA 6 _ rfl⟩
  have HW1 := hide hW1
  have HW0 := hide hW0
  have HBC := hide hbc
  have HBR := hide hbr
  have HBB := hide hB
  have BR := hide (show Box (World.drew W0) (bc + 1) _ from bR)
  have FR := hide (show Fz (World.drew W0) (bc + 1) from fR)
  clear hB1 hs1 hW1 hW0 bA bR fR hB hbc hbr ht
  go_enter Tryz.func32, Tryz.ntmps32
  go_wp2_with fail
  rw [HW1.out]
  rw [HW0.out]
  try rw [HBC.out]
  try rw [HBR.out]
  go_region_held3 (fun W => W.cell? ⟨bc, 0, none⟩ = some (.string nm) ∧ W.cell? ⟨bc, 1, none⟩ = some (.int .i64 x) ∧ W.cell? ⟨bc, 2, none⟩ = some (.int .i64 y) ∧ W.cell? ⟨bc, 3, none⟩ = some (.int .i64 h) ∧ W.cell? ⟨bc, 4, none⟩ = some (.int .i64 j) ∧ W.cell? ⟨bc, 5, none⟩ = some (.int .i64 b) ∧ W.cell? ⟨bc, 6, none⟩ = some (.slice Ai ni ci)) (first | (with_reducible exact HSS.out) | go_keep) (first | (go_at_call 45; (with_reducible refine (backEnd_is HCR.out h0 h1 HU.out E1.out E2.out HT.out).mono ?_); rintro e w4 ⟨rfl, hq4⟩; have hz4 : W0.heap.size ≤ w4.heap.size := hq4.size; have HSS : Hid (w4.cell? ⟨bc, 0, none⟩ = some (.string nm) ∧ w4.cell? ⟨bc, 1, none⟩ = some (.int .i64 x) ∧ w4.cell? ⟨bc, 2, none⟩ = some (.int .i64 y) ∧ w4.cell? ⟨bc, 3, none⟩ = some (.int .i64 h) ∧ w4.cell? ⟨bc, 4, none⟩ = some (.int .i64 j) ∧ w4.cell? ⟨bc, 5, none⟩ = some (.int .i64 b) ∧ w4.cell? ⟨bc, 6, none⟩ = some (.slice Ai ni ci)) := hide ⟨(hq4.cell (p := ⟨bc, 0, none⟩) (by show bc < W0.heap.size; omega)).trans HSS.out.1, (hq4.cell (p := ⟨bc, 1, none⟩) (by show bc < W0.heap.size; omega)).trans HSS.out.2.1, (hq4.cell (p := ⟨bc, 2, none⟩) (by show bc < W0.heap.size; omega)).trans HSS.out.2.2.1, (hq4.cell (p := ⟨bc, 3, none⟩) (by show bc < W0.heap.size; omega)).trans HSS.out.2.2.2.1, (hq4.cell (p := ⟨bc, 4, none⟩) (by show bc < W0.heap.size; omega)).trans HSS.out.2.2.2.2.1, (hq4.cell (p := ⟨bc, 5, none⟩) (by show bc < W0.heap.size; omega)).trans HSS.out.2.2.2.2.2.1, (hq4.cell (p := ⟨bc, 6, none⟩) (by show bc < W0.heap.size; omega)).trans HSS.out.2.2.2.2.2.2⟩; have HT4 := hide (HT.out.of hq4)) | (go_at_call 46; (with_reducible refine (jibEnd_is HCR.out h0 h1 HV.out E3.out E4.out HT4.out).mono ?_); rintro e w5 ⟨rfl, hq5⟩; have hz5 : w4.heap.size ≤ w5.heap.size := hq5.size; have HSS : Hid (w5.cell? ⟨bc, 0, none⟩ = some (.string nm) ∧ w5.cell? ⟨bc, 1, none⟩ = some (.int .i64 x) ∧ w5.cell? ⟨bc, 2, none⟩ = some (.int .i64 y) ∧ w5.cell? ⟨bc, 3, none⟩ = some (.int .i64 h) ∧ w5.cell? ⟨bc, 4, none⟩ = some (.int .i64 j) ∧ w5.cell? ⟨bc, 5, none⟩ = some (.int .i64 b) ∧ w5.cell? ⟨bc, 6, none⟩ = some (.slice Ai ni ci)) := hide ⟨(hq5.cell (p := ⟨bc, 0, none⟩) (by show bc < w4.heap.size; omega)).trans HSS.out.1, (hq5.cell (p := ⟨bc, 1, none⟩) (by show bc < w4.heap.size; omega)).trans HSS.out.2.1, (hq5.cell (p := ⟨bc, 2, none⟩) (by show bc < w4.heap.size; omega)).trans HSS.out.2.2.1, (hq5.cell (p := ⟨bc, 3, none⟩) (by show bc < w4.heap.size; omega)).trans HSS.out.2.2.2.1, (hq5.cell (p := ⟨bc, 4, none⟩) (by show bc < w4.heap.size; omega)).trans HSS.out.2.2.2.2.1, (hq5.cell (p := ⟨bc, 5, none⟩) (by show bc < w4.heap.size; omega)).trans HSS.out.2.2.2.2.2.1, (hq5.cell (p := ⟨bc, 6, none⟩) (by show bc < w4.heap.size; omega)).trans HSS.out.2.2.2.2.2.2⟩; have r0 := (BR.out.below hq4 hs).below hq5 (by omega) 0 _ rfl; have r1 := (BR.out.below hq4 hs).below hq5 (by omega) 1 _ rfl; have r2 := (BR.out.below hq4 hs).below hq5 (by omega) 2 _ rfl; have r3 := (BR.out.below hq4 hs).below hq5 (by omega) 3 _ rfl; have v0 := (FR.out.below hq4 hs).below hq5 (by omega) 0; have v1 := (FR.out.below hq4 hs).below hq5 (by omega) 1; have v2 := (FR.out.below hq4 hs).below hq5 (by omega) 2; have v3 := (FR.out.below hq4 hs).below hq5 (by omega) 3))
  have hB9 := HBB.out.trans ((((Joins.below_draws _ _ 1 : Below W0.heap.size W0 (World.drew W0)).trans hq4).trans (hq5.mono hz4)).mono (by omega))
  clear hq4 hq5 HSS
  go_wp2_with fail
  refine bodyPost_ret (v := .agg #[.int .i64 px, .int .i64 py, .int .i64 qx, .int .i64 qy]) (by simp [results, Tryz.results32, go_sem, r0, r1, r2, r3]) rfl ⟨rfl, ?_⟩
  repeat (with_reducible refine Below.setCell ?_ hle _)
  exact hB9


end Go.Proofs.YtajjophmngabbaaGreatDoor
