/-
  GEOMETRY of the reference, exactly: vectors, ends of jibs, conflicts of two cranes. No condition but those that each theorem names.
-/
import Derived.Test.YtajjophmngabbaaGreatDoorGe2
import Derived.Test.YtajjophmngabbaaGreatDoorTurn
import Derived.Deep.RegionHeld3
import Derived.StillTailTactics
namespace Go.Proofs.YtajjophmngabbaaGreatDoor
open Go.RowKit
set_option linter.unusedVariables false
set_option linter.unusedSimpArgs false

theorem below_dN {w w' : World} {B : Nat} (h : Below B w w') (n : Nat) : Below B w (w'.drewN n) := h.trans (Joins.below_draws _ _ _)
theorem below_fin {w X w9 : World} (h9 : Below X.heap.size X w9) (hx : Below w.heap.size w X) : Below w.heap.size w w9 := hx.trans (h9.mono hx.size)
/-- The numbers of a crane that lies at an address; h: its height there. -/
def NmC (W : World) (b o : Nat) (c : Crn) (h : Int) : Prop := b < W.heap.size ∧ W.cell? ⟨b, o + 1, none⟩ = some (.int .i64 c.x) ∧ W.cell? ⟨b, o + 2, none⟩ = some (.int .i64 c.y) ∧ W.cell? ⟨b, o + 3, none⟩ = some (.int .i64 h) ∧ W.cell? ⟨b, o + 4, none⟩ = some (.int .i64 c.j) ∧ W.cell? ⟨b, o + 5, none⟩ = some (.int .i64 c.b)
theorem NmC.below {W W' : World} {b o B : Nat} {c : Crn} {h : Int} (k : NmC W b o c h) (hb : Below B W W') (hB : b < B) : NmC W' b o c h := by
  obtain ⟨k0, k1, k2, k3, k4, k5⟩ := k
  exact ⟨Nat.lt_of_lt_of_le k0 hb.size, (hb.cell (p := ⟨b, o + 1, none⟩) hB).trans k1, (hb.cell (p := ⟨b, o + 2, none⟩) hB).trans k2, (hb.cell (p := ⟨b, o + 3, none⟩) hB).trans k3, (hb.cell (p := ⟨b, o + 4, none⟩) hB).trans k4, (hb.cell (p := ⟨b, o + 5, none⟩) hB).trans k5⟩
theorem NmC.tch {W W' : World} {b o lo hi : Nat} {c : Crn} {h : Int} (k : NmC W b o c h) (hb : Tch lo hi W W') (hB : b < lo ∨ hi ≤ b) : NmC W' b o c h := by
  obtain ⟨k0, k1, k2, k3, k4, k5⟩ := k
  exact ⟨Nat.lt_of_lt_of_le k0 hb.size, (hb.cell (p := ⟨b, o + 1, none⟩) k0 hB).trans k1, (hb.cell (p := ⟨b, o + 2, none⟩) k0 hB).trans k2, (hb.cell (p := ⟨b, o + 3, none⟩) k0 hB).trans k3, (hb.cell (p := ⟨b, o + 4, none⟩) k0 hB).trans k4, (hb.cell (p := ⟨b, o + 5, none⟩) k0 hB).trans k5⟩
theorem NmC.self {W : World} {b o : Nat} {c : Crn} {h : Int} (k : NmC W b o c h) {B : Nat} (hB : b < B) : NmC W b o c h := k

theorem vec_at (k : Nat) (hk : k < 6) : ∃ x y : Int, ([.int .i64 1000, .int .i64 0, .int .i64 966, .int .i64 259, .int .i64 866, .int .i64 500, .int .i64 707, .int .i64 707, .int .i64 500, .int .i64 866, .int .i64 259, .int .i64 966] : List Value)[k * 2]? = some (.int .i64 x) ∧ ([.int .i64 1000, .int .i64 0, .int .i64 966, .int .i64 259, .int .i64 866, .int .i64 500, .int .i64 707, .int .i64 707, .int .i64 500, .int .i64 866, .int .i64 259, .int .i64 966] : List Value)[k * 2 + 1]? = some (.int .i64 y) ∧ vqT.getD k (0, 0) = (x, y) := by
  rcases (show k = 0 ∨ k = 1 ∨ k = 2 ∨ k = 3 ∨ k = 4 ∨ k = 5 by omega) with rfl | rfl | rfl | rfl | rfl | rfl <;> exact ⟨_, _, rfl, rfl, rfl⟩

set_option maxRecDepth 100000 in
set_option maxHeartbeats 2000000 in
theorem l02Vector_is {d vx vy : Int} (h0 : 0 ≤ d) (h1 : d ≤ 23) (hv : vcI d = (vx, vy)) {w : World} :
    Calls Tryz.prog 101 #[.int .i64 d] w fun e w' => e = .returned (.agg #[.int .i64 vx, .int .i64 vy]) ∧ Below w.heap.size w w' := by
  obtain ⟨x, y, e0, e1, e2⟩ := vec_at (d % 6).toNat (by omega)
  have ok := vq_ok (d % 6).toNat
  rw [e2] at ok
  obtain ⟨k0, k1, k2, k3⟩ := ok
  simp only at k0 k1 k2 k3
  have HV := hide (show rotI d (x, y) = (vx, vy) by rw [← e2]; exact hv)
  clear e2 hv
  go_enter Tryz.func101, Tryz.ntmps101
  go_wp2_with fail
  clear e0 e1
  obtain ⟨W0, hW0⟩ : ∃ W0 : World, W0 = (((w.alloc (.cells #[.int .i64 0, .int .i64 0] 42)).alloc (.cells #[.int .i64 1000, .int .i64 0, .int .i64 966, .int .i64 259, .int .i64 866, .int .i64 500, .int .i64 707, .int .i64 707, .int .i64 500, .int .i64 866, .int .i64 259, .int .i64 966] 42)).alloc (.cells #[.int .i64 x, .int .i64 y] 42)) := ⟨_, rfl⟩
  rw [← hW0]
  have bC : Box W0 (w.heap.size + 1 + 1) [.int .i64 x, .int .i64 y] := by rw [hW0]; exact box_at _ _ _ _ (by simp)
  have fC : Fz W0 (w.heap.size + 1 + 1) := by rw [hW0]; exact fz_at _ _ _ _ (by simp)
  have bR : Box W0 w.heap.size [.int .i64 0, .int .i64 0] := by rw [hW0]; exact ((box_at _ _ _ _ (by simp)).alloc (by simp) _).alloc (by simp; try omega) _
  have fR : Fz W0 w.heap.size := by rw [hW0]; exact ((fz_at _ _ _ _ (by simp)).alloc (by simp) _).alloc (by simp; try omega) _
  have hB : Below w.heap.size w W0 := by rw [hW0]; exact (((Below.refl _ _).alloc (Nat.le_refl _) _).alloc (by simp) _).alloc (by simp; try omega) _
  have hs : w.heap.size + 1 + 1 + 1 ≤ W0.heap.size := by rw [hW0]; simp
  clear hW0
  go_loopw [0] (fun dd wr => ∃ d x y : Int, 0 ≤ d ∧ d ≤ 23 ∧ dd = .int .i64 d ∧ (-1000 ≤ x ∧ x ≤ 1000 ∧ -1000 ≤ y ∧ y ≤ 1000) ∧ Hid (rotI d (x, y) = (vx, vy)) ∧ Box wr (w.heap.size + 1 + 1) [.int .i64 x, .int .i64 y] ∧ Fz wr (w.heap.size + 1 + 1) ∧ Box wr w.heap.size [.int .i64 0, .int .i64 0] ∧ Fz wr w.heap.size ∧ Below w.heap.size w wr ∧ w.heap.size + 1 + 1 + 1 ≤ wr.heap.size) (fun dd _ => (intOf dd).toNat)
  case atStart => exact ⟨d, x, y, h0, h1, rfl, ⟨k0, k1, k2, k3⟩, HV, bC, fC, bR, fR, hB, hs⟩
  case round =>
    clear bC fC bR fR hB hs h0 h1 HV k0 k1 k2 k3
    obtain ⟨d, x, y, h0, h1, rfl, ⟨k0, k1, k2, k3⟩, HV, bC, fC, bR, fR, hbr, hsr⟩ := hrel
    have g0 := bC 0 _ rfl
    have g1 := bC 1 _ rfl
    have r0 := bR 0 _ rfl
    have r1 := bR 1 _ rfl
    have u0 := fC 0
    have u1 := fC 1
    have v0 := fR 0
    have v1 := fR 1
    by_cases h6 : 6 ≤ d
    · obtain ⟨P1, P2, _, P4, P5, P6, P7⟩ := best_put (x' := .int .i64 (-y)) (y' := .int .i64 x) (l := w.heap.size) (by omega) (by omega) (by omega) bC fC bR bR fR hbr (by omega)
      have e1 : w.heap.size + 1 + 1 + 1 ≤ ((wr.setCell ⟨w.heap.size + 1 + 1, 0, none⟩ (.int .i64 (-y))).setCell ⟨w.heap.size + 1 + 1, 1, none⟩ (.int .i64 x)).heap.size := by simpa [World.setCell] using hsr
      have HV2 := hide ((rotI_s h6 h1 x y).trans HV.out)
      clear bC fC bR fR hbr
      go_wp2_with fail
      go_roundw
      case rel => (with_reducible exact ⟨d - 6, _, _, by omega, by omega, by go_num, ⟨by omega, by omega, by omega, by omega⟩, HV2, P1, P2, P4, P5, P6, e1⟩)
      case measure => first | (simp [intOf]; done) | (simp [intOf]; omega)
    · have HN := hide ((rotI_0 (x, y) (show d < 6 by omega)).symm.trans HV.out)
      clear bC fC
      go_wp2_with fail
      refine bodyPost_ret (v := .agg #[.int .i64 x, .int .i64 y]) (by simp [results, Tryz.results101, go_sem, r0, r1]) rfl ⟨by have h := HN.out; injection h with h1 h2; rw [h1, h2], ?_⟩
      exact ((hbr.setCell (Nat.le_refl _) _).setCell (Nat.le_refl _) _)

theorem res_put {w1 : World} {g : Nat} {x y r0 r1 : Value} {o : Obj} (bR : Box w1 g [r0, r1]) (hg : g < w1.heap.size) : Box (((w1.setCell ⟨g, 0, none⟩ x).setCell ⟨g, 1, none⟩ y).alloc o) g [x, y] := by
  obtain ⟨W1, h1⟩ : ∃ W, W = w1.setCell ⟨g, 0, none⟩ x := ⟨_, rfl⟩
  obtain ⟨W2, h2⟩ : ∃ W, W = W1.setCell ⟨g, 1, none⟩ y := ⟨_, rfl⟩
  rw [← h1, ← h2]
  have c1 : Box W1 g [x, r1] := by rw [h1]; exact bR.put 0 x (by simp)
  have c2 : Box W2 g [x, y] := by rw [h2]; exact c1.put 1 y (by simp)
  have e : W2.heap.size = w1.heap.size := by rw [h2, h1]; simp [World.setCell]
  exact c2.alloc (by omega) _

set_option maxRecDepth 100000 in
set_option maxHeartbeats 2000000 in
theorem l02At_is {x y d r vx vy px py : Int} (hx0 : -10000 ≤ x) (hx1 : x ≤ 10000) (hy0 : -10000 ≤ y) (hy1 : y ≤ 10000) (h0 : 0 ≤ d) (h1 : d ≤ 23) (hr0 : 0 ≤ r) (hr1 : r ≤ 1000) (hv : vcI d = (vx, vy)) (hp : atI x vx r = px) (hq : atI y vy r = py) {w : World} :
    Calls Tryz.prog 92 #[.agg #[.int .i64 x, .int .i64 y], .int .i64 d, .int .i64 r] w fun e w' => e = .returned (.agg #[.int .i64 px, .int .i64 py]) ∧ Below w.heap.size w w' := by
  have ok := vcI_ok d
  rw [hv] at ok
  obtain ⟨k0, k1, k2, k3⟩ := ok
  simp only at k0 k1 k2 k3
  have m1 := mulr_fit ⟨k0, k1⟩ ⟨hr0, hr1⟩
  have m2 := mulr_fit ⟨k2, k3⟩ ⟨hr0, hr1⟩
  have n1 := tdiv_fit m1
  have n2 := tdiv_fit m2
  have HV := hide hv
  have HP := hide hp
  have HQ := hide hq
  clear hv hp hq
  go_enter Tryz.func92, Tryz.ntmps92
  go_wp2_with fail
  obtain ⟨W0, hW0⟩ : ∃ W0 : World, W0 = ((w.alloc (.cells #[.int .i64 x, .int .i64 y] 42)).alloc (.cells #[.int .i64 0, .int .i64 0] 42)) := ⟨_, rfl⟩
  rw [← hW0]
  have bA : Box W0 w.heap.size [.int .i64 x, .int .i64 y] := by rw [hW0]; exact (box_at _ _ _ _ (by simp)).alloc (by simp) _
  have bR : Box W0 (w.heap.size + 1) [.int .i64 0, .int .i64 0] := by rw [hW0]; exact box_at _ _ _ _ (by simp)
  have fR : Fz W0 (w.heap.size + 1) := by rw [hW0]; exact fz_at _ _ _ _ (by simp)
  have hB : Below w.heap.size w W0 := by rw [hW0]; exact ((Below.refl _ _).alloc (Nat.le_refl _) _).alloc (by simp) _
  have hs : w.heap.size + 2 ≤ W0.heap.size := by rw [hW0]; simp
  clear hW0
  refine (l02Vector_is h0 h1 HV.out).mono ?_
  rintro e w1 ⟨rfl, hb1⟩
  have hs1 := hb1.size
  have a0 := bA.below hb1 (by omega) 0 _ rfl
  have a1 := bA.below hb1 (by omega) 1 _ rfl
  have r0 := bR.below hb1 (by omega) 0 _ rfl
  have r1 := bR.below hb1 (by omega) 1 _ rfl
  have v0 := fR.below hb1 (by omega) 0
  have v1 := fR.below hb1 (by omega) 1
  have n0' : w.heap.size < w1.heap.size := by omega
  have n1' : w.heap.size + 1 < w1.heap.size := by omega
  have HB := hide (hB.trans (hb1.mono (by omega)))
  have bE := res_put (x := .int .i64 (x + (vx * r).tdiv 1000)) (y := .int .i64 (y + (vy * r).tdiv 1000)) (o := .cells #[.int .i64 vx, .int .i64 vy] 42) (bR.below hb1 (by omega)) (by omega)
  have e0 := bE 0 _ rfl
  have e1 := bE 1 _ rfl
  have E0 := hide e0
  have E1 := hide e1
  clear bA bR fR hB hb1 bE e0 e1
  go_wp2_with fail
  have e0 := E0.out
  have e1 := E1.out
  refine bodyPost_ret (v := .agg #[.int .i64 (x + (vx * r).tdiv 1000), .int .i64 (y + (vy * r).tdiv 1000)]) (by simp [results, Tryz.results92, go_sem, e0, e1]) rfl ⟨by rw [← HP.out, ← HQ.out]; rfl, ?_⟩
  exact ((HB.out.setCell (by first | omega | (simp; done) | (simp; omega)) _).setCell (by first | omega | (simp; done) | (simp; omega)) _).alloc (by simp [World.setCell]; omega) _

set_option maxRecDepth 100000 in
set_option maxHeartbeats 2000000 in
theorem l04Jib_is {g o : Nat} {c : Crn} {hh d vx vy px py : Int} (hc : crB c = true) (h0 : 0 ≤ d) (h1 : d ≤ 23) (hv : vcI d = (vx, vy)) (hp : atI c.x vx c.j = px) (hq : atI c.y vy c.j = py) {w : World} (hn : NmC w g o c hh) :
    Calls Tryz.prog 74 #[.pointer (some ⟨g, o, none⟩), .int .i64 d] w fun e w' => e = .returned (.agg #[.int .i64 px, .int .i64 py]) ∧ Below w.heap.size w w' := by
  obtain ⟨⟨z0, z1⟩, ⟨z2, z3⟩, -, ⟨z4, z5⟩, ⟨z6, z7⟩⟩ := cr_nums hc
  obtain ⟨hg, q1, q2, q3, q4, q5⟩ := hn
  obtain ⟨nm, x, y, hx, j, b, ch⟩ := c
  simp only at z0 z1 z2 z3 z4 z5 z6 z7 q1 q2 q3 q4 q5 hp hq
  obtain ⟨W0, hW0⟩ : ∃ W0 : World, W0 = w.alloc (.cells #[.int .i64 0, .int .i64 0] 42) := ⟨_, rfl⟩
  have hB : Below w.heap.size w W0 := by rw [hW0]; exact (Below.refl _ _).alloc (Nat.le_refl _) _
  have c1 := (hB.cell (p := ⟨g, o + 1, none⟩) hg).trans q1
  have c2 := (hB.cell (p := ⟨g, o + 2, none⟩) hg).trans q2
  have c4 := (hB.cell (p := ⟨g, o + 4, none⟩) hg).trans q4
  have bR : Box W0 w.heap.size [.int .i64 0, .int .i64 0] := by rw [hW0]; exact box_at _ _ _ _ rfl
  have fR : Fz W0 w.heap.size := by rw [hW0]; exact fz_at _ _ _ _ rfl
  have hs : W0.heap.size = w.heap.size + 1 := by rw [hW0]; simp
  have HW := hide hW0
  have g1 : g < W0.heap.size := by omega
  have HV := hide hv
  have HP := hide hp
  have HQ := hide hq
  clear hW0 q1 q2 q3 q4 q5 hv hp hq hc
  go_enter Tryz.func74, Tryz.ntmps74
  go_wp2_with fail
  rw [← HW.out]
  go_still_tail 9, (by kernel_rfl)
  change wpList _ _ _ _ _ W0.drew
  have hB0 : Below W0.heap.size W0 W0.drew := Joins.below_draws _ _ 1
  have hs2 : W0.drew.heap.size = W0.heap.size := rfl
  generalize W0.drew = w2 at *
  go_wp2_with fail
  refine (l02At_is z0 z1 z2 z3 h0 h1 (by omega) (by omega) HV.out HP.out HQ.out).mono ?_
  rintro e w1 ⟨rfl, hb1⟩
  have hb := hB0.trans (hb1.mono (by omega))
  have hs1 := hb.size
  have r0 := bR.below hb (by omega) 0 _ rfl
  have r1 := bR.below hb (by omega) 1 _ rfl
  have v0 := fR.below hb (by omega) 0
  have v1 := fR.below hb (by omega) 1
  have HB := hide (hB.trans (hb.mono (by omega)))
  clear c1 c2 c4
  go_wp2_with fail
  refine bodyPost_ret (v := .agg #[.int .i64 px, .int .i64 py]) (by simp [results, Tryz.results74, go_sem, r0, r1]) rfl ⟨rfl, ?_⟩
  exact ((HB.out.setCell (Nat.le_refl _) _).setCell (Nat.le_refl _) _)

set_option maxRecDepth 100000 in
set_option maxHeartbeats 2000000 in
theorem l04Back_is {g o : Nat} {c : Crn} {hh d vx vy px py : Int} (hc : crB c = true) (h0 : 0 ≤ d) (h1 : d ≤ 23) (hv : vcI ((d + 12) % 24) = (vx, vy)) (hp : atI c.x vx c.b = px) (hq : atI c.y vy c.b = py) {w : World} (hn : NmC w g o c hh) :
    Calls Tryz.prog 73 #[.pointer (some ⟨g, o, none⟩), .int .i64 d] w fun e w' => e = .returned (.agg #[.int .i64 px, .int .i64 py]) ∧ Below w.heap.size w w' := by
  obtain ⟨⟨z0, z1⟩, ⟨z2, z3⟩, -, ⟨z4, z5⟩, ⟨z6, z7⟩⟩ := cr_nums hc
  obtain ⟨hg, q1, q2, q3, q4, q5⟩ := hn
  obtain ⟨nm, x, y, hx, j, b, ch⟩ := c
  simp only at z0 z1 z2 z3 z4 z5 z6 z7 q1 q2 q3 q4 q5 hp hq
  obtain ⟨W0, hW0⟩ : ∃ W0 : World, W0 = w.alloc (.cells #[.int .i64 0, .int .i64 0] 42) := ⟨_, rfl⟩
  have hB : Below w.heap.size w W0 := by rw [hW0]; exact (Below.refl _ _).alloc (Nat.le_refl _) _
  have c1 := (hB.cell (p := ⟨g, o + 1, none⟩) hg).trans q1
  have c2 := (hB.cell (p := ⟨g, o + 2, none⟩) hg).trans q2
  have c5 := (hB.cell (p := ⟨g, o + 5, none⟩) hg).trans q5
  have bR : Box W0 w.heap.size [.int .i64 0, .int .i64 0] := by rw [hW0]; exact box_at _ _ _ _ rfl
  have fR : Fz W0 w.heap.size := by rw [hW0]; exact fz_at _ _ _ _ rfl
  have hs : W0.heap.size = w.heap.size + 1 := by rw [hW0]; simp
  have HW := hide hW0
  have g1 : g < W0.heap.size := by omega
  have HV := hide hv
  have HP := hide hp
  have HQ := hide hq
  clear hW0 q1 q2 q3 q4 q5 hv hp hq hc
  go_enter Tryz.func73, Tryz.ntmps73
  go_wp2_with fail
  rw [← HW.out]
  go_still_tail 11, (by kernel_rfl)
  have hw12 : IntKind.i64.wrap (d + 12) = d + 12 := by rw [IntWalk.i64_left]; exact IntWalk.wrap64_in _ ⟨by omega, by omega⟩
  still_call (l02Mod_any (d + 12) (by omega) (by omega) _)
  repeat still_step
  refine wpStill_nil ?_
  change wpList _ _ _ _ _ W0.drew
  have hB0 : Below W0.heap.size W0 W0.drew := Joins.below_draws _ _ 1
  have hs2 : W0.drew.heap.size = W0.heap.size := rfl
  generalize W0.drew = w2 at *
  go_wp2_with fail
  refine (l02At_is z0 z1 z2 z3 (by omega) (by omega) (by omega) (by omega) HV.out HP.out HQ.out).mono ?_
  rintro e w1 ⟨rfl, hb1⟩
  have hb := hB0.trans (hb1.mono (by omega))
  have hs1 := hb.size
  have r0 := bR.below hb (by omega) 0 _ rfl
  have r1 := bR.below hb (by omega) 1 _ rfl
  have v0 := fR.below hb (by omega) 0
  have v1 := fR.below hb (by omega) 1
  have HB := hide (hB.trans (hb.mono (by omega)))
  clear c1 c2 c5
  go_wp2_with fail
  refine bodyPost_ret (v := .agg #[.int .i64 px, .int .i64 py]) (by simp [results, Tryz.results73, go_sem, r0, r1]) rfl ⟨rfl, ?_⟩
  exact ((HB.out.setCell (Nat.le_refl _) _).setCell (Nat.le_refl _) _)

set_option maxRecDepth 100000 in
set_option maxHeartbeats 2000000 in
theorem l15Boom_is {g o : Nat} {c : Crn} {hh d px py qx qy : Int} (hc : crB c = true) (h0 : 0 ≤ d) (h1 : d ≤ 23) (hm : bmI c d = (px, py, qx, qy)) {w : World} (hn : NmC w g o c hh) :
    Calls Tryz.prog 53 #[.pointer (some ⟨g, o, none⟩), .int .i64 d] w fun e w' => e = .returned (.agg #[.int .i64 px, .int .i64 py, .int .i64 qx, .int .i64 qy]) ∧ Below w.heap.size w w' := by
  obtain ⟨⟨vx, vy⟩, hv⟩ : ∃ p, vcI d = p := ⟨_, rfl⟩
  obtain ⟨⟨ux, uy⟩, hu⟩ : ∃ p, vcI ((d + 12) % 24) = p := ⟨_, rfl⟩
  unfold bmI at hm
  rw [hv, hu] at hm
  injection hm with e1 hm
  injection hm with e2 hm
  injection hm with e3 e4
  have HV := hide hv
  have HU := hide hu
  have E1 := hide e1
  have E2 := hide e2
  have E3 := hide e3
  have E4 := hide e4
  have HCR := hide hc
  clear hv hu e1 e2 e3 e4 hc
  obtain ⟨W0, hW0⟩ : ∃ W0 : World, W0 = w.alloc (.cells #[.int .i64 0, .int .i64 0, .int .i64 0, .int .i64 0] 70) := ⟨_, rfl⟩
  have bR : Box W0 w.heap.size [.int .i64 0, .int .i64 0, .int .i64 0, .int .i64 0] := by rw [hW0]; exact box_at _ _ _ _ rfl
  have fR : Fz W0 w.heap.size := by rw [hW0]; exact fz_at _ _ _ _ rfl
  have hB : Below w.heap.size w W0 := by rw [hW0]; exact (Below.refl _ _).alloc (Nat.le_refl _) _
  have hs : W0.heap.size = w.heap.size + 1 := by rw [hW0]; simp
  have hg := hn.1
  have HC := hide (hn.below hB hg)
  have HW := hide hW0
  clear hW0 hn
  go_enter Tryz.func53, Tryz.ntmps53
  go_wp2_with fail
  rw [← HW.out]
  refine (l04Back_is HCR.out h0 h1 HU.out E1.out E2.out HC.out).mono ?_
  rintro e w1 ⟨rfl, hb1⟩
  have hs1 := hb1.size
  go_wp2_with fail
  refine (l04Jib_is HCR.out h0 h1 HV.out E3.out E4.out (HC.out.below hb1 (by omega))).mono ?_
  rintro e w2 ⟨rfl, hb2⟩
  have hb := hb1.trans (hb2.mono (by omega))
  have hs2 := hb2.size
  have bE := bR.below hb (by omega)
  have fE := fR.below hb (by omega)
  have r0 := bE 0 _ rfl
  have r1 := bE 1 _ rfl
  have r2 := bE 2 _ rfl
  have r3 := bE 3 _ rfl
  have v0 := fE 0
  have v1 := fE 1
  have v2 := fE 2
  have v3 := fE 3
  have HB := hide (hB.trans (hb.mono (by omega)))
  go_wp2_with fail
  refine bodyPost_ret (v := .agg #[.int .i64 px, .int .i64 py, .int .i64 qx, .int .i64 qy]) (by simp [results, Tryz.results53, go_sem, r0, r1, r2, r3]) rfl ⟨rfl, ?_⟩
  exact ((((HB.out.setCell (Nat.le_refl _) _).setCell (Nat.le_refl _) _).setCell (Nat.le_refl _) _).setCell (Nat.le_refl _) _)

set_option maxRecDepth 100000 in
set_option maxHeartbeats 2000000 in
theorem l15Mast_is {gl ol gh oh : Nat} {cl c : Crn} {hl hh d D : Int} {r : Bool} (kl : crB cl = true) (kh : crB c = true) (h0 : 0 ≤ d) (h1 : d ≤ 23) (hD0 : 0 ≤ D) (hD1 : D ≤ 1000) (hr : bmN cl c D d = r) {w : World} (hnl : NmC w gl ol cl hl) (hnh : NmC w gh oh c hh) :
    Calls Tryz.prog 54 #[.pointer (some ⟨gl, ol, none⟩), .int .i64 d, .pointer (some ⟨gh, oh, none⟩), .int .i64 D] w fun e w' => e = .returned (.bool r) ∧ Below w.heap.size w w' := by
  obtain ⟨⟨px, py, qx, qy⟩, hm⟩ : ∃ p, bmI cl d = p := ⟨_, rfl⟩
  have co := bmI_co kl d
  rw [hm] at co
  have HCO := hide (show CoS px py qx qy from co)
  obtain ⟨⟨z0, z1⟩, ⟨z2, z3⟩, -, -, -⟩ := cr_nums kh
  obtain ⟨hg, q1, q2, -, -, -⟩ := hnh
  obtain ⟨nm, x, y, hx, j, b, ch⟩ := c
  simp only at z0 z1 z2 z3 q1 q2 hr
  have HCP := hide (show CoS x y x y from ⟨⟨by omega, by omega⟩, ⟨by omega, by omega⟩, ⟨by omega, by omega⟩, ⟨by omega, by omega⟩⟩)
  have HR := hide (show nrB px py qx qy x y x y D = r by rw [← hr]; unfold bmN nrQ; rw [hm])
  have HM := hide hm
  have HKL := hide kl
  clear hm co hr kl kh
  have HC := hide (show NmC (World.drew w) gl ol cl hl from hnl)
  have HSS : Hid ((World.drew w).cell? ⟨gh, oh + 1, none⟩ = some (.int .i64 x) ∧ (World.drew w).cell? ⟨gh, oh + 2, none⟩ = some (.int .i64 y)) := hide ⟨q1, q2⟩
  clear q1 q2 hnl
  go_enter Tryz.func54, Tryz.ntmps54
  go_wp2_with fail
  go_region_held3 (fun W => W.cell? ⟨gh, oh + 1, none⟩ = some (.int .i64 x) ∧ W.cell? ⟨gh, oh + 2, none⟩ = some (.int .i64 y)) (with_reducible exact HSS.out) (first | (go_at_call 53; (with_reducible refine (l15Boom_is HKL.out h0 h1 HM.out HC.out).mono ?_); rintro e w4 ⟨rfl, hq4⟩; have hz4 : w.heap.size ≤ w4.heap.size := hq4.size; have HSS : Hid (w4.cell? ⟨gh, oh + 1, none⟩ = some (.int .i64 x) ∧ w4.cell? ⟨gh, oh + 2, none⟩ = some (.int .i64 y)) := hide ⟨(hq4.cell (p := ⟨gh, oh + 1, none⟩) (by show gh < w.heap.size; omega)).trans HSS.out.1, (hq4.cell (p := ⟨gh, oh + 2, none⟩) (by show gh < w.heap.size; omega)).trans HSS.out.2⟩) | (go_at_call 52; (with_reducible refine (l14Near_is HCO.out HCP.out hD0 hD1 HR.out).mono ?_); rintro e w5 ⟨rfl, hq5⟩; have hz5 : w4.heap.size ≤ w5.heap.size := hq5.size; have HSS : Hid (w5.cell? ⟨gh, oh + 1, none⟩ = some (.int .i64 x) ∧ w5.cell? ⟨gh, oh + 2, none⟩ = some (.int .i64 y)) := hide ⟨(hq5.cell (p := ⟨gh, oh + 1, none⟩) (by show gh < w4.heap.size; omega)).trans HSS.out.1, (hq5.cell (p := ⟨gh, oh + 2, none⟩) (by show gh < w4.heap.size; omega)).trans HSS.out.2⟩))
  go_wp2_with fail
  go_ret
  exact ⟨rfl, ((Joins.below_draws _ _ 1 : Below w.heap.size w (World.drew w)).trans hq4).trans (hq5.mono hz4)⟩

theorem l10Size_is {n s : Int} (h1 : -1000000000000000000 ≤ n) (h2 : n ≤ 1000000000000000000) (h : siz n = s) {w : World} : Calls Tryz.prog 51 #[.int .i64 n] w fun e w' => e = .returned (.int .i64 s) ∧ w' = w := by subst h; exact l10Size_any n h1 h2 w


end Go.Proofs.YtajjophmngabbaaGreatDoor
