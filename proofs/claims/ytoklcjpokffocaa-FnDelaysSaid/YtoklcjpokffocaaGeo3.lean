/-
  GEOMETRY, third part: vectors, ends of jibs, conflicts of two cranes. What is computed is left open. No condition but those that each theorem names.
-/
import Derived.Test.YtoklcjpokffocaaGeo2
namespace Go.Proofs.Ytoklcjpokffocaa
open Go.RowKit
set_option linter.unusedVariables false
set_option linter.unusedSimpArgs false

set_option maxRecDepth 100000 in
set_option maxHeartbeats 2000000 in
theorem l14Near_g (ax ay bx cy px py qx qy d : Int) (w : World) :
    Calls Try.prog 73 #[.agg #[.int .i64 ax, .int .i64 ay, .int .i64 bx, .int .i64 cy], .agg #[.int .i64 px, .int .i64 py, .int .i64 qx, .int .i64 qy], .int .i64 d] w (AnB w) := by
  go_enter Try.func73, Try.ntmps73
  go_wp2_with fail
  obtain ⟨W0, hW0⟩ : ∃ W0 : World, W0 = ((w.alloc (.cells #[.int .i64 ax, .int .i64 ay, .int .i64 bx, .int .i64 cy] 94)).alloc (.cells #[.int .i64 px, .int .i64 py, .int .i64 qx, .int .i64 qy] 94)) := ⟨_, rfl⟩
  rw [← hW0]
  have bA : Box W0 w.heap.size [.int .i64 ax, .int .i64 ay, .int .i64 bx, .int .i64 cy] := by rw [hW0]; exact (box_at _ _ _ _ (by simp)).alloc (by simp) _
  have bB : Box W0 (w.heap.size + 1) [.int .i64 px, .int .i64 py, .int .i64 qx, .int .i64 qy] := by rw [hW0]; exact box_at _ _ _ _ (by simp)
  have HB0 := hide (show Below w.heap.size w W0 by rw [hW0]; exact ((Below.refl _ _).alloc (Nat.le_refl _) _).alloc (by simp) _)
  have hs0 : w.heap.size + 2 ≤ W0.heap.size := by rw [hW0]; simp
  clear hW0
  have bac0 := bA 0 _ rfl
  have bac1 := bA 1 _ rfl
  have bac2 := bA 2 _ rfl
  have bac3 := bA 3 _ rfl
  have bbc0 := bB 0 _ rfl
  have bbc1 := bB 1 _ rfl
  have bbc2 := bB 2 _ rfl
  have bbc3 := bB 3 _ rfl
  go_wp2_with fail
  refine (l14Square_g _ _ _ _ _ _ _ _ _).mono ?_
  rintro e w1 ⟨n1, d1, rfl, hd1, hb1⟩
  clear bac0 bac1 bac2 bac3 bbc0 bbc1 bbc2 bbc3
  have hs1 := hb1.size
  replace bA := bA.below hb1 (by omega)
  replace bB := bB.below hb1 (by omega)
  have bac0 := bA 0 _ rfl
  have bac1 := bA 1 _ rfl
  have bac2 := bA 2 _ rfl
  have bac3 := bA 3 _ rfl
  have bbc0 := bB 0 _ rfl
  have bbc1 := bB 1 _ rfl
  have bbc2 := bB 2 _ rfl
  have bbc3 := bB 3 _ rfl
  have HB1 := hide (HB0.out.trans (hb1.mono (by omega)))
  clear hb1 HB0
  go_wp2_with fail
  refine (l14Less_g _ _ _ _ hd1.1 hd1.2 (by omega) (I64.lit (by omega)) _).mono ?_
  rintro e w2 ⟨y2, rfl, hb2⟩
  clear bac0 bac1 bac2 bac3 bbc0 bbc1 bbc2 bbc3
  have hs2 := hb2.size
  replace bA := bA.below hb2 (by omega)
  replace bB := bB.below hb2 (by omega)
  have bac0 := bA 0 _ rfl
  have bac1 := bA 1 _ rfl
  have bac2 := bA 2 _ rfl
  have bac3 := bA 3 _ rfl
  have bbc0 := bB 0 _ rfl
  have bbc1 := bB 1 _ rfl
  have bbc2 := bB 2 _ rfl
  have bbc3 := bB 3 _ rfl
  have HB2 := hide (HB1.out.trans (hb2.mono (by omega)))
  clear hb2 HB1
  go_wp2_with fail
  go_ret
  exact ⟨_, rfl, HB2.out⟩

set_option maxRecDepth 100000 in
set_option maxHeartbeats 2000000 in
theorem l10Size_g (n : Int) (w : World) :
    Calls Try.prog 72 #[.int .i64 n] w fun e w' => (∃ x : Int, e = .returned (.int .i64 x)) ∧ w' = w := by
  go_enter Try.func72, Try.ntmps72
  go_wp2_with fail
  refine (l00Max_g _ _ _).mono ?_
  rintro e w1 ⟨rfl, hw⟩
  obtain rfl := hw.symm
  go_wp2_with fail
  all_goals (go_ret; exact ⟨⟨_, rfl⟩, rfl⟩)

theorem vec_at (k : Nat) (hk : k < 6) : ∃ x y : Int, ([.int .i64 1000, .int .i64 0, .int .i64 966, .int .i64 259, .int .i64 866, .int .i64 500, .int .i64 707, .int .i64 707, .int .i64 500, .int .i64 866, .int .i64 259, .int .i64 966] : List Value)[k * 2]? = some (.int .i64 x) ∧ ([.int .i64 1000, .int .i64 0, .int .i64 966, .int .i64 259, .int .i64 866, .int .i64 500, .int .i64 707, .int .i64 707, .int .i64 500, .int .i64 866, .int .i64 259, .int .i64 966] : List Value)[k * 2 + 1]? = some (.int .i64 y) := by
  rcases (show k = 0 ∨ k = 1 ∨ k = 2 ∨ k = 3 ∨ k = 4 ∨ k = 5 by omega) with rfl | rfl | rfl | rfl | rfl | rfl <;> exact ⟨_, _, rfl, rfl⟩

set_option maxRecDepth 100000 in
set_option maxHeartbeats 2000000 in
theorem l02Vector_g (d : Int) (h0 : 0 ≤ d) (h1 : d ≤ 23) (w : World) :
    Calls Try.prog 71 #[.int .i64 d] w (AnP w) := by
  obtain ⟨x, y, e0, e1⟩ := vec_at (d % 6).toNat (by omega)
  go_enter Try.func71, Try.ntmps71
  go_wp2_with fail
  clear e0 e1
  obtain ⟨W0, hW0⟩ : ∃ W0 : World, W0 = (((w.alloc (.cells #[.int .i64 0, .int .i64 0] 73)).alloc (.cells #[.int .i64 1000, .int .i64 0, .int .i64 966, .int .i64 259, .int .i64 866, .int .i64 500, .int .i64 707, .int .i64 707, .int .i64 500, .int .i64 866, .int .i64 259, .int .i64 966] 73)).alloc (.cells #[.int .i64 x, .int .i64 y] 73)) := ⟨_, rfl⟩
  rw [← hW0]
  have bC : Box W0 (w.heap.size + 1 + 1) [.int .i64 x, .int .i64 y] := by rw [hW0]; exact box_at _ _ _ _ (by simp)
  have fC : Fz W0 (w.heap.size + 1 + 1) := by rw [hW0]; exact fz_at _ _ _ _ (by simp)
  have bR : Box W0 w.heap.size [.int .i64 0, .int .i64 0] := by rw [hW0]; exact ((box_at _ _ _ _ (by simp)).alloc (by simp) _).alloc (by simp; try omega) _
  have fR : Fz W0 w.heap.size := by rw [hW0]; exact ((fz_at _ _ _ _ (by simp)).alloc (by simp) _).alloc (by simp; try omega) _
  have hB : Below w.heap.size w W0 := by rw [hW0]; exact (((Below.refl _ _).alloc (Nat.le_refl _) _).alloc (by simp) _).alloc (by simp; try omega) _
  have hs : w.heap.size + 1 + 1 + 1 ≤ W0.heap.size := by rw [hW0]; simp
  clear hW0
  go_loopw [0] (fun dd wr => ∃ d x y : Int, 0 ≤ d ∧ d ≤ 23 ∧ dd = .int .i64 d ∧ Box wr (w.heap.size + 1 + 1) [.int .i64 x, .int .i64 y] ∧ Fz wr (w.heap.size + 1 + 1) ∧ Box wr w.heap.size [.int .i64 0, .int .i64 0] ∧ Fz wr w.heap.size ∧ Below w.heap.size w wr ∧ w.heap.size + 1 + 1 + 1 ≤ wr.heap.size) (fun dd _ => (intOf dd).toNat)
  case atStart => exact ⟨d, x, y, h0, h1, rfl, bC, fC, bR, fR, hB, hs⟩
  case round =>
    clear bC fC bR fR hB hs h0 h1
    obtain ⟨d, x, y, h0, h1, rfl, bC, fC, bR, fR, hbr, hsr⟩ := hrel
    have g0 := bC 0 _ rfl
    have g1 := bC 1 _ rfl
    have r0 := bR 0 _ rfl
    have r1 := bR 1 _ rfl
    have u0 := fC 0
    have u1 := fC 1
    have v0 := fR 0
    have v1 := fR 1
    by_cases h6 : 6 ≤ d
    · obtain ⟨P1, P2, _, P4, P5, P6, P7⟩ := best_put (x' := .int .i64 (wrap64 (-y))) (y' := .int .i64 x) (l := w.heap.size) (by omega) (by omega) (by omega) bC fC bR bR fR hbr (by omega)
      have e1 : w.heap.size + 1 + 1 + 1 ≤ ((wr.setCell ⟨w.heap.size + 1 + 1, 0, none⟩ (.int .i64 (wrap64 (-y)))).setCell ⟨w.heap.size + 1 + 1, 1, none⟩ (.int .i64 x)).heap.size := by simpa [World.setCell] using hsr
      clear bC fC bR fR hbr
      go_wp2_with fail
      go_roundw
      case rel => (with_reducible exact ⟨d - 6, _, _, by omega, by omega, by go_num, P1, P2, P4, P5, P6, e1⟩)
      case measure => first | (simp [intOf]; done) | (simp [intOf]; omega)
    · clear bC fC
      go_wp2_with fail
      refine bodyPost_ret (v := .agg #[.int .i64 x, .int .i64 y]) (by simp [results, Try.results71, go_sem, r0, r1]) rfl ⟨_, _, rfl, ?_⟩
      exact ((hbr.setCell (Nat.le_refl _) _).setCell (Nat.le_refl _) _)

theorem res_put {w1 : World} {g : Nat} {x y r0 r1 : Value} {o : Obj} (bR : Box w1 g [r0, r1]) (hg : g < w1.heap.size) : Box (((w1.setCell ⟨g, 0, none⟩ x).setCell ⟨g, 1, none⟩ y).alloc o) g [x, y] := by
  obtain ⟨W1, h1⟩ : ∃ W, W = w1.setCell ⟨g, 0, none⟩ x := ⟨_, rfl⟩
  obtain ⟨W2, h2⟩ : ∃ W, W = W1.setCell ⟨g, 1, none⟩ y := ⟨_, rfl⟩
  rw [← h1, ← h2]
  have c1 : Box W1 g [x, r1] := by rw [h1]; exact bR.put 0 x (by simp)
  have c2 : Box W2 g [x, y] := by rw [h2]; exact c1.put 1 y (by simp)
  have e : W2.heap.size = w1.heap.size := by rw [h2, h1]; simp [World.setCell]
  exact c2.alloc (by omega) _

set_option maxRecDepth 100000 in
set_option maxHeartbeats 2000000 in
theorem l02At_g (x y d r : Int) (h0 : 0 ≤ d) (h1 : d ≤ 23) (w : World) :
    Calls Try.prog 67 #[.agg #[.int .i64 x, .int .i64 y], .int .i64 d, .int .i64 r] w (AnP w) := by
  go_enter Try.func67, Try.ntmps67
  go_wp2_with fail
  obtain ⟨W0, hW0⟩ : ∃ W0 : World, W0 = ((w.alloc (.cells #[.int .i64 x, .int .i64 y] 73)).alloc (.cells #[.int .i64 0, .int .i64 0] 73)) := ⟨_, rfl⟩
  rw [← hW0]
  have bA : Box W0 w.heap.size [.int .i64 x, .int .i64 y] := by rw [hW0]; exact (box_at _ _ _ _ (by simp)).alloc (by simp) _
  have bR : Box W0 (w.heap.size + 1) [.int .i64 0, .int .i64 0] := by rw [hW0]; exact box_at _ _ _ _ (by simp)
  have fR : Fz W0 (w.heap.size + 1) := by rw [hW0]; exact fz_at _ _ _ _ (by simp)
  have hB : Below w.heap.size w W0 := by rw [hW0]; exact ((Below.refl _ _).alloc (Nat.le_refl _) _).alloc (by simp) _
  have hs : w.heap.size + 2 ≤ W0.heap.size := by rw [hW0]; simp
  clear hW0
  refine (l02Vector_g d h0 h1 _).mono ?_
  rintro e w1 ⟨vx, vy, rfl, hb1⟩
  have hs1 := hb1.size
  have a0 := bA.below hb1 (by omega) 0 _ rfl
  have a1 := bA.below hb1 (by omega) 1 _ rfl
  have r0 := bR.below hb1 (by omega) 0 _ rfl
  have r1 := bR.below hb1 (by omega) 1 _ rfl
  have v0 := fR.below hb1 (by omega) 0
  have v1 := fR.below hb1 (by omega) 1
  have n0 : w.heap.size < w1.heap.size := by omega
  have n1 : w.heap.size + 1 < w1.heap.size := by omega
  have HB := hide (hB.trans (hb1.mono (by omega)))
  have bE := res_put (x := .int .i64 (wrap64 (x + wrap64 ((wrap64 (vx * r)).tdiv 1000)))) (y := .int .i64 (wrap64 (y + wrap64 ((wrap64 (vy * r)).tdiv 1000)))) (o := .cells #[.int .i64 vx, .int .i64 vy] 73) (bR.below hb1 (by omega)) (by omega)
  have e0 := bE 0 _ rfl
  have e1 := bE 1 _ rfl
  have E0 := hide e0
  have E1 := hide e1
  clear bA bR fR hB hb1 bE e0 e1
  go_wp2_with fail
  have e0 := E0.out
  have e1 := E1.out
  refine bodyPost_ret (v := .agg #[.int .i64 (wrap64 (x + wrap64 ((wrap64 (vx * r)).tdiv 1000))), .int .i64 (wrap64 (y + wrap64 ((wrap64 (vy * r)).tdiv 1000)))]) (by simp [results, Try.results67, go_sem, e0, e1]) rfl ⟨_, _, rfl, ?_⟩
  exact ((HB.out.setCell (by first | omega | (simp; done) | (simp; omega)) _).setCell (by first | omega | (simp; done) | (simp; omega)) _).alloc (by simp [World.setCell]; omega) _


end Go.Proofs.Ytoklcjpokffocaa
