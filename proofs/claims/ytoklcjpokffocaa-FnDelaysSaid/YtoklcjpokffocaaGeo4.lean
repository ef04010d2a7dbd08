/-
  GEOMETRY, fourth part: booms and conflicts of two cranes. What is computed is left open. No condition but those that each theorem names.
-/
import Derived.Test.YtoklcjpokffocaaGeo3
import Derived.StillTailTactics
namespace Go.Proofs.Ytoklcjpokffocaa
open Go.RowKit
set_option linter.unusedVariables false
set_option linter.unusedSimpArgs false

theorem below_dN {w w' : World} {B : Nat} (h : Below B w w') (n : Nat) : Below B w (w'.drewN n) := h.trans (Joins.below_draws _ _ _)
theorem below_fin {w X w9 : World} (h9 : Below X.heap.size X w9) (hx : Below w.heap.size w X) : Below w.heap.size w w9 := hx.trans (h9.mono hx.size)
/-- Block g holds a crane. -/
def CrB (W : World) (g : Nat) : Prop := g < W.heap.size ∧ ∃ (nm ch : Value) (x y h j b : Int), Box W g [nm, .int .i64 x, .int .i64 y, .int .i64 h, .int .i64 j, .int .i64 b, ch]
theorem CrB.below {W W' : World} {g B : Nat} (h : CrB W g) (hb : Below B W W') (hB : g < B) : CrB W' g := by
  obtain ⟨hg, nm, ch, x, y, hh, j, b, k⟩ := h
  exact ⟨Nat.lt_of_lt_of_le hg hb.size, nm, ch, x, y, hh, j, b, k.below hb hB⟩
theorem CrB.tch {W W' : World} {g lo hi : Nat} (h : CrB W g) (hb : Tch lo hi W W') (hB : g < lo ∨ hi ≤ g) : CrB W' g := by
  obtain ⟨hg, nm, ch, x, y, hh, j, b, k⟩ := h
  exact ⟨Nat.lt_of_lt_of_le hg hb.size, nm, ch, x, y, hh, j, b, k.tch hb hg hB⟩

set_option maxRecDepth 100000 in
set_option maxHeartbeats 2000000 in
theorem l04Jib_g (g : Nat) (d : Int) (h0 : 0 ≤ d) (h1 : d ≤ 23) (w : World) (hc : CrB w g) :
    Calls Try.prog 80 #[.pointer (some ⟨g, 0, none⟩), .int .i64 d] w (AnP w) := by
  obtain ⟨hg, nm, ch, x, y, h, j, b, k⟩ := hc
  obtain ⟨W0, hW0⟩ : ∃ W0 : World, W0 = w.alloc (.cells #[.int .i64 0, .int .i64 0] 73) := ⟨_, rfl⟩
  have k1 : Box W0 g [nm, .int .i64 x, .int .i64 y, .int .i64 h, .int .i64 j, .int .i64 b, ch] := by rw [hW0]; exact k.alloc hg _
  have bR : Box W0 w.heap.size [.int .i64 0, .int .i64 0] := by rw [hW0]; exact box_at _ _ _ _ rfl
  have fR : Fz W0 w.heap.size := by rw [hW0]; exact fz_at _ _ _ _ rfl
  have hB : Below w.heap.size w W0 := by rw [hW0]; exact (Below.refl _ _).alloc (Nat.le_refl _) _
  have hs : W0.heap.size = w.heap.size + 1 := by rw [hW0]; simp
  have HW := hide hW0
  have g1 : g < W0.heap.size := by omega
  clear hW0 k
  have c1 := k1 1 _ rfl
  have c2 := k1 2 _ rfl
  have c4 := k1 4 _ rfl
  go_enter Try.func80, Try.ntmps80
  go_wp2_with fail
  rw [← HW.out]
  go_still_tail 9, (by kernel_rfl)
  change wpList _ _ _ _ _ W0.drew
  have hB0 : Below W0.heap.size W0 W0.drew := Joins.below_draws _ _ 1
  have hs2 : W0.drew.heap.size = W0.heap.size := rfl
  generalize W0.drew = w2 at *
  go_wp2_with fail
  refine (l02At_g _ _ _ _ h0 h1 _).mono ?_
  rintro e w1 ⟨px, py, rfl, hb1⟩
  have hb := hB0.trans (hb1.mono (by omega))
  have hs1 := hb.size
  have r0 := bR.below hb (by omega) 0 _ rfl
  have r1 := bR.below hb (by omega) 1 _ rfl
  have v0 := fR.below hb (by omega) 0
  have v1 := fR.below hb (by omega) 1
  have HB := hide (hB.trans (hb.mono (by omega)))
  clear c1 c2 c4
  go_wp2_with fail
  refine bodyPost_ret (v := .agg #[.int .i64 px, .int .i64 py]) (by simp [results, Try.results80, go_sem, r0, r1]) rfl ⟨_, _, rfl, ?_⟩
  exact ((HB.out.setCell (Nat.le_refl _) _).setCell (Nat.le_refl _) _)

set_option maxRecDepth 100000 in
set_option maxHeartbeats 2000000 in
theorem l04Back_g (g : Nat) (d : Int) (h0 : 0 ≤ d) (h1 : d ≤ 23) (w : World) (hc : CrB w g) :
    Calls Try.prog 79 #[.pointer (some ⟨g, 0, none⟩), .int .i64 d] w (AnP w) := by
  obtain ⟨hg, nm, ch, x, y, h, j, b, k⟩ := hc
  obtain ⟨W0, hW0⟩ : ∃ W0 : World, W0 = w.alloc (.cells #[.int .i64 0, .int .i64 0] 73) := ⟨_, rfl⟩
  have k1 : Box W0 g [nm, .int .i64 x, .int .i64 y, .int .i64 h, .int .i64 j, .int .i64 b, ch] := by rw [hW0]; exact k.alloc hg _
  have bR : Box W0 w.heap.size [.int .i64 0, .int .i64 0] := by rw [hW0]; exact box_at _ _ _ _ rfl
  have fR : Fz W0 w.heap.size := by rw [hW0]; exact fz_at _ _ _ _ rfl
  have hB : Below w.heap.size w W0 := by rw [hW0]; exact (Below.refl _ _).alloc (Nat.le_refl _) _
  have hs : W0.heap.size = w.heap.size + 1 := by rw [hW0]; simp
  have HW := hide hW0
  have g1 : g < W0.heap.size := by omega
  clear hW0 k
  have c1 := k1 1 _ rfl
  have c2 := k1 2 _ rfl
  have c5 := k1 5 _ rfl
  go_enter Try.func79, Try.ntmps79
  go_wp2_with fail
  rw [← HW.out]
  go_still_tail 11, (by kernel_rfl)
  have hw12 : IntKind.i64.wrap (d + 12) = d + 12 := by rw [IntWalk.i64_left]; exact IntWalk.wrap64_in _ ⟨by omega, by omega⟩
  still_call (l02Mod_any (d + 12) (by omega) (by omega) _)
  repeat still_step
  refine wpStill_nil ?_
  change wpList _ _ _ _ _ W0.drew
  have hB0 : Below W0.heap.size W0 W0.drew := Joins.below_draws _ _ 1
  have hs2 : W0.drew.heap.size = W0.heap.size := rfl
  generalize W0.drew = w2 at *
  go_wp2_with fail
  refine (l02At_g _ _ _ _ (by omega) (by omega) _).mono ?_
  rintro e w1 ⟨px, py, rfl, hb1⟩
  have hb := hB0.trans (hb1.mono (by omega))
  have hs1 := hb.size
  have r0 := bR.below hb (by omega) 0 _ rfl
  have r1 := bR.below hb (by omega) 1 _ rfl
  have v0 := fR.below hb (by omega) 0
  have v1 := fR.below hb (by omega) 1
  have HB := hide (hB.trans (hb.mono (by omega)))
  clear c1 c2 c5
  go_wp2_with fail
  refine bodyPost_ret (v := .agg #[.int .i64 px, .int .i64 py]) (by simp [results, Try.results79, go_sem, r0, r1]) rfl ⟨_, _, rfl, ?_⟩
  exact ((HB.out.setCell (Nat.le_refl _) _).setCell (Nat.le_refl _) _)

set_option maxRecDepth 100000 in
set_option maxHeartbeats 2000000 in
theorem l15Boom_g (g : Nat) (d : Int) (h0 : 0 ≤ d) (h1 : d ≤ 23) (w : World) (hc : CrB w g) :
    Calls Try.prog 74 #[.pointer (some ⟨g, 0, none⟩), .int .i64 d] w (AnS w) := by
  obtain ⟨W0, hW0⟩ : ∃ W0 : World, W0 = w.alloc (.cells #[.int .i64 0, .int .i64 0, .int .i64 0, .int .i64 0] 94) := ⟨_, rfl⟩
  have bR : Box W0 w.heap.size [.int .i64 0, .int .i64 0, .int .i64 0, .int .i64 0] := by rw [hW0]; exact box_at _ _ _ _ rfl
  have fR : Fz W0 w.heap.size := by rw [hW0]; exact fz_at _ _ _ _ rfl
  have hB : Below w.heap.size w W0 := by rw [hW0]; exact (Below.refl _ _).alloc (Nat.le_refl _) _
  have hs : W0.heap.size = w.heap.size + 1 := by rw [hW0]; simp
  have hg := hc.1
  have HC := hide (hc.below hB hg)
  have HW := hide hW0
  clear hW0 hc
  go_enter Try.func74, Try.ntmps74
  go_wp2_with fail
  rw [← HW.out]
  refine (l04Back_g g d h0 h1 _ HC.out).mono ?_
  rintro e w1 ⟨px, py, rfl, hb1⟩
  have hs1 := hb1.size
  go_wp2_with fail
  refine (l04Jib_g g d h0 h1 _ (HC.out.below hb1 (by omega))).mono ?_
  rintro e w2 ⟨qx, qy, rfl, hb2⟩
  have hb := hb1.trans (hb2.mono (by omega))
  have hs2 := hb2.size
  have bE := bR.below hb (by omega)
  have fE := fR.below hb (by omega)
  have r0 := bE 0 _ rfl
  have r1 := bE 1 _ rfl
  have r2 := bE 2 _ rfl
  have r3 := bE 3 _ rfl
  have v0 := fE 0
  have v1 := fE 1
  have v2 := fE 2
  have v3 := fE 3
  have HB := hide (hB.trans (hb.mono (by omega)))
  go_wp2_with fail
  refine bodyPost_ret (v := .agg #[.int .i64 px, .int .i64 py, .int .i64 qx, .int .i64 qy]) (by simp [results, Try.results74, go_sem, r0, r1, r2, r3]) rfl ⟨_, _, _, _, rfl, ?_⟩
  exact ((((HB.out.setCell (Nat.le_refl _) _).setCell (Nat.le_refl _) _).setCell (Nat.le_refl _) _).setCell (Nat.le_refl _) _)

set_option maxRecDepth 100000 in
set_option maxHeartbeats 2000000 in
theorem l15Mast_g (gl gh : Nat) (d dist : Int) (h0 : 0 ≤ d) (h1 : d ≤ 23) (w : World) (hl : CrB w gl) (hh : CrB w gh) :
    Calls Try.prog 75 #[.pointer (some ⟨gl, 0, none⟩), .int .i64 d, .pointer (some ⟨gh, 0, none⟩), .int .i64 dist] w (AnB w) := by
  obtain ⟨hg, nm, ch, x, y, h, j, b, k⟩ := hh
  have HC := hide (show CrB (World.drew w) gl from hl)
  have HSS : Hid ((World.drew w).cell? ⟨gh, 1, none⟩ = some (.int .i64 x) ∧ (World.drew w).cell? ⟨gh, 2, none⟩ = some (.int .i64 y)) := hide ⟨k 1 _ rfl, k 2 _ rfl⟩
  clear k hl
  go_enter Try.func75, Try.ntmps75
  go_wp2_with fail
  go_region_held3 (fun W => W.cell? ⟨gh, 1, none⟩ = some (.int .i64 x) ∧ W.cell? ⟨gh, 2, none⟩ = some (.int .i64 y)) (with_reducible exact HSS.out) (first | (go_at_call 74; (with_reducible refine (l15Boom_g gl d h0 h1 _ HC.out).mono ?_); rintro e w4 ⟨px, py, qx, qy, rfl, hq4⟩; have hz4 : w.heap.size ≤ w4.heap.size := hq4.size; have HSS : Hid (w4.cell? ⟨gh, 1, none⟩ = some (.int .i64 x) ∧ w4.cell? ⟨gh, 2, none⟩ = some (.int .i64 y)) := hide ⟨(hq4.cell (p := ⟨gh, 1, none⟩) (by show gh < w.heap.size; omega)).trans HSS.out.1, (hq4.cell (p := ⟨gh, 2, none⟩) (by show gh < w.heap.size; omega)).trans HSS.out.2⟩) | (go_at_call 73; (with_reducible refine (l14Near_g px py qx qy x y x y dist _).mono ?_); rintro e w5 ⟨yy, rfl, hq5⟩; have hz5 : w4.heap.size ≤ w5.heap.size := hq5.size; have HSS : Hid (w5.cell? ⟨gh, 1, none⟩ = some (.int .i64 x) ∧ w5.cell? ⟨gh, 2, none⟩ = some (.int .i64 y)) := hide ⟨(hq5.cell (p := ⟨gh, 1, none⟩) (by show gh < w4.heap.size; omega)).trans HSS.out.1, (hq5.cell (p := ⟨gh, 2, none⟩) (by show gh < w4.heap.size; omega)).trans HSS.out.2⟩))
  go_wp2_with fail
  go_ret
  exact ⟨_, rfl, ((Joins.below_draws _ _ 1 : Below w.heap.size w (World.drew w)).trans hq4).trans (hq5.mono hz4)⟩

set_option maxRecDepth 100000 in
set_option maxHeartbeats 2000000 in
theorem l10Size_is {n s : Int} (h : mx n (wrap64 (-n)) = s) {w : World} :
    Calls Try.prog 72 #[.int .i64 n] w fun e w' => e = .returned (.int .i64 s) ∧ w' = w := by
  have H := hide h
  clear h
  go_enter Try.func72, Try.ntmps72
  go_wp2_with fail
  refine (l00Max_is H.out).mono ?_
  rintro e w1 ⟨rfl, hw⟩
  obtain rfl := hw.symm
  go_wp2_with fail
  go_ret
  exact ⟨rfl, rfl⟩

set_option maxRecDepth 100000 in
set_option maxHeartbeats 2000000 in
theorem l15Conflict_g (ga gb : Nat) (da db dist : Int) (ha0 : 0 ≤ da) (ha1 : da ≤ 23) (hb0 : 0 ≤ db) (hb1 : db ≤ 23) (w : World) (hA : CrB w ga) (hB : CrB w gb) :
    Calls Try.prog 68 #[.pointer (some ⟨ga, 0, none⟩), .pointer (some ⟨gb, 0, none⟩), .int .i64 da, .int .i64 db, .int .i64 dist] w (AnB w) := by
  obtain ⟨hga, nma, cha, xa, ya, ha, ja, ba, ka⟩ := id hA
  obtain ⟨hgb, nmb, chb, xb, yb, hb, jb, bb, kb⟩ := id hB
  have ca := ka 3 _ rfl
  have cb := kb 3 _ rfl
  obtain ⟨s, hs⟩ : ∃ s, mx (wrap64 (ha - hb)) (wrap64 (-(wrap64 (ha - hb)))) = s := ⟨_, rfl⟩
  have HS := hide hs
  clear hs
  have HS2 : Hid (mx (IntKind.i64.wrap (ha - hb)) (wrap64 (-(IntKind.i64.wrap (ha - hb)))) = s) := by rw [IntWalk.i64_left]; exact HS.out
  have HCA := hide hA
  have HCB := hide hB
  have BA := hide ka
  have BB := hide kb
  clear hA hB ka kb
  cases hlt : decide (s < 60)
  · go_enter Try.func68, Try.ntmps68
    go_wp2_with fail
    refine wp_region_held_drew (S := fun W => W.cell? ⟨ga, 3, none⟩ = some (.int .i64 ha) ∧ W.cell? ⟨gb, 3, none⟩ = some (.int .i64 hb)) (by kernel_rfl) (⟨ca, cb⟩) (fun hHeld => ?_)
    try simp only [Array.replicate, List.replicate]
    refine wpAnyH_take (i := 0) (v := ?_) rfl (by kernel_rfl) (by kernel_rfl) (by kernel_rfl) (fun _ _ _ h => h) (Or.inl ⟨by rfl, ?_⟩) (by assumption) ?_
    rotate_left
    · (intro w hSw; (try dsimp only at hSw); go_simp; try (with_reducible rfl))
    try simp only [Act.put, List.getElem_toArray, List.getElem_cons_succ, List.getElem_cons_zero, List.setIfInBounds_toArray, List.set_cons_succ, List.set_cons_zero]
    refine wpAnyH_take (i := 1) (v := ?_) rfl (by kernel_rfl) (by kernel_rfl) (by kernel_rfl) (fun _ _ _ h => h) (Or.inl ⟨by rfl, ?_⟩) (by assumption) ?_
    rotate_left
    · (intro w hSw; (try dsimp only at hSw); go_simp; try (with_reducible rfl))
    try simp only [Act.put, List.getElem_toArray, List.getElem_cons_succ, List.getElem_cons_zero, List.setIfInBounds_toArray, List.set_cons_succ, List.set_cons_zero]
    refine wpAnyH_take (i := 2) (v := ?_) rfl (by kernel_rfl) (by kernel_rfl) (by kernel_rfl) (fun _ _ _ h => h) (Or.inl ⟨by rfl, ?_⟩) (by assumption) ?_
    rotate_left
    · (intro w hSw; (try dsimp only at hSw); go_simp; try (with_reducible rfl))
    try simp only [Act.put, List.getElem_toArray, List.getElem_cons_succ, List.getElem_cons_zero, List.setIfInBounds_toArray, List.set_cons_succ, List.set_cons_zero]
    refine wpAnyH_take (i := 3) (v := ?_) rfl (by kernel_rfl) (by kernel_rfl) (by kernel_rfl) (fun _ _ _ h => h) (Or.inl ⟨by rfl, ?_⟩) (by assumption) ?_
    rotate_left
    · (intro w hSw; (try dsimp only at hSw); go_simp; try (with_reducible rfl))
    try simp only [Act.put, List.getElem_toArray, List.getElem_cons_succ, List.getElem_cons_zero, List.setIfInBounds_toArray, List.set_cons_succ, List.set_cons_zero]
    refine wpAnyH_take (i := 4) (v := ?_) rfl (by kernel_rfl) (by kernel_rfl) (by kernel_rfl) (fun _ _ _ h => h) (Or.inl ⟨by rfl, ?_⟩) (by assumption) ?_
    rotate_left
    · (intro w hSw; (try dsimp only at hSw); go_simp; try (with_reducible rfl))
    try simp only [Act.put, List.getElem_toArray, List.getElem_cons_succ, List.getElem_cons_zero, List.setIfInBounds_toArray, List.set_cons_succ, List.set_cons_zero]
    refine wpAnyH_take (i := 5) (v := ?_) rfl (by kernel_rfl) (by kernel_rfl) (by kernel_rfl) (fun _ _ _ h => h) (Or.inl ⟨by rfl, ?_⟩) (by assumption) ?_
    rotate_left
    · (intro w hSw; (try dsimp only at hSw); go_simp; try (with_reducible rfl))
    try simp only [Act.put, List.getElem_toArray, List.getElem_cons_succ, List.getElem_cons_zero, List.setIfInBounds_toArray, List.set_cons_succ, List.set_cons_zero]
    refine wpAnyH_take (i := 6) (v := ?_) rfl (by kernel_rfl) (by kernel_rfl) (by kernel_rfl) (fun _ _ _ h => h) (Or.inl ⟨by rfl, ?_⟩) (by assumption) ?_
    rotate_left
    · (intro w hSw; (try dsimp only at hSw); go_simp; try (with_reducible rfl))
    try simp only [Act.put, List.getElem_toArray, List.getElem_cons_succ, List.getElem_cons_zero, List.setIfInBounds_toArray, List.set_cons_succ, List.set_cons_zero]
    refine wpAnyH_take (i := 7) (v := ?_) rfl (by kernel_rfl) (by kernel_rfl) (by kernel_rfl) (fun _ _ _ h => h) (Or.inl ⟨by rfl, ?_⟩) (by assumption) ?_
    rotate_left
    · (intro w hSw; (try dsimp only at hSw); go_simp; try (with_reducible rfl))
    try simp only [Act.put, List.getElem_toArray, List.getElem_cons_succ, List.getElem_cons_zero, List.setIfInBounds_toArray, List.set_cons_succ, List.set_cons_zero]
    refine wpAnyH_take (i := 8) (v := ?_) rfl (by kernel_rfl) (by kernel_rfl) (by kernel_rfl) (fun _ _ _ h => h) (Or.inl ⟨by rfl, ?_⟩) (by assumption) ?_
    rotate_left
    · (intro w hSw; (try dsimp only at hSw); go_simp; try (with_reducible rfl))
    try simp only [Act.put, List.getElem_toArray, List.getElem_cons_succ, List.getElem_cons_zero, List.setIfInBounds_toArray, List.set_cons_succ, List.set_cons_zero]
    refine wpAnyH_ready (rs := [9]) (by kernel_rfl) (by simp) ?_
    refine AllReadyH.cons rfl (fun K hK => ?_) AllReadyH.nil
    go_simp
    (with_reducible first | refine (l10Size_is HS.out).mono ?_ | refine (l10Size_is HS2.out).mono ?_)
    rintro e w3 ⟨rfl, hw⟩
    obtain rfl := hw.symm
    refine hK.out _ _ (hHeld) (fun hHeld2 => ?_)
    clear hK K hHeld
    have hHeld := hHeld2
    clear hHeld2
    try simp only [Act.put, List.getElem_toArray, List.getElem_cons_succ, List.getElem_cons_zero, List.setIfInBounds_toArray, List.set_cons_succ, List.set_cons_zero]
    refine wpAnyH_take (i := 10) (v := .bool false) rfl (by kernel_rfl) (by kernel_rfl) (by kernel_rfl) (fun _ _ _ h => h) (Or.inl ⟨by rfl, (by intro w hSw; (try dsimp only at hSw); go_simp)⟩) (by assumption) ?_
    try simp only [Act.put, List.getElem_toArray, List.getElem_cons_succ, List.getElem_cons_zero, List.setIfInBounds_toArray, List.set_cons_succ, List.set_cons_zero]
    refine wpAnyH_take (i := 11) (v := ?_) rfl (by kernel_rfl) (by kernel_rfl) (by kernel_rfl) (fun _ _ _ h => h) (Or.inl ⟨by rfl, ?_⟩) (by assumption) ?_
    rotate_left
    · (intro w hSw; (try dsimp only at hSw); go_simp; try (with_reducible rfl))
    try simp only [Act.put, List.getElem_toArray, List.getElem_cons_succ, List.getElem_cons_zero, List.setIfInBounds_toArray, List.set_cons_succ, List.set_cons_zero]
    refine wpAnyH_take (i := 12) (v := undef) rfl (by kernel_rfl) (by kernel_rfl) (by kernel_rfl) (fun _ _ _ h => h) (Or.inr ⟨by rfl, rfl⟩) (by assumption) ?_
    try simp only [Act.put, List.getElem_toArray, List.getElem_cons_succ, List.getElem_cons_zero, List.setIfInBounds_toArray, List.set_cons_succ, List.set_cons_zero]
    refine wpAnyH_take (i := 13) (v := undef) rfl (by kernel_rfl) (by kernel_rfl) (by kernel_rfl) (fun _ _ _ h => h) (Or.inr ⟨by rfl, rfl⟩) (by assumption) ?_
    try simp only [Act.put, List.getElem_toArray, List.getElem_cons_succ, List.getElem_cons_zero, List.setIfInBounds_toArray, List.set_cons_succ, List.set_cons_zero]
    refine wpAnyH_take (i := 14) (v := undef) rfl (by kernel_rfl) (by kernel_rfl) (by kernel_rfl) (fun _ _ _ h => h) (Or.inr ⟨by rfl, rfl⟩) (by assumption) ?_
    try simp only [Act.put, List.getElem_toArray, List.getElem_cons_succ, List.getElem_cons_zero, List.setIfInBounds_toArray, List.set_cons_succ, List.set_cons_zero]
    refine wpAnyH_take (i := 15) (v := undef) rfl (by kernel_rfl) (by kernel_rfl) (by kernel_rfl) (fun _ _ _ h => h) (Or.inr ⟨by rfl, rfl⟩) (by assumption) ?_
    try simp only [Act.put, List.getElem_toArray, List.getElem_cons_succ, List.getElem_cons_zero, List.setIfInBounds_toArray, List.set_cons_succ, List.set_cons_zero]
    refine wpAnyH_take (i := 16) (v := undef) rfl (by kernel_rfl) (by kernel_rfl) (by kernel_rfl) (fun _ _ _ h => h) (Or.inr ⟨by rfl, rfl⟩) (by assumption) ?_
    try simp only [Act.put, List.getElem_toArray, List.getElem_cons_succ, List.getElem_cons_zero, List.setIfInBounds_toArray, List.set_cons_succ, List.set_cons_zero]
    refine wpAnyH_take (i := 17) (v := undef) rfl (by kernel_rfl) (by kernel_rfl) (by kernel_rfl) (fun _ _ _ h => h) (Or.inr ⟨by rfl, rfl⟩) (by assumption) ?_
    try simp only [Act.put, List.getElem_toArray, List.getElem_cons_succ, List.getElem_cons_zero, List.setIfInBounds_toArray, List.set_cons_succ, List.set_cons_zero]
    refine wpAnyH_take (i := 18) (v := undef) rfl (by kernel_rfl) (by kernel_rfl) (by kernel_rfl) (fun _ _ _ h => h) (Or.inr ⟨by rfl, rfl⟩) (by assumption) ?_
    try simp only [Act.put, List.getElem_toArray, List.getElem_cons_succ, List.getElem_cons_zero, List.setIfInBounds_toArray, List.set_cons_succ, List.set_cons_zero]
    refine wpAnyH_take (i := 19) (v := undef) rfl (by kernel_rfl) (by kernel_rfl) (by kernel_rfl) (fun _ _ _ h => h) (Or.inr ⟨by rfl, rfl⟩) (by assumption) ?_
    try simp only [Act.put, List.getElem_toArray, List.getElem_cons_succ, List.getElem_cons_zero, List.setIfInBounds_toArray, List.set_cons_succ, List.set_cons_zero]
    refine wpAnyH_take (i := 20) (v := ?_) rfl (by kernel_rfl) (by kernel_rfl) (by kernel_rfl) (fun _ _ _ h => h) (Or.inl ⟨by rfl, ?_⟩) (by assumption) ?_
    rotate_left
    · (intro w hSw; (try dsimp only at hSw); go_simp; try (with_reducible rfl))
    try simp only [Act.put, List.getElem_toArray, List.getElem_cons_succ, List.getElem_cons_zero, List.setIfInBounds_toArray, List.set_cons_succ, List.set_cons_zero]
    refine wpAnyH_done (by kernel_rfl) ?_ _
    clear ca cb
    have HB0 := hide (show Below w.heap.size w (World.drew w) from Joins.below_draws _ _ 1)
    have hzw : (World.drew w).heap.size = w.heap.size := rfl
    have HA1 := hide (show CrB (World.drew w) ga from HCA.out)
    have HB1 := hide (show CrB (World.drew w) gb from HCB.out)
    have c1a := show (World.drew w).cell? ⟨ga, 3, none⟩ = some (.int .i64 ha) from BA.out 3 _ rfl
    have c1b := show (World.drew w).cell? ⟨gb, 3, none⟩ = some (.int .i64 hb) from BB.out 3 _ rfl
    clear HCA HCB BA BB
    generalize World.drew w = w1 at *
    go_wp2_with fail
    have HQA := hide (show w1.cell? ⟨ga, 3, none⟩ = some (.int .i64 ha) from c1a)
    have HQB := hide (show w1.cell? ⟨gb, 3, none⟩ = some (.int .i64 hb) from c1b)
    have qa := HQA.out
    have qb := HQB.out
    by_cases g1 : ha < hb
    · go_wp2_with fail
      go_quiet (fail)
      go_wp2_with fail
      refine (l15Mast_g ga gb da dist ha0 ha1 _ (HA1.out.below (Joins.below_draws w1.heap.size _ _) (by omega)) (HB1.out.below (Joins.below_draws w1.heap.size _ _) (by omega))).mono ?_
      rintro e w9 ⟨y9, rfl, hb9⟩
      clear qa qb
      go_wp2_with fail
      go_ret
      exact ⟨_, rfl, below_fin hb9 (by repeat (first | (with_reducible exact HB0.out) | refine below_dN ?_ _))⟩
    · by_cases g2 : hb < ha
      · go_wp2_with fail
        go_quiet (fail)
        go_wp2_with fail
        go_quiet (fail)
        go_wp2_with fail
        refine (l15Mast_g gb ga db dist hb0 hb1 _ (HB1.out.below (Joins.below_draws w1.heap.size _ _) (by omega)) (HA1.out.below (Joins.below_draws w1.heap.size _ _) (by omega))).mono ?_
        rintro e w9 ⟨y9, rfl, hb9⟩
        clear qa qb
        go_wp2_with fail
        go_ret
        exact ⟨_, rfl, below_fin hb9 (by repeat (first | (with_reducible exact HB0.out) | refine below_dN ?_ _))⟩
      · go_wp2_with fail
        go_quiet (fail)
        go_wp2_with fail
        go_quiet (fail)
        go_wp2_with fail
        go_ret
        exact ⟨_, rfl, (by repeat (first | (with_reducible exact HB0.out) | refine below_dN ?_ _))⟩
  · have HCAd := hide (show CrB (World.drew w) ga from HCA.out)
    have HCBd := hide (show CrB (World.drew w) gb from HCB.out)
    have hgbd : gb < (World.drew w).heap.size := hgb
    have HSS : Hid ((World.drew w).cell? ⟨ga, 3, none⟩ = some (.int .i64 ha) ∧ (World.drew w).cell? ⟨gb, 3, none⟩ = some (.int .i64 hb)) := hide ⟨ca, cb⟩
    clear ca cb
    go_enter Try.func68, Try.ntmps68
    go_wp2_with fail
    go_region_held3 (fun W => W.cell? ⟨ga, 3, none⟩ = some (.int .i64 ha) ∧ W.cell? ⟨gb, 3, none⟩ = some (.int .i64 hb)) (with_reducible exact HSS.out) (first | (go_at_call 72; (with_reducible first | refine (l10Size_is HS.out).mono ?_ | refine (l10Size_is HS2.out).mono ?_); rintro e w3 ⟨rfl, hw⟩; obtain rfl := hw.symm) | (go_at_call 74; (with_reducible refine (l15Boom_g ga da ha0 ha1 _ HCAd.out).mono ?_); rintro e w4 ⟨px, py, qx, qy, rfl, hq4⟩; have hz4 : w.heap.size ≤ w4.heap.size := hq4.size; have HSS : Hid (w4.cell? ⟨ga, 3, none⟩ = some (.int .i64 ha) ∧ w4.cell? ⟨gb, 3, none⟩ = some (.int .i64 hb)) := hide ⟨(hq4.cell (p := ⟨ga, 3, none⟩) (by show ga < w.heap.size; omega)).trans HSS.out.1, (hq4.cell (p := ⟨gb, 3, none⟩) (by show gb < w.heap.size; omega)).trans HSS.out.2⟩) | (go_at_call 74; (with_reducible refine (l15Boom_g gb db hb0 hb1 _ (HCBd.out.below hq4 hgbd)).mono ?_); rintro e w5 ⟨rx, ry, tx, ty, rfl, hq5⟩; have hz5 : w4.heap.size ≤ w5.heap.size := hq5.size; have HSS : Hid (w5.cell? ⟨ga, 3, none⟩ = some (.int .i64 ha) ∧ w5.cell? ⟨gb, 3, none⟩ = some (.int .i64 hb)) := hide ⟨(hq5.cell (p := ⟨ga, 3, none⟩) (by show ga < w4.heap.size; omega)).trans HSS.out.1, (hq5.cell (p := ⟨gb, 3, none⟩) (by show gb < w4.heap.size; omega)).trans HSS.out.2⟩) | (go_at_call 73; (with_reducible refine (l14Near_g px py qx qy rx ry tx ty dist _).mono ?_); rintro e w6 ⟨yy, rfl, hq6⟩; have hz6 : w5.heap.size ≤ w6.heap.size := hq6.size; have HSS : Hid (w6.cell? ⟨ga, 3, none⟩ = some (.int .i64 ha) ∧ w6.cell? ⟨gb, 3, none⟩ = some (.int .i64 hb)) := hide ⟨(hq6.cell (p := ⟨ga, 3, none⟩) (by show ga < w5.heap.size; omega)).trans HSS.out.1, (hq6.cell (p := ⟨gb, 3, none⟩) (by show gb < w5.heap.size; omega)).trans HSS.out.2⟩))
    have hq : Below w.heap.size w w6 := (((Joins.below_draws _ _ 1 : Below w.heap.size w (World.drew w)).trans hq4).trans (hq5.mono hz4)).trans (hq6.mono (Nat.le_trans hz4 hz5))
    have hz : w.heap.size ≤ w6.heap.size := hq.size
    clear hq4 hq5 hq6 HSS
    have HA6 := hide (HCA.out.below hq hga)
    have HB6 := hide (HCB.out.below hq hgb)
    have c6a := (hq.cell (p := ⟨ga, 3, none⟩) hga).trans (BA.out 3 _ rfl)
    have c6b := (hq.cell (p := ⟨gb, 3, none⟩) hgb).trans (BB.out 3 _ rfl)
    have HQ := hide hq
    clear hq
    cases yy
    · have HQA := hide (show w6.cell? ⟨ga, 3, none⟩ = some (.int .i64 ha) from c6a)
      have HQB := hide (show w6.cell? ⟨gb, 3, none⟩ = some (.int .i64 hb) from c6b)
      have qa := HQA.out
      have qb := HQB.out
      by_cases g1 : ha < hb
      · go_wp2_with fail
        go_quiet (fail)
        go_wp2_with fail
        refine (l15Mast_g ga gb da dist ha0 ha1 _ (HA6.out.below (Joins.below_draws w6.heap.size _ _) (by omega)) (HB6.out.below (Joins.below_draws w6.heap.size _ _) (by omega))).mono ?_
        rintro e w9 ⟨y9, rfl, hb9⟩
        clear qa qb
        go_wp2_with fail
        go_ret
        exact ⟨_, rfl, below_fin hb9 (by repeat (first | (with_reducible exact HQ.out) | refine below_dN ?_ _))⟩
      · by_cases g2 : hb < ha
        · go_wp2_with fail
          go_quiet (fail)
          go_wp2_with fail
          go_quiet (fail)
          go_wp2_with fail
          refine (l15Mast_g gb ga db dist hb0 hb1 _ (HB6.out.below (Joins.below_draws w6.heap.size _ _) (by omega)) (HA6.out.below (Joins.below_draws w6.heap.size _ _) (by omega))).mono ?_
          rintro e w9 ⟨y9, rfl, hb9⟩
          clear qa qb
          go_wp2_with fail
          go_ret
          exact ⟨_, rfl, below_fin hb9 (by repeat (first | (with_reducible exact HQ.out) | refine below_dN ?_ _))⟩
        · go_wp2_with fail
          go_quiet (fail)
          go_wp2_with fail
          go_quiet (fail)
          go_wp2_with fail
          go_ret
          exact ⟨_, rfl, (by repeat (first | (with_reducible exact HQ.out) | refine below_dN ?_ _))⟩
    · clear c6a c6b
      go_wp2_with fail
      go_ret
      exact ⟨_, rfl, HQ.out⟩


end Go.Proofs.Ytoklcjpokffocaa
