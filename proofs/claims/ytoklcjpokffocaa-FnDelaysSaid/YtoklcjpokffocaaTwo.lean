/-
  DRAWINGS of the reference: two cranes, tables. What is drawn is left open. No condition but those that each theorem names.
-/
import Derived.Test.YtoklcjpokffocaaDraw
namespace Go.Proofs.Ytoklcjpokffocaa
open Go.RowKit
set_option linter.unusedVariables false
set_option linter.unusedSimpArgs false

theorem dcell2 (W : World) (p : Addr) : (World.drew W).cell? p = W.cell? p := rfl
theorem far_c {W : World} {g k i j : Nat} {v u : Value} (h : W.cell? ⟨k, j, none⟩ = some u) (hk : g ≠ k) : (W.setCell ⟨g, i, none⟩ v).cell? ⟨k, j, none⟩ = some u := (World.cell?_setCell_far _ _ _ _ hk).trans h

set_option maxRecDepth 100000 in
set_option maxHeartbeats 2000000 in
theorem l15Two_g (b K : Nat) (hK : K ≤ 80000) (w : World) (h : Src w b K) :
    Calls Try.prog 60 #[.pointer (some ⟨b, 0, none⟩)] w fun e w' => ∃ (na nb : ByteArray) (x y hh j bb : Int) (A : Option Addr) (n c : Nat) (x2 y2 hh2 j2 bb2 : Int) (A2 : Option Addr) (n2 c2 : Nat), e = .returned (.tuple #[.agg #[.string na, .int .i64 x, .int .i64 y, .int .i64 hh, .int .i64 j, .int .i64 bb, .slice A n c], .agg #[.string nb, .int .i64 x2, .int .i64 y2, .int .i64 hh2, .int .i64 j2, .int .i64 bb2, .slice A2 n2 c2]]) ∧ Src w' b (K + 100) ∧ Tch b (b + 1) w w' := by
  have hlt := h.lt
  have HS := hide h
  have HT := hide (Tch.refl b (b + 1) w)
  clear h
  obtain ⟨na, hna⟩ : ∃ z : ByteArray, z = ⟨#[97, 100, 97]⟩ := ⟨_, rfl⟩
  obtain ⟨nb, hnb⟩ : ∃ z : ByteArray, z = ⟨#[98, 111]⟩ := ⟨_, rfl⟩
  go_enter Try.func60, Try.ntmps60
  go_wp2_with fail
  try rw [← hna]
  clear hna
  obtain ⟨w_0, hW⟩ : ∃ W : World, W = (w.alloc (.cells #[.string ⟨#[]⟩, .int .i64 0, .int .i64 0, .int .i64 0, .int .i64 0, .int .i64 0, .slice none 0 0] 76)).alloc (.cells #[.string ⟨#[]⟩, .int .i64 0, .int .i64 0, .int .i64 0, .int .i64 0, .int .i64 0, .slice none 0 0] 76) := ⟨_, rfl⟩
  rw [← hW]
  have hs_0 : w_0.heap.size = w.heap.size + 2 := by rw [hW]; simp
  have bP : Box w_0 w.heap.size [.string ⟨#[]⟩, .int .i64 0, .int .i64 0, .int .i64 0, .int .i64 0, .int .i64 0, .slice none 0 0] := by rw [hW]; exact (box_at _ _ _ _ rfl).alloc (by simp) _
  have fP : Fz w_0 w.heap.size := by rw [hW]; exact (fz_at _ _ _ _ rfl).alloc (by simp) _
  have bQ : Box w_0 (w.heap.size + 1) [.string ⟨#[]⟩, .int .i64 0, .int .i64 0, .int .i64 0, .int .i64 0, .int .i64 0, .slice none 0 0] := by rw [hW]; exact box_at _ _ _ _ (by simp)
  have fQ : Fz w_0 (w.heap.size + 1) := by rw [hW]; exact fz_at _ _ _ _ (by simp)
  replace HS := hide (show Src w_0 b K by rw [hW]; exact (HS.out.alloc _).alloc _)
  replace HT := hide (show Tch b (b + 1) w w_0 by rw [hW]; exact (HT.out.alloc_ _).alloc_ _)
  clear hW
  refine (l04Draw_g b K na (by omega) _ HS.out).mono ?_
  rintro e w_1 ⟨x1, y1, h1, j1, b1, A1, n1, c1, rfl, S1, t1⟩
  replace HS := hide S1
  clear S1
  have hs_w_1 : w_0.heap.size ≤ w_1.heap.size := t1.size
  replace bP := bP.tch t1 (by omega) (by omega)
  replace fP := fP.tch t1 (by omega) (by omega)
  replace bQ := bQ.tch t1 (by omega) (by omega)
  replace fQ := fQ.tch t1 (by omega) (by omega)
  replace HT := hide (HT.out.trans t1)
  clear t1
  go_wp2_with fail
  try rw [← hnb]
  clear hnb
  obtain ⟨w_2, hW⟩ : ∃ W : World, W = w_1.alloc (.cells #[.string na, .int .i64 x1, .int .i64 y1, .int .i64 h1, .int .i64 j1, .int .i64 b1, .slice A1 n1 c1] 76) := ⟨_, rfl⟩
  rw [← hW]
  have hs_w_2 : w_2.heap.size = w_1.heap.size + 1 := by rw [hW]; simp
  replace bP : Box w_2 w.heap.size [.string ⟨#[]⟩, .int .i64 0, .int .i64 0, .int .i64 0, .int .i64 0, .int .i64 0, .slice none 0 0] := by rw [hW]; exact bP.alloc (by omega) _
  replace fP : Fz w_2 w.heap.size := by rw [hW]; exact fP.alloc (by omega) _
  replace bQ : Box w_2 (w.heap.size + 1) [.string ⟨#[]⟩, .int .i64 0, .int .i64 0, .int .i64 0, .int .i64 0, .int .i64 0, .slice none 0 0] := by rw [hW]; exact bQ.alloc (by omega) _
  replace fQ : Fz w_2 (w.heap.size + 1) := by rw [hW]; exact fQ.alloc (by omega) _
  have bA : Box w_2 w_1.heap.size [.string na, .int .i64 x1, .int .i64 y1, .int .i64 h1, .int .i64 j1, .int .i64 b1, .slice A1 n1 c1] := by rw [hW]; exact box_at _ _ _ _ rfl
  have fA : Fz w_2 w_1.heap.size := by rw [hW]; exact fz_at _ _ _ _ rfl
  replace HS := hide (show Src w_2 b (K + 40) by rw [hW]; exact HS.out.alloc _)
  replace HT := hide (show Tch b (b + 1) w w_2 by rw [hW]; exact HT.out.alloc_ _)
  clear hW
  refine (l04Draw_g b (K + 40) nb (by omega) _ HS.out).mono ?_
  rintro e w_3 ⟨x2, y2, h2, j2, b2, A2, n2, c2, rfl, S1, t1⟩
  replace HS := hide S1
  clear S1
  have hs_w_3 : w_2.heap.size ≤ w_3.heap.size := t1.size
  replace bP := bP.tch t1 (by omega) (by omega)
  replace fP := fP.tch t1 (by omega) (by omega)
  replace bQ := bQ.tch t1 (by omega) (by omega)
  replace fQ := fQ.tch t1 (by omega) (by omega)
  replace bA := bA.tch t1 (by omega) (by omega)
  replace fA := fA.tch t1 (by omega) (by omega)
  replace HT := hide (HT.out.trans t1)
  clear t1
  go_wp2_with fail
  obtain ⟨w_4, hW⟩ : ∃ W : World, W = w_3.alloc (.cells #[.string nb, .int .i64 x2, .int .i64 y2, .int .i64 h2, .int .i64 j2, .int .i64 b2, .slice A2 n2 c2] 76) := ⟨_, rfl⟩
  rw [← hW]
  have hs_w_4 : w_4.heap.size = w_3.heap.size + 1 := by rw [hW]; simp
  replace bP : Box w_4 w.heap.size [.string ⟨#[]⟩, .int .i64 0, .int .i64 0, .int .i64 0, .int .i64 0, .int .i64 0, .slice none 0 0] := by rw [hW]; exact bP.alloc (by omega) _
  replace fP : Fz w_4 w.heap.size := by rw [hW]; exact fP.alloc (by omega) _
  replace bQ : Box w_4 (w.heap.size + 1) [.string ⟨#[]⟩, .int .i64 0, .int .i64 0, .int .i64 0, .int .i64 0, .int .i64 0, .slice none 0 0] := by rw [hW]; exact bQ.alloc (by omega) _
  replace fQ : Fz w_4 (w.heap.size + 1) := by rw [hW]; exact fQ.alloc (by omega) _
  replace bA : Box w_4 w_1.heap.size [.string na, .int .i64 x1, .int .i64 y1, .int .i64 h1, .int .i64 j1, .int .i64 b1, .slice A1 n1 c1] := by rw [hW]; exact bA.alloc (by omega) _
  replace fA : Fz w_4 w_1.heap.size := by rw [hW]; exact fA.alloc (by omega) _
  have bB : Box w_4 w_3.heap.size [.string nb, .int .i64 x2, .int .i64 y2, .int .i64 h2, .int .i64 j2, .int .i64 b2, .slice A2 n2 c2] := by rw [hW]; exact box_at _ _ _ _ rfl
  have fB : Fz w_4 w_3.heap.size := by rw [hW]; exact fz_at _ _ _ _ rfl
  replace HS := hide (show Src w_4 b (K + 80) by rw [hW]; exact HS.out.alloc _)
  replace HT := hide (show Tch b (b + 1) w w_4 by rw [hW]; exact HT.out.alloc_ _)
  clear hW
  refine (pick_any b (K + 80) 100 (by omega) (by omega) (by omega) _ HS.out).mono ?_
  rintro e w_5 ⟨p5, rfl, p5a, p5b, S1, t1⟩
  replace HS := hide S1
  clear S1
  have hs_w_5 : w_4.heap.size ≤ w_5.heap.size := t1.size
  replace bP := bP.tch t1 (by omega) (by omega)
  replace fP := fP.tch t1 (by omega) (by omega)
  replace bQ := bQ.tch t1 (by omega) (by omega)
  replace fQ := fQ.tch t1 (by omega) (by omega)
  replace bA := bA.tch t1 (by omega) (by omega)
  replace fA := fA.tch t1 (by omega) (by omega)
  replace bB := bB.tch t1 (by omega) (by omega)
  replace fB := fB.tch t1 (by omega) (by omega)
  replace HT := hide (HT.out.trans t1)
  clear t1
  have lA1 := bA 1 _ rfl
  have mA1 := fA 1
  go_wp2_with fail
  clear lA1 mA1
  obtain ⟨w_6, hW⟩ : ∃ W : World, W = w_5.setCell ⟨w_1.heap.size, 1, none⟩ (.int .i64 p5) := ⟨_, rfl⟩
  rw [← hW]
  have hs_w_6 : w_6.heap.size = w_5.heap.size := by rw [hW]; simp [World.setCell]
  replace bP : Box w_6 w.heap.size [.string ⟨#[]⟩, .int .i64 0, .int .i64 0, .int .i64 0, .int .i64 0, .int .i64 0, .slice none 0 0] := by rw [hW]; exact bP.far _ _ (by show w_1.heap.size ≠ w.heap.size; omega)
  replace fP : Fz w_6 w.heap.size := by rw [hW]; exact fP.set _ _
  replace bQ : Box w_6 (w.heap.size + 1) [.string ⟨#[]⟩, .int .i64 0, .int .i64 0, .int .i64 0, .int .i64 0, .int .i64 0, .slice none 0 0] := by rw [hW]; exact bQ.far _ _ (by show w_1.heap.size ≠ (w.heap.size + 1); omega)
  replace fQ : Fz w_6 (w.heap.size + 1) := by rw [hW]; exact fQ.set _ _
  replace bA : Box w_6 w_1.heap.size [.string na, .int .i64 p5, .int .i64 y1, .int .i64 h1, .int .i64 j1, .int .i64 b1, .slice A1 n1 c1] := by rw [hW]; exact bA.put 1 _ (by simp)
  replace fA : Fz w_6 w_1.heap.size := by rw [hW]; exact fA.set _ _
  replace bB : Box w_6 w_3.heap.size [.string nb, .int .i64 x2, .int .i64 y2, .int .i64 h2, .int .i64 j2, .int .i64 b2, .slice A2 n2 c2] := by rw [hW]; exact bB.far _ _ (by show w_1.heap.size ≠ w_3.heap.size; omega)
  replace fB : Fz w_6 w_3.heap.size := by rw [hW]; exact fB.set _ _
  replace HS := hide (show Src w_6 b (K + 82) by rw [hW]; exact HS.out.setNew (by omega) _ _)
  replace HT := hide (show Tch b (b + 1) w w_6 by rw [hW]; exact HT.out.setNew (by omega) _ _)
  clear hW
  refine (pick_any b (K + 82) 100 (by omega) (by omega) (by omega) _ HS.out).mono ?_
  rintro e w_7 ⟨p7, rfl, p7a, p7b, S1, t1⟩
  replace HS := hide S1
  clear S1
  have hs_w_7 : w_6.heap.size ≤ w_7.heap.size := t1.size
  replace bP := bP.tch t1 (by omega) (by omega)
  replace fP := fP.tch t1 (by omega) (by omega)
  replace bQ := bQ.tch t1 (by omega) (by omega)
  replace fQ := fQ.tch t1 (by omega) (by omega)
  replace bA := bA.tch t1 (by omega) (by omega)
  replace fA := fA.tch t1 (by omega) (by omega)
  replace bB := bB.tch t1 (by omega) (by omega)
  replace fB := fB.tch t1 (by omega) (by omega)
  replace HT := hide (HT.out.trans t1)
  clear t1
  have lA2 := bA 2 _ rfl
  have mA2 := fA 2
  go_wp2_with fail
  clear lA2 mA2
  obtain ⟨w_8, hW⟩ : ∃ W : World, W = w_7.setCell ⟨w_1.heap.size, 2, none⟩ (.int .i64 p7) := ⟨_, rfl⟩
  rw [← hW]
  have hs_w_8 : w_8.heap.size = w_7.heap.size := by rw [hW]; simp [World.setCell]
  replace bP : Box w_8 w.heap.size [.string ⟨#[]⟩, .int .i64 0, .int .i64 0, .int .i64 0, .int .i64 0, .int .i64 0, .slice none 0 0] := by rw [hW]; exact bP.far _ _ (by show w_1.heap.size ≠ w.heap.size; omega)
  replace fP : Fz w_8 w.heap.size := by rw [hW]; exact fP.set _ _
  replace bQ : Box w_8 (w.heap.size + 1) [.string ⟨#[]⟩, .int .i64 0, .int .i64 0, .int .i64 0, .int .i64 0, .int .i64 0, .slice none 0 0] := by rw [hW]; exact bQ.far _ _ (by show w_1.heap.size ≠ (w.heap.size + 1); omega)
  replace fQ : Fz w_8 (w.heap.size + 1) := by rw [hW]; exact fQ.set _ _
  replace bA : Box w_8 w_1.heap.size [.string na, .int .i64 p5, .int .i64 p7, .int .i64 h1, .int .i64 j1, .int .i64 b1, .slice A1 n1 c1] := by rw [hW]; exact bA.put 2 _ (by simp)
  replace fA : Fz w_8 w_1.heap.size := by rw [hW]; exact fA.set _ _
  replace bB : Box w_8 w_3.heap.size [.string nb, .int .i64 x2, .int .i64 y2, .int .i64 h2, .int .i64 j2, .int .i64 b2, .slice A2 n2 c2] := by rw [hW]; exact bB.far _ _ (by show w_1.heap.size ≠ w_3.heap.size; omega)
  replace fB : Fz w_8 w_3.heap.size := by rw [hW]; exact fB.set _ _
  replace HS := hide (show Src w_8 b (K + 84) by rw [hW]; exact HS.out.setNew (by omega) _ _)
  replace HT := hide (show Tch b (b + 1) w w_8 by rw [hW]; exact HT.out.setNew (by omega) _ _)
  clear hW
  refine (pick_any b (K + 84) 24 (by omega) (by omega) (by omega) _ HS.out).mono ?_
  rintro e w_9 ⟨p9, rfl, p9a, p9b, S1, t1⟩
  replace HS := hide S1
  clear S1
  have hs_w_9 : w_8.heap.size ≤ w_9.heap.size := t1.size
  replace bP := bP.tch t1 (by omega) (by omega)
  replace fP := fP.tch t1 (by omega) (by omega)
  replace bQ := bQ.tch t1 (by omega) (by omega)
  replace fQ := fQ.tch t1 (by omega) (by omega)
  replace bA := bA.tch t1 (by omega) (by omega)
  replace fA := fA.tch t1 (by omega) (by omega)
  replace bB := bB.tch t1 (by omega) (by omega)
  replace fB := fB.tch t1 (by omega) (by omega)
  replace HT := hide (HT.out.trans t1)
  clear t1
  go_wp2_with fail
  have hdz : (World.drew w_9).heap.size = w_9.heap.size := rfl
  replace bP : Box (World.drew w_9) w.heap.size [.string ⟨#[]⟩, .int .i64 0, .int .i64 0, .int .i64 0, .int .i64 0, .int .i64 0, .slice none 0 0] := bP
  replace fP : Fz (World.drew w_9) w.heap.size := fP
  replace bQ : Box (World.drew w_9) (w.heap.size + 1) [.string ⟨#[]⟩, .int .i64 0, .int .i64 0, .int .i64 0, .int .i64 0, .int .i64 0, .slice none 0 0] := bQ
  replace fQ : Fz (World.drew w_9) (w.heap.size + 1) := fQ
  replace bA : Box (World.drew w_9) w_1.heap.size [.string na, .int .i64 p5, .int .i64 p7, .int .i64 h1, .int .i64 j1, .int .i64 b1, .slice A1 n1 c1] := bA
  replace fA : Fz (World.drew w_9) w_1.heap.size := fA
  replace bB : Box (World.drew w_9) w_3.heap.size [.string nb, .int .i64 x2, .int .i64 y2, .int .i64 h2, .int .i64 j2, .int .i64 b2, .slice A2 n2 c2] := bB
  replace fB : Fz (World.drew w_9) w_3.heap.size := fB
  replace HS := hide (show Src (World.drew w_9) b (K + 86) from HS.out.drew)
  replace HT := hide (show Tch b (b + 1) w (World.drew w_9) from HT.out.drew_)
  refine wp_region_held_drew (S := fun W => W.cell? ⟨w_1.heap.size, 1, none⟩ = some (.int .i64 p5) ∧ W.cell? ⟨w_1.heap.size, 2, none⟩ = some (.int .i64 p7)) (by kernel_rfl) (⟨bA 1 _ rfl, bA 2 _ rfl⟩) (fun hHeld => ?_)
  try simp only [Array.replicate, List.replicate]
  refine wpAnyH_take (i := 0) (v := ?_) rfl (by kernel_rfl) (by kernel_rfl) (by kernel_rfl) (fun _ _ _ h => h) (Or.inl ⟨by rfl, ?_⟩) (by assumption) ?_
  rotate_left
  · (intro w hSw; (try dsimp only at hSw); go_simp; try (with_reducible rfl))
  try simp only [Act.put, List.getElem_toArray, List.getElem_cons_succ, List.getElem_cons_zero, List.setIfInBounds_toArray, List.set_cons_succ, List.set_cons_zero]
  refine wpAnyH_take (i := 1) (v := ?_) rfl (by kernel_rfl) (by kernel_rfl) (by kernel_rfl) (fun _ _ _ h => h) (Or.inl ⟨by rfl, ?_⟩) (by assumption) ?_
  rotate_left
  · (intro w hSw; (try dsimp only at hSw); go_simp; try (with_reducible rfl))
  try simp only [Act.put, List.getElem_toArray, List.getElem_cons_succ, List.getElem_cons_zero, List.setIfInBounds_toArray, List.set_cons_succ, List.set_cons_zero]
  refine wpAnyH_take (i := 2) (v := ?_) rfl (by kernel_rfl) (by kernel_rfl) (by kernel_rfl) (fun _ _ _ h => h) (Or.inl ⟨by rfl, ?_⟩) (by assumption) ?_
  rotate_left
  · (intro w hSw; (try dsimp only at hSw); go_simp; try (with_reducible rfl))
  try simp only [Act.put, List.getElem_toArray, List.getElem_cons_succ, List.getElem_cons_zero, List.setIfInBounds_toArray, List.set_cons_succ, List.set_cons_zero]
  refine wpAnyH_take (i := 3) (v := ?_) rfl (by kernel_rfl) (by kernel_rfl) (by kernel_rfl) (fun _ _ _ h => h) (Or.inl ⟨by rfl, ?_⟩) (by assumption) ?_
  rotate_left
  · (intro w hSw; (try dsimp only at hSw); go_simp; try (with_reducible rfl))
  try simp only [Act.put, List.getElem_toArray, List.getElem_cons_succ, List.getElem_cons_zero, List.setIfInBounds_toArray, List.set_cons_succ, List.set_cons_zero]
  refine wpAnyH_ready (rs := [4]) (by kernel_rfl) (by simp) ?_
  refine AllReadyH.cons rfl (fun KQ hK => ?_) AllReadyH.nil
  go_simp
  refine (pick_any b (K + 86) 700 (by omega) (by omega) (by omega) _ HS.out).mono ?_
  rintro e w_10 ⟨p10, rfl, p10a, p10b, S1, t1⟩
  replace HS := hide S1
  clear S1
  have hs_w_10 : (World.drew w_9).heap.size ≤ w_10.heap.size := t1.size
  replace bP := bP.tch t1 (by omega) (by omega)
  replace fP := fP.tch t1 (by omega) (by omega)
  replace bQ := bQ.tch t1 (by omega) (by omega)
  replace fQ := fQ.tch t1 (by omega) (by omega)
  replace bA := bA.tch t1 (by omega) (by omega)
  replace fA := fA.tch t1 (by omega) (by omega)
  replace bB := bB.tch t1 (by omega) (by omega)
  replace fB := fB.tch t1 (by omega) (by omega)
  replace HT := hide (HT.out.trans t1)
  clear t1
  refine hK.out _ _ (⟨bA 1 _ rfl, bA 2 _ rfl⟩) (fun hHeld2 => ?_)
  clear hK KQ hHeld
  have hHeld := hHeld2
  clear hHeld2
  try simp only [Act.put, List.getElem_toArray, List.getElem_cons_succ, List.getElem_cons_zero, List.setIfInBounds_toArray, List.set_cons_succ, List.set_cons_zero]
  refine wpAnyH_take (i := 5) (v := ?_) rfl (by kernel_rfl) (by kernel_rfl) (by kernel_rfl) (fun _ _ _ h => h) (Or.inl ⟨by rfl, ?_⟩) (by assumption) ?_
  rotate_left
  · (intro w hSw; (try dsimp only at hSw); go_simp; try (with_reducible rfl))
  try simp only [Act.put, List.getElem_toArray, List.getElem_cons_succ, List.getElem_cons_zero, List.setIfInBounds_toArray, List.set_cons_succ, List.set_cons_zero]
  refine wpAnyH_ready (rs := [6]) (by kernel_rfl) (by simp) ?_
  refine AllReadyH.cons rfl (fun KQ hK => ?_) AllReadyH.nil
  go_simp
  refine (l02At_g p5 p7 p9 _ (by omega) (by omega) _).mono ?_
  rintro e w_11 ⟨px, py, rfl, hq⟩
  have t1' := Tch.of_below hq 0 0
  have t1 : Tch b (b + 1) w_10 w_11 := Tch.of_below hq _ _
  clear hq
  replace HS := hide (Src.keep HS.out (fun g hg => (Tch.block (lo := 0) (hi := 0) t1' g (by have := HS.out.lt; omega) (by omega))))
  have hs_w_11 : w_10.heap.size ≤ w_11.heap.size := t1.size
  replace bP := bP.tch t1 (by omega) (by omega)
  replace fP := fP.tch t1 (by omega) (by omega)
  replace bQ := bQ.tch t1 (by omega) (by omega)
  replace fQ := fQ.tch t1 (by omega) (by omega)
  replace bA := bA.tch t1 (by omega) (by omega)
  replace fA := fA.tch t1 (by omega) (by omega)
  replace bB := bB.tch t1 (by omega) (by omega)
  replace fB := fB.tch t1 (by omega) (by omega)
  replace HT := hide (HT.out.trans t1)
  clear t1
  have lB1 := bB 1 _ rfl
  have lB2 := bB 2 _ rfl
  have mB1 := fB 1
  have mB2 := fB 2
  refine hK.out _ _ (⟨bA 1 _ rfl, bA 2 _ rfl⟩) (fun hHeld2 => ?_)
  clear hK KQ hHeld
  have hHeld := hHeld2
  clear hHeld2
  try simp only [Act.put, List.getElem_toArray, List.getElem_cons_succ, List.getElem_cons_zero, List.setIfInBounds_toArray, List.set_cons_succ, List.set_cons_zero]
  refine wpAnyH_take (i := 7) (v := ?_) rfl (by kernel_rfl) (by kernel_rfl) (by kernel_rfl) (fun _ _ _ h => h) (Or.inl ⟨by rfl, ?_⟩) (by assumption) ?_
  rotate_left
  · (intro w hSw; (try dsimp only at hSw); go_simp; try (with_reducible rfl))
  try simp only [Act.put, List.getElem_toArray, List.getElem_cons_succ, List.getElem_cons_zero, List.setIfInBounds_toArray, List.set_cons_succ, List.set_cons_zero]
  refine wpAnyH_ready (rs := [8]) (by kernel_rfl) (by simp) ?_
  refine AllReadyH.cons rfl (fun KQ hK => ?_) AllReadyH.nil
  go_simp
  refine hK.out _ _ (⟨far_c (far_c (bA 1 _ rfl) (by omega)) (by omega), far_c (far_c (bA 2 _ rfl) (by omega)) (by omega)⟩) (fun hHeld2 => ?_)
  clear hK KQ hHeld
  have hHeld := hHeld2
  clear hHeld2
  try simp only [Act.put, List.getElem_toArray, List.getElem_cons_succ, List.getElem_cons_zero, List.setIfInBounds_toArray, List.set_cons_succ, List.set_cons_zero]
  refine wpAnyH_done (by kernel_rfl) ?_ _
  clear lB1 lB2 mB1 mB2
  clear t1'
  clear hHeld
  obtain ⟨w_12, hW⟩ : ∃ W : World, W = w_11.setCell ⟨w_3.heap.size, 1, none⟩ (.int .i64 px) := ⟨_, rfl⟩
  rw [← hW]
  have hs_w_12 : w_12.heap.size = w_11.heap.size := by rw [hW]; simp [World.setCell]
  replace bP : Box w_12 w.heap.size [.string ⟨#[]⟩, .int .i64 0, .int .i64 0, .int .i64 0, .int .i64 0, .int .i64 0, .slice none 0 0] := by rw [hW]; exact bP.far _ _ (by show w_3.heap.size ≠ w.heap.size; omega)
  replace fP : Fz w_12 w.heap.size := by rw [hW]; exact fP.set _ _
  replace bQ : Box w_12 (w.heap.size + 1) [.string ⟨#[]⟩, .int .i64 0, .int .i64 0, .int .i64 0, .int .i64 0, .int .i64 0, .slice none 0 0] := by rw [hW]; exact bQ.far _ _ (by show w_3.heap.size ≠ (w.heap.size + 1); omega)
  replace fQ : Fz w_12 (w.heap.size + 1) := by rw [hW]; exact fQ.set _ _
  replace bA : Box w_12 w_1.heap.size [.string na, .int .i64 p5, .int .i64 p7, .int .i64 h1, .int .i64 j1, .int .i64 b1, .slice A1 n1 c1] := by rw [hW]; exact bA.far _ _ (by show w_3.heap.size ≠ w_1.heap.size; omega)
  replace fA : Fz w_12 w_1.heap.size := by rw [hW]; exact fA.set _ _
  replace bB : Box w_12 w_3.heap.size [.string nb, .int .i64 px, .int .i64 y2, .int .i64 h2, .int .i64 j2, .int .i64 b2, .slice A2 n2 c2] := by rw [hW]; exact bB.put 1 _ (by simp)
  replace fB : Fz w_12 w_3.heap.size := by rw [hW]; exact fB.set _ _
  replace HS := hide (show Src w_12 b (K + 88) by rw [hW]; exact HS.out.setNew (by omega) _ _)
  replace HT := hide (show Tch b (b + 1) w w_12 by rw [hW]; exact HT.out.setNew (by omega) _ _)
  clear hW
  obtain ⟨w_13, hW⟩ : ∃ W : World, W = w_12.setCell ⟨w_3.heap.size, 2, none⟩ (.int .i64 py) := ⟨_, rfl⟩
  rw [← hW]
  have hs_w_13 : w_13.heap.size = w_12.heap.size := by rw [hW]; simp [World.setCell]
  replace bP : Box w_13 w.heap.size [.string ⟨#[]⟩, .int .i64 0, .int .i64 0, .int .i64 0, .int .i64 0, .int .i64 0, .slice none 0 0] := by rw [hW]; exact bP.far _ _ (by show w_3.heap.size ≠ w.heap.size; omega)
  replace fP : Fz w_13 w.heap.size := by rw [hW]; exact fP.set _ _
  replace bQ : Box w_13 (w.heap.size + 1) [.string ⟨#[]⟩, .int .i64 0, .int .i64 0, .int .i64 0, .int .i64 0, .int .i64 0, .slice none 0 0] := by rw [hW]; exact bQ.far _ _ (by show w_3.heap.size ≠ (w.heap.size + 1); omega)
  replace fQ : Fz w_13 (w.heap.size + 1) := by rw [hW]; exact fQ.set _ _
  replace bA : Box w_13 w_1.heap.size [.string na, .int .i64 p5, .int .i64 p7, .int .i64 h1, .int .i64 j1, .int .i64 b1, .slice A1 n1 c1] := by rw [hW]; exact bA.far _ _ (by show w_3.heap.size ≠ w_1.heap.size; omega)
  replace fA : Fz w_13 w_1.heap.size := by rw [hW]; exact fA.set _ _
  replace bB : Box w_13 w_3.heap.size [.string nb, .int .i64 px, .int .i64 py, .int .i64 h2, .int .i64 j2, .int .i64 b2, .slice A2 n2 c2] := by rw [hW]; exact bB.put 2 _ (by simp)
  replace fB : Fz w_13 w_3.heap.size := by rw [hW]; exact fB.set _ _
  replace HS := hide (show Src w_13 b (K + 88) by rw [hW]; exact HS.out.setNew (by omega) _ _)
  replace HT := hide (show Tch b (b + 1) w w_13 by rw [hW]; exact HT.out.setNew (by omega) _ _)
  clear hW
  go_wp2_with fail
  refine (one_any b (K + 88) 2 (by omega) (by omega) (by omega) _ HS.out).mono ?_
  rintro e w_14 ⟨p14, rfl, S1, t1⟩
  replace HS := hide S1
  clear S1
  have hs_w_14 : w_13.heap.size ≤ w_14.heap.size := t1.size
  replace bP := bP.tch t1 (by omega) (by omega)
  replace fP := fP.tch t1 (by omega) (by omega)
  replace bQ := bQ.tch t1 (by omega) (by omega)
  replace fQ := fQ.tch t1 (by omega) (by omega)
  replace bA := bA.tch t1 (by omega) (by omega)
  replace fA := fA.tch t1 (by omega) (by omega)
  replace bB := bB.tch t1 (by omega) (by omega)
  replace fB := fB.tch t1 (by omega) (by omega)
  replace HT := hide (HT.out.trans t1)
  clear t1
  cases p14
  · have lA0 := bA 0 _ rfl
    have lA1 := bA 1 _ rfl
    have lA2 := bA 2 _ rfl
    have lA3 := bA 3 _ rfl
    have lA4 := bA 4 _ rfl
    have lA5 := bA 5 _ rfl
    have lA6 := bA 6 _ rfl
    have lB0 := bB 0 _ rfl
    have lB1 := bB 1 _ rfl
    have lB2 := bB 2 _ rfl
    have lB3 := bB 3 _ rfl
    have lB4 := bB 4 _ rfl
    have lB5 := bB 5 _ rfl
    have lB6 := bB 6 _ rfl
    have lP0 := bP 0 _ rfl
    have lP1 := bP 1 _ rfl
    have lP2 := bP 2 _ rfl
    have lP3 := bP 3 _ rfl
    have lP4 := bP 4 _ rfl
    have lP5 := bP 5 _ rfl
    have lP6 := bP 6 _ rfl
    have mP0 := fP 0
    have mP1 := fP 1
    have mP2 := fP 2
    have mP3 := fP 3
    have mP4 := fP 4
    have mP5 := fP 5
    have mP6 := fP 6
    have lQ0 := bQ 0 _ rfl
    have lQ1 := bQ 1 _ rfl
    have lQ2 := bQ 2 _ rfl
    have lQ3 := bQ 3 _ rfl
    have lQ4 := bQ 4 _ rfl
    have lQ5 := bQ 5 _ rfl
    have lQ6 := bQ 6 _ rfl
    have mQ0 := fQ 0
    have mQ1 := fQ 1
    have mQ2 := fQ 2
    have mQ3 := fQ 3
    have mQ4 := fQ 4
    have mQ5 := fQ 5
    have mQ6 := fQ 6
    go_wp2_with fail
    go_region
    all_goals (try go_wp2_with fail)
    obtain ⟨wz, hwz⟩ : ∃ W : World, W = ((((((((((((((w_14.setCell ⟨w.heap.size, 0, none⟩ (.string na)).setCell ⟨w.heap.size, 1, none⟩ (.int .i64 p5)).setCell ⟨w.heap.size, 2, none⟩ (.int .i64 p7)).setCell ⟨w.heap.size, 3, none⟩ (.int .i64 h1)).setCell ⟨w.heap.size, 4, none⟩ (.int .i64 j1)).setCell ⟨w.heap.size, 5, none⟩ (.int .i64 b1)).setCell ⟨w.heap.size, 6, none⟩ (.slice A1 n1 c1)).setCell ⟨(w.heap.size + 1), 0, none⟩ (.string nb)).setCell ⟨(w.heap.size + 1), 1, none⟩ (.int .i64 px)).setCell ⟨(w.heap.size + 1), 2, none⟩ (.int .i64 py)).setCell ⟨(w.heap.size + 1), 3, none⟩ (.int .i64 h2)).setCell ⟨(w.heap.size + 1), 4, none⟩ (.int .i64 j2)).setCell ⟨(w.heap.size + 1), 5, none⟩ (.int .i64 b2)).setCell ⟨(w.heap.size + 1), 6, none⟩ (.slice A2 n2 c2)) := ⟨_, rfl⟩
    rw [← hwz]
    have zP : Box wz w.heap.size [.string na, .int .i64 p5, .int .i64 p7, .int .i64 h1, .int .i64 j1, .int .i64 b1, .slice A1 n1 c1] := by rw [hwz]; exact ((((((((((((((bP.put 0 _ (by simp)).put 1 _ (by simp)).put 2 _ (by simp)).put 3 _ (by simp)).put 4 _ (by simp)).put 5 _ (by simp)).put 6 _ (by simp)).far _ _ (by show (w.heap.size + 1) ≠ w.heap.size; omega)).far _ _ (by show (w.heap.size + 1) ≠ w.heap.size; omega)).far _ _ (by show (w.heap.size + 1) ≠ w.heap.size; omega)).far _ _ (by show (w.heap.size + 1) ≠ w.heap.size; omega)).far _ _ (by show (w.heap.size + 1) ≠ w.heap.size; omega)).far _ _ (by show (w.heap.size + 1) ≠ w.heap.size; omega)).far _ _ (by show (w.heap.size + 1) ≠ w.heap.size; omega))
    have zQ : Box wz (w.heap.size + 1) [.string nb, .int .i64 px, .int .i64 py, .int .i64 h2, .int .i64 j2, .int .i64 b2, .slice A2 n2 c2] := by rw [hwz]; exact ((((((((((((((bQ.far _ _ (by show w.heap.size ≠ (w.heap.size + 1); omega)).far _ _ (by show w.heap.size ≠ (w.heap.size + 1); omega)).far _ _ (by show w.heap.size ≠ (w.heap.size + 1); omega)).far _ _ (by show w.heap.size ≠ (w.heap.size + 1); omega)).far _ _ (by show w.heap.size ≠ (w.heap.size + 1); omega)).far _ _ (by show w.heap.size ≠ (w.heap.size + 1); omega)).far _ _ (by show w.heap.size ≠ (w.heap.size + 1); omega)).put 0 _ (by simp)).put 1 _ (by simp)).put 2 _ (by simp)).put 3 _ (by simp)).put 4 _ (by simp)).put 5 _ (by simp)).put 6 _ (by simp))
    have HSz := hide (show Src wz b (K + 90) by rw [hwz]; exact ((((((((((((((HS.out.setNew (by omega) _ _).setNew (by omega) _ _).setNew (by omega) _ _).setNew (by omega) _ _).setNew (by omega) _ _).setNew (by omega) _ _).setNew (by omega) _ _).setNew (by omega) _ _).setNew (by omega) _ _).setNew (by omega) _ _).setNew (by omega) _ _).setNew (by omega) _ _).setNew (by omega) _ _).setNew (by omega) _ _))
    have HTz := hide (show Tch b (b + 1) w wz by rw [hwz]; exact ((((((((((((((HT.out.setNew (by omega) _ _).setNew (by omega) _ _).setNew (by omega) _ _).setNew (by omega) _ _).setNew (by omega) _ _).setNew (by omega) _ _).setNew (by omega) _ _).setNew (by omega) _ _).setNew (by omega) _ _).setNew (by omega) _ _).setNew (by omega) _ _).setNew (by omega) _ _).setNew (by omega) _ _).setNew (by omega) _ _))
    clear hwz
    clear lA0 lA1 lA2 lA3 lA4 lA5 lA6
    clear lB0 lB1 lB2 lB3 lB4 lB5 lB6
    clear lP0 lP1 lP2 lP3 lP4 lP5 lP6 mP0 mP1 mP2 mP3 mP4 mP5 mP6
    clear lQ0 lQ1 lQ2 lQ3 lQ4 lQ5 lQ6 mQ0 mQ1 mQ2 mQ3 mQ4 mQ5 mQ6
    have zP0 := zP 0 _ rfl
    have zQ0 := zQ 0 _ rfl
    have zP1 := zP 1 _ rfl
    have zQ1 := zQ 1 _ rfl
    have zP2 := zP 2 _ rfl
    have zQ2 := zQ 2 _ rfl
    have zP3 := zP 3 _ rfl
    have zQ3 := zQ 3 _ rfl
    have zP4 := zP 4 _ rfl
    have zQ4 := zQ 4 _ rfl
    have zP5 := zP 5 _ rfl
    have zQ5 := zQ 5 _ rfl
    have zP6 := zP 6 _ rfl
    have zQ6 := zQ 6 _ rfl
    refine bodyPost_ret (v := .tuple #[.agg #[.string na, .int .i64 p5, .int .i64 p7, .int .i64 h1, .int .i64 j1, .int .i64 b1, .slice A1 n1 c1], .agg #[.string nb, .int .i64 px, .int .i64 py, .int .i64 h2, .int .i64 j2, .int .i64 b2, .slice A2 n2 c2]]) (by simp [results, Try.results60, go_sem, dcell2, zP0, zP1, zP2, zP3, zP4, zP5, zP6, zQ0, zQ1, zQ2, zQ3, zQ4, zQ5, zQ6]) rfl ⟨_, _, _, _, _, _, _, _, _, _, _, _, _, _, _, _, _, _, rfl, HSz.out.drew.mono (by omega), HTz.out.drew_⟩
  · go_wp2_with fail
    have hdz : (World.drew w_14).heap.size = w_14.heap.size := rfl
    replace bP : Box (World.drew w_14) w.heap.size [.string ⟨#[]⟩, .int .i64 0, .int .i64 0, .int .i64 0, .int .i64 0, .int .i64 0, .slice none 0 0] := bP
    replace fP : Fz (World.drew w_14) w.heap.size := fP
    replace bQ : Box (World.drew w_14) (w.heap.size + 1) [.string ⟨#[]⟩, .int .i64 0, .int .i64 0, .int .i64 0, .int .i64 0, .int .i64 0, .slice none 0 0] := bQ
    replace fQ : Fz (World.drew w_14) (w.heap.size + 1) := fQ
    replace bA : Box (World.drew w_14) w_1.heap.size [.string na, .int .i64 p5, .int .i64 p7, .int .i64 h1, .int .i64 j1, .int .i64 b1, .slice A1 n1 c1] := bA
    replace fA : Fz (World.drew w_14) w_1.heap.size := fA
    replace bB : Box (World.drew w_14) w_3.heap.size [.string nb, .int .i64 px, .int .i64 py, .int .i64 h2, .int .i64 j2, .int .i64 b2, .slice A2 n2 c2] := bB
    replace fB : Fz (World.drew w_14) w_3.heap.size := fB
    replace HS := hide (show Src (World.drew w_14) b (K + 90) from HS.out.drew)
    replace HT := hide (show Tch b (b + 1) w (World.drew w_14) from HT.out.drew_)
    refine wp_region_held_drew (S := fun W => W.cell? ⟨w_1.heap.size, 3, none⟩ = some (.int .i64 h1)) (by kernel_rfl) (bA 3 _ rfl) (fun hHeld => ?_)
    try simp only [Array.replicate, List.replicate]
    refine wpAnyH_take (i := 0) (v := ?_) rfl (by kernel_rfl) (by kernel_rfl) (by kernel_rfl) (fun _ _ _ h => h) (Or.inl ⟨by rfl, ?_⟩) (by assumption) ?_
    rotate_left
    · (intro w hSw; (try dsimp only at hSw); go_simp; try (with_reducible rfl))
    try simp only [Act.put, List.getElem_toArray, List.getElem_cons_succ, List.getElem_cons_zero, List.setIfInBounds_toArray, List.set_cons_succ, List.set_cons_zero]
    refine wpAnyH_take (i := 1) (v := ?_) rfl (by kernel_rfl) (by kernel_rfl) (by kernel_rfl) (fun _ _ _ h => h) (Or.inl ⟨by rfl, ?_⟩) (by assumption) ?_
    rotate_left
    · (intro w hSw; (try dsimp only at hSw); go_simp; try (with_reducible rfl))
    try simp only [Act.put, List.getElem_toArray, List.getElem_cons_succ, List.getElem_cons_zero, List.setIfInBounds_toArray, List.set_cons_succ, List.set_cons_zero]
    refine wpAnyH_take (i := 2) (v := ?_) rfl (by kernel_rfl) (by kernel_rfl) (by kernel_rfl) (fun _ _ _ h => h) (Or.inl ⟨by rfl, ?_⟩) (by assumption) ?_
    rotate_left
    · (intro w hSw; (try dsimp only at hSw); go_simp; try (with_reducible rfl))
    try simp only [Act.put, List.getElem_toArray, List.getElem_cons_succ, List.getElem_cons_zero, List.setIfInBounds_toArray, List.set_cons_succ, List.set_cons_zero]
    refine wpAnyH_ready (rs := [3]) (by kernel_rfl) (by simp) ?_
    refine AllReadyH.cons rfl (fun KQ hK => ?_) AllReadyH.nil
    go_simp
    refine (pick_any b (K + 90) 161 (by omega) (by omega) (by omega) _ HS.out).mono ?_
    rintro e w_15 ⟨p15, rfl, p15a, p15b, S1, t1⟩
    replace HS := hide S1
    clear S1
    have hs_w_15 : (World.drew w_14).heap.size ≤ w_15.heap.size := t1.size
    replace bP := bP.tch t1 (by omega) (by omega)
    replace fP := fP.tch t1 (by omega) (by omega)
    replace bQ := bQ.tch t1 (by omega) (by omega)
    replace fQ := fQ.tch t1 (by omega) (by omega)
    replace bA := bA.tch t1 (by omega) (by omega)
    replace fA := fA.tch t1 (by omega) (by omega)
    replace bB := bB.tch t1 (by omega) (by omega)
    replace fB := fB.tch t1 (by omega) (by omega)
    replace HT := hide (HT.out.trans t1)
    clear t1
    have lB3 := bB 3 _ rfl
    have mB3 := fB 3
    refine hK.out _ _ (bA 3 _ rfl) (fun hHeld2 => ?_)
    clear hK KQ hHeld
    have hHeld := hHeld2
    clear hHeld2
    try simp only [Act.put, List.getElem_toArray, List.getElem_cons_succ, List.getElem_cons_zero, List.setIfInBounds_toArray, List.set_cons_succ, List.set_cons_zero]
    refine wpAnyH_take (i := 4) (v := ?_) rfl (by kernel_rfl) (by kernel_rfl) (by kernel_rfl) (fun _ _ _ h => h) (Or.inl ⟨by rfl, ?_⟩) (by assumption) ?_
    rotate_left
    · (intro w hSw; (try dsimp only at hSw); go_simp; try (with_reducible rfl))
    try simp only [Act.put, List.getElem_toArray, List.getElem_cons_succ, List.getElem_cons_zero, List.setIfInBounds_toArray, List.set_cons_succ, List.set_cons_zero]
    refine wpAnyH_take (i := 5) (v := ?_) rfl (by kernel_rfl) (by kernel_rfl) (by kernel_rfl) (fun _ _ _ h => h) (Or.inl ⟨by rfl, ?_⟩) (by assumption) ?_
    rotate_left
    · (intro w hSw; (try dsimp only at hSw); go_simp; try (with_reducible rfl))
    try simp only [Act.put, List.getElem_toArray, List.getElem_cons_succ, List.getElem_cons_zero, List.setIfInBounds_toArray, List.set_cons_succ, List.set_cons_zero]
    refine wpAnyH_take (i := 6) (v := ?_) rfl (by kernel_rfl) (by kernel_rfl) (by kernel_rfl) (fun _ _ _ h => h) (Or.inl ⟨by rfl, ?_⟩) (by assumption) ?_
    rotate_left
    · (intro w hSw; (try dsimp only at hSw); go_simp; try (with_reducible rfl))
    try simp only [Act.put, List.getElem_toArray, List.getElem_cons_succ, List.getElem_cons_zero, List.setIfInBounds_toArray, List.set_cons_succ, List.set_cons_zero]
    refine wpAnyH_ready (rs := [7]) (by kernel_rfl) (by simp) ?_
    refine AllReadyH.cons rfl (fun KQ hK => ?_) AllReadyH.nil
    go_simp
    refine hK.out _ _ (far_c (bA 3 _ rfl) (by omega)) (fun hHeld2 => ?_)
    clear hK KQ hHeld
    have hHeld := hHeld2
    clear hHeld2
    try simp only [Act.put, List.getElem_toArray, List.getElem_cons_succ, List.getElem_cons_zero, List.setIfInBounds_toArray, List.set_cons_succ, List.set_cons_zero]
    refine wpAnyH_done (by kernel_rfl) ?_ _
    clear lB3 mB3
    clear hHeld
    obtain ⟨hz, hhz⟩ : ∃ z : Int, z = IntKind.i64.wrap (IntKind.i64.wrap (h1 + p15) - 80) := ⟨_, rfl⟩
    try rw [← hhz]
    clear hhz
    obtain ⟨w_16, hW⟩ : ∃ W : World, W = w_15.setCell ⟨w_3.heap.size, 3, none⟩ (.int .i64 hz) := ⟨_, rfl⟩
    rw [← hW]
    have hs_w_16 : w_16.heap.size = w_15.heap.size := by rw [hW]; simp [World.setCell]
    replace bP : Box w_16 w.heap.size [.string ⟨#[]⟩, .int .i64 0, .int .i64 0, .int .i64 0, .int .i64 0, .int .i64 0, .slice none 0 0] := by rw [hW]; exact bP.far _ _ (by show w_3.heap.size ≠ w.heap.size; omega)
    replace fP : Fz w_16 w.heap.size := by rw [hW]; exact fP.set _ _
    replace bQ : Box w_16 (w.heap.size + 1) [.string ⟨#[]⟩, .int .i64 0, .int .i64 0, .int .i64 0, .int .i64 0, .int .i64 0, .slice none 0 0] := by rw [hW]; exact bQ.far _ _ (by show w_3.heap.size ≠ (w.heap.size + 1); omega)
    replace fQ : Fz w_16 (w.heap.size + 1) := by rw [hW]; exact fQ.set _ _
    replace bA : Box w_16 w_1.heap.size [.string na, .int .i64 p5, .int .i64 p7, .int .i64 h1, .int .i64 j1, .int .i64 b1, .slice A1 n1 c1] := by rw [hW]; exact bA.far _ _ (by show w_3.heap.size ≠ w_1.heap.size; omega)
    replace fA : Fz w_16 w_1.heap.size := by rw [hW]; exact fA.set _ _
    replace bB : Box w_16 w_3.heap.size [.string nb, .int .i64 px, .int .i64 py, .int .i64 hz, .int .i64 j2, .int .i64 b2, .slice A2 n2 c2] := by rw [hW]; exact bB.put 3 _ (by simp)
    replace fB : Fz w_16 w_3.heap.size := by rw [hW]; exact fB.set _ _
    replace HS := hide (show Src w_16 b (K + 92) by rw [hW]; exact HS.out.setNew (by omega) _ _)
    replace HT := hide (show Tch b (b + 1) w w_16 by rw [hW]; exact HT.out.setNew (by omega) _ _)
    clear hW
    have lA0 := bA 0 _ rfl
    have lA1 := bA 1 _ rfl
    have lA2 := bA 2 _ rfl
    have lA3 := bA 3 _ rfl
    have lA4 := bA 4 _ rfl
    have lA5 := bA 5 _ rfl
    have lA6 := bA 6 _ rfl
    have lB0 := bB 0 _ rfl
    have lB1 := bB 1 _ rfl
    have lB2 := bB 2 _ rfl
    have lB3 := bB 3 _ rfl
    have lB4 := bB 4 _ rfl
    have lB5 := bB 5 _ rfl
    have lB6 := bB 6 _ rfl
    have lP0 := bP 0 _ rfl
    have lP1 := bP 1 _ rfl
    have lP2 := bP 2 _ rfl
    have lP3 := bP 3 _ rfl
    have lP4 := bP 4 _ rfl
    have lP5 := bP 5 _ rfl
    have lP6 := bP 6 _ rfl
    have mP0 := fP 0
    have mP1 := fP 1
    have mP2 := fP 2
    have mP3 := fP 3
    have mP4 := fP 4
    have mP5 := fP 5
    have mP6 := fP 6
    have lQ0 := bQ 0 _ rfl
    have lQ1 := bQ 1 _ rfl
    have lQ2 := bQ 2 _ rfl
    have lQ3 := bQ 3 _ rfl
    have lQ4 := bQ 4 _ rfl
    have lQ5 := bQ 5 _ rfl
    have lQ6 := bQ 6 _ rfl
    have mQ0 := fQ 0
    have mQ1 := fQ 1
    have mQ2 := fQ 2
    have mQ3 := fQ 3
    have mQ4 := fQ 4
    have mQ5 := fQ 5
    have mQ6 := fQ 6
    go_wp2_with fail
    go_region
    all_goals (try go_wp2_with fail)
    obtain ⟨wz, hwz⟩ : ∃ W : World, W = ((((((((((((((w_16.setCell ⟨w.heap.size, 0, none⟩ (.string na)).setCell ⟨w.heap.size, 1, none⟩ (.int .i64 p5)).setCell ⟨w.heap.size, 2, none⟩ (.int .i64 p7)).setCell ⟨w.heap.size, 3, none⟩ (.int .i64 h1)).setCell ⟨w.heap.size, 4, none⟩ (.int .i64 j1)).setCell ⟨w.heap.size, 5, none⟩ (.int .i64 b1)).setCell ⟨w.heap.size, 6, none⟩ (.slice A1 n1 c1)).setCell ⟨(w.heap.size + 1), 0, none⟩ (.string nb)).setCell ⟨(w.heap.size + 1), 1, none⟩ (.int .i64 px)).setCell ⟨(w.heap.size + 1), 2, none⟩ (.int .i64 py)).setCell ⟨(w.heap.size + 1), 3, none⟩ (.int .i64 hz)).setCell ⟨(w.heap.size + 1), 4, none⟩ (.int .i64 j2)).setCell ⟨(w.heap.size + 1), 5, none⟩ (.int .i64 b2)).setCell ⟨(w.heap.size + 1), 6, none⟩ (.slice A2 n2 c2)) := ⟨_, rfl⟩
    rw [← hwz]
    have zP : Box wz w.heap.size [.string na, .int .i64 p5, .int .i64 p7, .int .i64 h1, .int .i64 j1, .int .i64 b1, .slice A1 n1 c1] := by rw [hwz]; exact ((((((((((((((bP.put 0 _ (by simp)).put 1 _ (by simp)).put 2 _ (by simp)).put 3 _ (by simp)).put 4 _ (by simp)).put 5 _ (by simp)).put 6 _ (by simp)).far _ _ (by show (w.heap.size + 1) ≠ w.heap.size; omega)).far _ _ (by show (w.heap.size + 1) ≠ w.heap.size; omega)).far _ _ (by show (w.heap.size + 1) ≠ w.heap.size; omega)).far _ _ (by show (w.heap.size + 1) ≠ w.heap.size; omega)).far _ _ (by show (w.heap.size + 1) ≠ w.heap.size; omega)).far _ _ (by show (w.heap.size + 1) ≠ w.heap.size; omega)).far _ _ (by show (w.heap.size + 1) ≠ w.heap.size; omega))
    have zQ : Box wz (w.heap.size + 1) [.string nb, .int .i64 px, .int .i64 py, .int .i64 hz, .int .i64 j2, .int .i64 b2, .slice A2 n2 c2] := by rw [hwz]; exact ((((((((((((((bQ.far _ _ (by show w.heap.size ≠ (w.heap.size + 1); omega)).far _ _ (by show w.heap.size ≠ (w.heap.size + 1); omega)).far _ _ (by show w.heap.size ≠ (w.heap.size + 1); omega)).far _ _ (by show w.heap.size ≠ (w.heap.size + 1); omega)).far _ _ (by show w.heap.size ≠ (w.heap.size + 1); omega)).far _ _ (by show w.heap.size ≠ (w.heap.size + 1); omega)).far _ _ (by show w.heap.size ≠ (w.heap.size + 1); omega)).put 0 _ (by simp)).put 1 _ (by simp)).put 2 _ (by simp)).put 3 _ (by simp)).put 4 _ (by simp)).put 5 _ (by simp)).put 6 _ (by simp))
    have HSz := hide (show Src wz b (K + 92) by rw [hwz]; exact ((((((((((((((HS.out.setNew (by omega) _ _).setNew (by omega) _ _).setNew (by omega) _ _).setNew (by omega) _ _).setNew (by omega) _ _).setNew (by omega) _ _).setNew (by omega) _ _).setNew (by omega) _ _).setNew (by omega) _ _).setNew (by omega) _ _).setNew (by omega) _ _).setNew (by omega) _ _).setNew (by omega) _ _).setNew (by omega) _ _))
    have HTz := hide (show Tch b (b + 1) w wz by rw [hwz]; exact ((((((((((((((HT.out.setNew (by omega) _ _).setNew (by omega) _ _).setNew (by omega) _ _).setNew (by omega) _ _).setNew (by omega) _ _).setNew (by omega) _ _).setNew (by omega) _ _).setNew (by omega) _ _).setNew (by omega) _ _).setNew (by omega) _ _).setNew (by omega) _ _).setNew (by omega) _ _).setNew (by omega) _ _).setNew (by omega) _ _))
    clear hwz
    clear lA0 lA1 lA2 lA3 lA4 lA5 lA6
    clear lB0 lB1 lB2 lB3 lB4 lB5 lB6
    clear lP0 lP1 lP2 lP3 lP4 lP5 lP6 mP0 mP1 mP2 mP3 mP4 mP5 mP6
    clear lQ0 lQ1 lQ2 lQ3 lQ4 lQ5 lQ6 mQ0 mQ1 mQ2 mQ3 mQ4 mQ5 mQ6
    have zP0 := zP 0 _ rfl
    have zQ0 := zQ 0 _ rfl
    have zP1 := zP 1 _ rfl
    have zQ1 := zQ 1 _ rfl
    have zP2 := zP 2 _ rfl
    have zQ2 := zQ 2 _ rfl
    have zP3 := zP 3 _ rfl
    have zQ3 := zQ 3 _ rfl
    have zP4 := zP 4 _ rfl
    have zQ4 := zQ 4 _ rfl
    have zP5 := zP 5 _ rfl
    have zQ5 := zQ 5 _ rfl
    have zP6 := zP 6 _ rfl
    have zQ6 := zQ 6 _ rfl
    refine bodyPost_ret (v := .tuple #[.agg #[.string na, .int .i64 p5, .int .i64 p7, .int .i64 h1, .int .i64 j1, .int .i64 b1, .slice A1 n1 c1], .agg #[.string nb, .int .i64 px, .int .i64 py, .int .i64 hz, .int .i64 j2, .int .i64 b2, .slice A2 n2 c2]]) (by simp [results, Try.results60, go_sem, dcell2, zP0, zP1, zP2, zP3, zP4, zP5, zP6, zQ0, zQ1, zQ2, zQ3, zQ4, zQ5, zQ6]) rfl ⟨_, _, _, _, _, _, _, _, _, _, _, _, _, _, _, _, _, _, rfl, HSz.out.drew.mono (by omega), HTz.out.drew_⟩


end Go.Proofs.Ytoklcjpokffocaa
