/-
  A TABLE AND TWO MOTIONS as the reference draws them. What is drawn is left open, but for its form. No condition but those that each theorem names.
-/
import Derived.Test.YtoklcjpokffocaaMDr2
import Derived.Test.YtoklcjpokffocaaPair
namespace Go.Proofs.Ytoklcjpokffocaa
open Go.RowKit
set_option linter.unusedVariables false
set_option linter.unusedSimpArgs false

theorem Rd.set {w : World} {lo hi m n g : Nat} {A : Option Addr} {us : List Value} (h : Rd w lo hi m A n us) (hg : g < lo ∨ hi ≤ g) (j : Nat) (u : Value) : Rd (w.setCell ⟨g, j, none⟩ u) lo hi m A n us := h.keep fun p h1 h2 => World.cell?_setCell_far _ _ _ _ (by show g ≠ p.block; omega)

set_option maxRecDepth 100000 in
set_option maxHeartbeats 2000000 in
theorem l16Three_g (A : Option Addr) (n c hi : Nat) (bs : List Value) (hn : n ≤ maxLen) (w : World) (h : Rd w 0 hi 1 A n bs) (hhi : hi ≤ w.heap.size) (hv : ∀ v ∈ bs, ∃ x : Int, v = .int .u8 x ∧ 0 ≤ x ∧ x ≤ 255) :
    Calls Try.prog 18 #[.slice A n c] w fun e w' => ∃ (v : Value) (sa : Int) (la : List Int) (na : Nat) (Aa : Option Addr) (ca : Nat) (sb : Int) (lb : List Int) (nb : Nat) (Ab : Option Addr) (cb : Nat), e = .returned (.tuple #[v, .agg #[.int .i64 sa, .slice Aa na ca], .agg #[.int .i64 sb, .slice Ab nb cb]]) ∧ la.length = na ∧ na ≤ 300 ∧ Rd w' w.heap.size w'.heap.size 1 Aa na (rInt64 la) ∧ lb.length = nb ∧ nb ≤ 300 ∧ Rd w' w.heap.size w'.heap.size 1 Ab nb (rInt64 lb) ∧ TabR w' w.heap.size w'.heap.size v ∧ Below w.heap.size w w' := by
  have HR := hide h
  have HV := hide hv
  have HT := hide (show Blw w w from Below.refl _ _)
  clear h hv
  go_enter Try.func18, Try.ntmps18
  go_wp2_with fail
  obtain ⟨w_1, hW⟩ : ∃ W : World, W = ((w.alloc (.cells #[.int .i64 0, .slice none 0 0] 27)).alloc (.cells #[.int .i64 0, .slice none 0 0] 27)) := ⟨_, rfl⟩
  rw [← hW]
  have hs_w_1 : w_1.heap.size = w.heap.size + 2 := by rw [hW]; simp
  have bR : Box w_1 w.heap.size [.int .i64 0, .slice none 0 0] := by rw [hW]; exact ((box_at _ _ _ _ (by simp)).alloc (by first | omega | (simp <;> omega) | simp) _)
  have fR : Fz w_1 w.heap.size := by rw [hW]; exact ((fz_at _ _ _ _ (by simp)).alloc (by first | omega | (simp <;> omega) | simp) _)
  have bP : Box w_1 (w.heap.size + 1) [.int .i64 0, .slice none 0 0] := by rw [hW]; exact (box_at _ _ _ _ (by simp))
  have fP : Fz w_1 (w.heap.size + 1) := by rw [hW]; exact (fz_at _ _ _ _ (by simp))
  replace HT := hide (show Blw w w_1 by rw [hW]; exact ((HT.out.alloc_ _).alloc_ _))
  clear hW
  refine (l00From_any A n c hi bs hn _ (HR.out.below HT.out hhi) (by omega) HV.out).mono ?_
  rintro e w_2 ⟨rfl, S1, hq1⟩
  have t1 : Tch w_1.heap.size (w_1.heap.size + 1) w_1 w_2 := Tch.of_below hq1 _ _
  clear hq1
  have hs_w_2 : w_1.heap.size ≤ w_2.heap.size := t1.size
  replace bR := bR.tch t1 (by omega) (by omega)
  replace fR := fR.tch t1 (by omega) (by omega)
  replace bP := bP.tch t1 (by omega) (by omega)
  replace fP := fP.tch t1 (by omega) (by omega)
  replace HT := hide (HT.out.thenT t1 (by omega))
  clear t1
  have HS := hide (show Src w_2 (w.heap.size + 2) 0 by rw [← hs_w_1]; exact S1)
  have hlt := HS.out.lt
  clear S1 HV HR
  go_wp2_with fail
  refine (l15Draw_g (w.heap.size + 2) 0 (by omega) _ HS.out).mono ?_
  rintro e w_3 ⟨v, rfl, hv, S1, t1⟩
  replace HS := hide S1
  clear S1
  have hs_w_3 : w_2.heap.size ≤ w_3.heap.size := t1.size
  replace bR := bR.tch t1 (by omega) (by omega)
  replace fR := fR.tch t1 (by omega) (by omega)
  replace bP := bP.tch t1 (by omega) (by omega)
  replace fP := fP.tch t1 (by omega) (by omega)
  replace HT := hide (HT.out.thenT t1 (by omega))
  clear t1
  have TA := hide hv.reg
  clear hv
  go_wp2_with fail
  refine (one_any (w.heap.size + 2) (0 + 1400) 12 (by omega) (by omega) (by omega) _ HS.out).mono ?_
  rintro e w_4 ⟨p4, rfl, S1, t1⟩
  replace HS := hide S1
  clear S1
  have hs_w_4 : w_3.heap.size ≤ w_4.heap.size := t1.size
  replace bR := bR.tch t1 (by omega) (by omega)
  replace fR := fR.tch t1 (by omega) (by omega)
  replace bP := bP.tch t1 (by omega) (by omega)
  replace fP := fP.tch t1 (by omega) (by omega)
  replace TA := hide (TA.out.tch t1 (by omega) (by omega))
  replace HT := hide (HT.out.thenT t1 (by omega))
  clear t1
  cases p4
  · go_wp2_with fail
    refine (l16Bent_g (w.heap.size + 2) (0 + 1402) (by omega) _ HS.out).mono ?_
    rintro e w_5 ⟨sa, la, na, va, rfl, hla, hna, ho, S1, t1⟩
    replace HS := hide S1
    clear S1
    have hs_w_5 : w_4.heap.size ≤ w_5.heap.size := t1.size
    replace bR := bR.tch t1 (by omega) (by omega)
    replace fR := fR.tch t1 (by omega) (by omega)
    replace bP := bP.tch t1 (by omega) (by omega)
    replace fP := fP.tch t1 (by omega) (by omega)
    replace TA := hide (TA.out.tch t1 (by omega) (by omega))
    replace HT := hide (HT.out.thenT t1 (by omega))
    clear t1
    obtain ⟨Aa, ca, rfl, _, _, hr⟩ := ho.rd
    have Ma := hide hr
    clear ho hr
    go_wp2_with fail
    obtain ⟨w_6, hW⟩ : ∃ W : World, W = (w_5.alloc (.cells #[.int .i64 sa, .slice Aa na ca] 27)) := ⟨_, rfl⟩
    rw [← hW]
    have hs_w_6 : w_6.heap.size = w_5.heap.size + 1 := by rw [hW]; simp
    replace bR : Box w_6 w.heap.size [.int .i64 0, .slice none 0 0] := by rw [hW]; exact (bR.alloc (by first | omega | (simp <;> omega) | simp) _)
    replace fR : Fz w_6 w.heap.size := by rw [hW]; exact (fR.alloc (by first | omega | (simp <;> omega) | simp) _)
    replace bP : Box w_6 (w.heap.size + 1) [.int .i64 0, .slice none 0 0] := by rw [hW]; exact (bP.alloc (by first | omega | (simp <;> omega) | simp) _)
    replace fP : Fz w_6 (w.heap.size + 1) := by rw [hW]; exact (fP.alloc (by first | omega | (simp <;> omega) | simp) _)
    replace TA := hide (show TabR w_6 w_2.heap.size w_3.heap.size v by rw [hW]; exact (TA.out.alloc (by first | omega | (simp <;> omega) | simp) _))
    replace Ma := hide (show Rd w_6 w_4.heap.size w_5.heap.size 1 Aa na (rInt64 la) by rw [hW]; exact (Ma.out.alloc (by first | omega | (simp <;> omega) | simp) _))
    have bC : Box w_6 w_5.heap.size [.int .i64 sa, .slice Aa na ca] := by rw [hW]; exact (box_at _ _ _ _ (by simp))
    have fC : Fz w_6 w_5.heap.size := by rw [hW]; exact (fz_at _ _ _ _ (by simp))
    replace HS := hide (show Src w_6 (w.heap.size + 2) (0 + 1472) by rw [hW]; exact (HS.out.alloc _))
    replace HT := hide (show Blw w w_6 by rw [hW]; exact (HT.out.alloc_ _))
    clear hW
    try go_wp2_with fail
    have hdz6 : (World.drew w_6).heap.size = w_6.heap.size := rfl
    replace bR : Box (World.drew w_6) w.heap.size [.int .i64 0, .slice none 0 0] := bR
    replace fR : Fz (World.drew w_6) w.heap.size := fR
    replace bP : Box (World.drew w_6) (w.heap.size + 1) [.int .i64 0, .slice none 0 0] := bP
    replace fP : Fz (World.drew w_6) (w.heap.size + 1) := fP
    replace bC : Box (World.drew w_6) w_5.heap.size [.int .i64 sa, .slice Aa na ca] := bC
    replace fC : Fz (World.drew w_6) w_5.heap.size := fC
    replace TA := hide (show TabR (World.drew w_6) w_2.heap.size w_3.heap.size v from TA.out.drew)
    replace Ma := hide (show Rd (World.drew w_6) w_4.heap.size w_5.heap.size 1 Aa na (rInt64 la) from Ma.out.drew)
    replace HS := hide (show Src (World.drew w_6) (w.heap.size + 2) (0 + 1472) from HS.out.drew)
    replace HT := hide (show Blw w (World.drew w_6) from HT.out.drew_)
    refine wp_region_held_drew (S := fun W => W.cell? ⟨w_5.heap.size, 0, none⟩ = some (.int .i64 sa) ∧ W.cell? ⟨w_5.heap.size, 1, none⟩ = some (.slice Aa na ca)) (by kernel_rfl) (⟨bC 0 _ rfl, bC 1 _ rfl⟩) (fun hHeld => ?_)
    try simp only [Array.replicate, List.replicate]
    refine wpAnyH_take (i := 0) (v := ?_) rfl (by kernel_rfl) (by kernel_rfl) (by kernel_rfl) (fun _ _ _ h => h) (Or.inl ⟨by rfl, ?_⟩) (by assumption) ?_
    rotate_left
    · (intro w hSw; (try dsimp only at hSw); go_simp; try (with_reducible rfl))
    try simp only [Act.put, List.getElem_toArray, List.getElem_cons_succ, List.getElem_cons_zero, List.setIfInBounds_toArray, List.set_cons_succ, List.set_cons_zero]
    refine wpAnyH_take (i := 1) (v := ?_) rfl (by kernel_rfl) (by kernel_rfl) (by kernel_rfl) (fun _ _ _ h => h) (Or.inl ⟨by rfl, ?_⟩) (by assumption) ?_
    rotate_left
    · (intro w hSw; (try dsimp only at hSw); go_simp; try (with_reducible rfl))
    try simp only [Act.put, List.getElem_toArray, List.getElem_cons_succ, List.getElem_cons_zero, List.setIfInBounds_toArray, List.set_cons_succ, List.set_cons_zero]
    refine wpAnyH_take (i := 2) (v := ?_) rfl (by kernel_rfl) (by kernel_rfl) (by kernel_rfl) (fun _ _ _ h => h) (Or.inl ⟨by rfl, ?_⟩) (by assumption) ?_
    rotate_left
    · (intro w hSw; (try dsimp only at hSw); go_simp; try (with_reducible rfl))
    try simp only [Act.put, List.getElem_toArray, List.getElem_cons_succ, List.getElem_cons_zero, List.setIfInBounds_toArray, List.set_cons_succ, List.set_cons_zero]
    refine wpAnyH_ready (rs := [3]) (by kernel_rfl) (by simp) ?_
    refine AllReadyH.cons rfl (fun KQ hK => ?_) AllReadyH.nil
    go_simp
    refine (l16Bent_g (w.heap.size + 2) (0 + 1472) (by omega) _ HS.out).mono ?_
    rintro e w_7 ⟨sb, lb, nb, vb, rfl, hlb, hnb, ho, S1, t1⟩
    replace HS := hide S1
    clear S1
    have hs_w_7 : (World.drew w_6).heap.size ≤ w_7.heap.size := t1.size
    replace bR := bR.tch t1 (by omega) (by omega)
    replace fR := fR.tch t1 (by omega) (by omega)
    replace bP := bP.tch t1 (by omega) (by omega)
    replace fP := fP.tch t1 (by omega) (by omega)
    replace bC := bC.tch t1 (by omega) (by omega)
    replace fC := fC.tch t1 (by omega) (by omega)
    replace TA := hide (TA.out.tch t1 (by omega) (by omega))
    replace Ma := hide (Ma.out.tch t1 (by omega) (by omega))
    replace HT := hide (HT.out.thenT t1 (by omega))
    clear t1
    obtain ⟨Ab, cb, rfl, _, _, hr⟩ := ho.rd
    have Mb := hide hr
    clear ho hr
    refine hK.out _ _ (⟨bC 0 _ rfl, bC 1 _ rfl⟩) (fun hHeld2 => ?_)
    clear hK KQ hHeld
    have hHeld := hHeld2
    clear hHeld2
    try simp only [Act.put, List.getElem_toArray, List.getElem_cons_succ, List.getElem_cons_zero, List.setIfInBounds_toArray, List.set_cons_succ, List.set_cons_zero]
    refine wpAnyH_take (i := 4) (v := ?_) rfl (by kernel_rfl) (by kernel_rfl) (by kernel_rfl) (fun _ _ _ h => h) (Or.inl ⟨by rfl, ?_⟩) (by assumption) ?_
    rotate_left
    · (intro w hSw; (try dsimp only at hSw); go_simp; try (with_reducible rfl))
    try simp only [Act.put, List.getElem_toArray, List.getElem_cons_succ, List.getElem_cons_zero, List.setIfInBounds_toArray, List.set_cons_succ, List.set_cons_zero]
    have lR0 := bR 0 _ rfl
    have lR1 := bR 1 _ rfl
    have mR0 := fR 0
    have mR1 := fR 1
    refine wpAnyH_ready (rs := [5]) (by kernel_rfl) (by simp) ?_
    refine AllReadyH.cons rfl (fun KQ hK => ?_) AllReadyH.nil
    go_simp
    refine hK.out _ _ (⟨far_c (far_c (bC 0 _ rfl) (by omega)) (by omega), far_c (far_c (bC 1 _ rfl) (by omega)) (by omega)⟩) (fun hHeld2 => ?_)
    clear hK KQ hHeld
    have hHeld := hHeld2
    clear hHeld2
    try simp only [Act.put, List.getElem_toArray, List.getElem_cons_succ, List.getElem_cons_zero, List.setIfInBounds_toArray, List.set_cons_succ, List.set_cons_zero]
    have lP0 := bP 0 _ rfl
    have lP1 := bP 1 _ rfl
    have mP0 := fP 0
    have mP1 := fP 1
    refine wpAnyH_ready (rs := [6]) (by kernel_rfl) (by simp) ?_
    refine AllReadyH.cons rfl (fun KQ hK => ?_) AllReadyH.nil
    go_simp
    refine hK.out _ _ (⟨far_c (far_c (far_c (far_c (bC 0 _ rfl) (by omega)) (by omega)) (by omega)) (by omega), far_c (far_c (far_c (far_c (bC 1 _ rfl) (by omega)) (by omega)) (by omega)) (by omega)⟩) (fun hHeld2 => ?_)
    clear hK KQ hHeld
    have hHeld := hHeld2
    clear hHeld2
    try simp only [Act.put, List.getElem_toArray, List.getElem_cons_succ, List.getElem_cons_zero, List.setIfInBounds_toArray, List.set_cons_succ, List.set_cons_zero]
    refine wpAnyH_done (by kernel_rfl) ?_ _
    clear lR0 lR1 mR0 mR1
    clear lP0 lP1 mP0 mP1
    clear HS hHeld
    obtain ⟨w_8, hW⟩ : ∃ W : World, W = ((w_7.setCell ⟨w.heap.size, 0, none⟩ (.int .i64 sa)).setCell ⟨w.heap.size, 1, none⟩ (.slice Aa na ca)) := ⟨_, rfl⟩
    rw [← hW]
    have hs_w_8 : w_8.heap.size = w_7.heap.size := by rw [hW]; simp [World.setCell]
    have cR : Box w_8 w.heap.size [.int .i64 sa, .slice Aa na ca] := by rw [hW]; exact ((bR.put 0 _ (by simp)).put 1 _ (by simp))
    have cP : Box w_8 (w.heap.size + 1) [.int .i64 0, .slice none 0 0] := by rw [hW]; exact ((bP.far _ _ (by show w.heap.size ≠ (w.heap.size + 1); omega)).far _ _ (by show w.heap.size ≠ (w.heap.size + 1); omega))
    have cC : Box w_8 w_5.heap.size [.int .i64 sa, .slice Aa na ca] := by rw [hW]; exact ((bC.far _ _ (by show w.heap.size ≠ w_5.heap.size; omega)).far _ _ (by show w.heap.size ≠ w_5.heap.size; omega))
    replace bR := cR
    clear cR
    replace fR : Fz w_8 w.heap.size := by rw [hW]; exact ((fR.set _ _).set _ _)
    replace bP := cP
    clear cP
    replace fP : Fz w_8 (w.heap.size + 1) := by rw [hW]; exact ((fP.set _ _).set _ _)
    replace bC := cC
    clear cC
    replace fC : Fz w_8 w_5.heap.size := by rw [hW]; exact ((fC.set _ _).set _ _)
    replace TA := hide (show TabR w_8 w_2.heap.size w_3.heap.size v by rw [hW]; exact ((TA.out.set (by omega) _ _).set (by omega) _ _))
    replace Ma := hide (show Rd w_8 w_4.heap.size w_5.heap.size 1 Aa na (rInt64 la) by rw [hW]; exact ((Ma.out.set (by omega) _ _).set (by omega) _ _))
    replace Mb := hide (show Rd w_8 (World.drew w_6).heap.size w_7.heap.size 1 Ab nb (rInt64 lb) by rw [hW]; exact ((Mb.out.set (by omega) _ _).set (by omega) _ _))
    replace HT := hide (show Blw w w_8 by rw [hW]; exact ((HT.out.setNew (by omega) _ _).setNew (by omega) _ _))
    clear hW
    obtain ⟨w_9, hW⟩ : ∃ W : World, W = w_8.setCell ⟨(w.heap.size + 1), 0, none⟩ (.int .i64 sb) := ⟨_, rfl⟩
    rw [← hW]
    have hs_w_9 : w_9.heap.size = w_8.heap.size := by rw [hW]; simp [World.setCell]
    replace bR : Box w_9 w.heap.size [.int .i64 sa, .slice Aa na ca] := by rw [hW]; exact bR.far _ _ (by show (w.heap.size + 1) ≠ w.heap.size; omega)
    replace fR : Fz w_9 w.heap.size := by rw [hW]; exact fR.set _ _
    replace bP : Box w_9 (w.heap.size + 1) [.int .i64 sb, .slice none 0 0] := by rw [hW]; exact bP.put 0 _ (by simp)
    replace fP : Fz w_9 (w.heap.size + 1) := by rw [hW]; exact fP.set _ _
    replace bC : Box w_9 w_5.heap.size [.int .i64 sa, .slice Aa na ca] := by rw [hW]; exact bC.far _ _ (by show (w.heap.size + 1) ≠ w_5.heap.size; omega)
    replace fC : Fz w_9 w_5.heap.size := by rw [hW]; exact fC.set _ _
    replace TA := hide (show TabR w_9 w_2.heap.size w_3.heap.size v by rw [hW]; exact TA.out.set (by omega) _ _)
    replace Ma := hide (show Rd w_9 w_4.heap.size w_5.heap.size 1 Aa na (rInt64 la) by rw [hW]; exact Ma.out.set (by omega) _ _)
    replace Mb := hide (show Rd w_9 (World.drew w_6).heap.size w_7.heap.size 1 Ab nb (rInt64 lb) by rw [hW]; exact Mb.out.set (by omega) _ _)
    replace HT := hide (show Blw w w_9 by rw [hW]; exact HT.out.setNew (by omega) _ _)
    clear hW
    obtain ⟨w_10, hW⟩ : ∃ W : World, W = w_9.setCell ⟨(w.heap.size + 1), 1, none⟩ (.slice Ab nb cb) := ⟨_, rfl⟩
    rw [← hW]
    have hs_w_10 : w_10.heap.size = w_9.heap.size := by rw [hW]; simp [World.setCell]
    replace bR : Box w_10 w.heap.size [.int .i64 sa, .slice Aa na ca] := by rw [hW]; exact bR.far _ _ (by show (w.heap.size + 1) ≠ w.heap.size; omega)
    replace fR : Fz w_10 w.heap.size := by rw [hW]; exact fR.set _ _
    replace bP : Box w_10 (w.heap.size + 1) [.int .i64 sb, .slice Ab nb cb] := by rw [hW]; exact bP.put 1 _ (by simp)
    replace fP : Fz w_10 (w.heap.size + 1) := by rw [hW]; exact fP.set _ _
    replace bC : Box w_10 w_5.heap.size [.int .i64 sa, .slice Aa na ca] := by rw [hW]; exact bC.far _ _ (by show (w.heap.size + 1) ≠ w_5.heap.size; omega)
    replace fC : Fz w_10 w_5.heap.size := by rw [hW]; exact fC.set _ _
    replace TA := hide (show TabR w_10 w_2.heap.size w_3.heap.size v by rw [hW]; exact TA.out.set (by omega) _ _)
    replace Ma := hide (show Rd w_10 w_4.heap.size w_5.heap.size 1 Aa na (rInt64 la) by rw [hW]; exact Ma.out.set (by omega) _ _)
    replace Mb := hide (show Rd w_10 (World.drew w_6).heap.size w_7.heap.size 1 Ab nb (rInt64 lb) by rw [hW]; exact Mb.out.set (by omega) _ _)
    replace HT := hide (show Blw w w_10 by rw [hW]; exact HT.out.setNew (by omega) _ _)
    clear hW
    go_wp2_with fail
    have lR0 := bR 0 _ rfl
    have lR1 := bR 1 _ rfl
    have lP0 := bP 0 _ rfl
    have lP1 := bP 1 _ rfl
    refine bodyPost_ret (v := .tuple #[v, .agg #[.int .i64 sa, .slice Aa na ca], .agg #[.int .i64 sb, .slice Ab nb cb]]) (by simp [results, Try.results18, go_sem, dcell2, lR0, lR1, lP0, lP1]) rfl ⟨_, sa, la, na, Aa, ca, sb, lb, nb, Ab, cb, rfl, hla, hna, Ma.out.mono (lo' := w.heap.size) (hi' := w_10.heap.size) (by omega) (by omega), hlb, hnb, Mb.out.mono (lo' := w.heap.size) (hi' := w_10.heap.size) (by omega) (by omega), TA.out.mono (lo' := w.heap.size) (hi' := w_10.heap.size) (by omega) (by omega), HT.out⟩
  · go_wp2_with fail
    clear TA
    refine (l15Spoil_g (w.heap.size + 2) (0 + 1402) (by omega) _ HS.out).mono ?_
    rintro e w_5 ⟨v2, rfl, hv, S1, t1⟩
    replace HS := hide S1
    clear S1
    have hs_w_5 : w_4.heap.size ≤ w_5.heap.size := t1.size
    replace bR := bR.tch t1 (by omega) (by omega)
    replace fR := fR.tch t1 (by omega) (by omega)
    replace bP := bP.tch t1 (by omega) (by omega)
    replace fP := fP.tch t1 (by omega) (by omega)
    replace HT := hide (HT.out.thenT t1 (by omega))
    clear t1
    have TA := hide hv.reg
    clear hv
    go_wp2_with fail
    refine (l16Bent_g (w.heap.size + 2) (0 + 2812) (by omega) _ HS.out).mono ?_
    rintro e w_6 ⟨sa, la, na, va, rfl, hla, hna, ho, S1, t1⟩
    replace HS := hide S1
    clear S1
    have hs_w_6 : w_5.heap.size ≤ w_6.heap.size := t1.size
    replace bR := bR.tch t1 (by omega) (by omega)
    replace fR := fR.tch t1 (by omega) (by omega)
    replace bP := bP.tch t1 (by omega) (by omega)
    replace fP := fP.tch t1 (by omega) (by omega)
    replace TA := hide (TA.out.tch t1 (by omega) (by omega))
    replace HT := hide (HT.out.thenT t1 (by omega))
    clear t1
    obtain ⟨Aa, ca, rfl, _, _, hr⟩ := ho.rd
    have Ma := hide hr
    clear ho hr
    go_wp2_with fail
    obtain ⟨w_7, hW⟩ : ∃ W : World, W = (w_6.alloc (.cells #[.int .i64 sa, .slice Aa na ca] 27)) := ⟨_, rfl⟩
    rw [← hW]
    have hs_w_7 : w_7.heap.size = w_6.heap.size + 1 := by rw [hW]; simp
    replace bR : Box w_7 w.heap.size [.int .i64 0, .slice none 0 0] := by rw [hW]; exact (bR.alloc (by first | omega | (simp <;> omega) | simp) _)
    replace fR : Fz w_7 w.heap.size := by rw [hW]; exact (fR.alloc (by first | omega | (simp <;> omega) | simp) _)
    replace bP : Box w_7 (w.heap.size + 1) [.int .i64 0, .slice none 0 0] := by rw [hW]; exact (bP.alloc (by first | omega | (simp <;> omega) | simp) _)
    replace fP : Fz w_7 (w.heap.size + 1) := by rw [hW]; exact (fP.alloc (by first | omega | (simp <;> omega) | simp) _)
    replace TA := hide (show TabR w_7 w_4.heap.size w_5.heap.size v2 by rw [hW]; exact (TA.out.alloc (by first | omega | (simp <;> omega) | simp) _))
    replace Ma := hide (show Rd w_7 w_5.heap.size w_6.heap.size 1 Aa na (rInt64 la) by rw [hW]; exact (Ma.out.alloc (by first | omega | (simp <;> omega) | simp) _))
    have bC : Box w_7 w_6.heap.size [.int .i64 sa, .slice Aa na ca] := by rw [hW]; exact (box_at _ _ _ _ (by simp))
    have fC : Fz w_7 w_6.heap.size := by rw [hW]; exact (fz_at _ _ _ _ (by simp))
    replace HS := hide (show Src w_7 (w.heap.size + 2) (0 + 2882) by rw [hW]; exact (HS.out.alloc _))
    replace HT := hide (show Blw w w_7 by rw [hW]; exact (HT.out.alloc_ _))
    clear hW
    try go_wp2_with fail
    have hdz7 : (World.drew w_7).heap.size = w_7.heap.size := rfl
    replace bR : Box (World.drew w_7) w.heap.size [.int .i64 0, .slice none 0 0] := bR
    replace fR : Fz (World.drew w_7) w.heap.size := fR
    replace bP : Box (World.drew w_7) (w.heap.size + 1) [.int .i64 0, .slice none 0 0] := bP
    replace fP : Fz (World.drew w_7) (w.heap.size + 1) := fP
    replace bC : Box (World.drew w_7) w_6.heap.size [.int .i64 sa, .slice Aa na ca] := bC
    replace fC : Fz (World.drew w_7) w_6.heap.size := fC
    replace TA := hide (show TabR (World.drew w_7) w_4.heap.size w_5.heap.size v2 from TA.out.drew)
    replace Ma := hide (show Rd (World.drew w_7) w_5.heap.size w_6.heap.size 1 Aa na (rInt64 la) from Ma.out.drew)
    replace HS := hide (show Src (World.drew w_7) (w.heap.size + 2) (0 + 2882) from HS.out.drew)
    replace HT := hide (show Blw w (World.drew w_7) from HT.out.drew_)
    refine wp_region_held_drew (S := fun W => W.cell? ⟨w_6.heap.size, 0, none⟩ = some (.int .i64 sa) ∧ W.cell? ⟨w_6.heap.size, 1, none⟩ = some (.slice Aa na ca)) (by kernel_rfl) (⟨bC 0 _ rfl, bC 1 _ rfl⟩) (fun hHeld => ?_)
    try simp only [Array.replicate, List.replicate]
    refine wpAnyH_take (i := 0) (v := ?_) rfl (by kernel_rfl) (by kernel_rfl) (by kernel_rfl) (fun _ _ _ h => h) (Or.inl ⟨by rfl, ?_⟩) (by assumption) ?_
    rotate_left
    · (intro w hSw; (try dsimp only at hSw); go_simp; try (with_reducible rfl))
    try simp only [Act.put, List.getElem_toArray, List.getElem_cons_succ, List.getElem_cons_zero, List.setIfInBounds_toArray, List.set_cons_succ, List.set_cons_zero]
    refine wpAnyH_take (i := 1) (v := ?_) rfl (by kernel_rfl) (by kernel_rfl) (by kernel_rfl) (fun _ _ _ h => h) (Or.inl ⟨by rfl, ?_⟩) (by assumption) ?_
    rotate_left
    · (intro w hSw; (try dsimp only at hSw); go_simp; try (with_reducible rfl))
    try simp only [Act.put, List.getElem_toArray, List.getElem_cons_succ, List.getElem_cons_zero, List.setIfInBounds_toArray, List.set_cons_succ, List.set_cons_zero]
    refine wpAnyH_take (i := 2) (v := ?_) rfl (by kernel_rfl) (by kernel_rfl) (by kernel_rfl) (fun _ _ _ h => h) (Or.inl ⟨by rfl, ?_⟩) (by assumption) ?_
    rotate_left
    · (intro w hSw; (try dsimp only at hSw); go_simp; try (with_reducible rfl))
    try simp only [Act.put, List.getElem_toArray, List.getElem_cons_succ, List.getElem_cons_zero, List.setIfInBounds_toArray, List.set_cons_succ, List.set_cons_zero]
    refine wpAnyH_ready (rs := [3]) (by kernel_rfl) (by simp) ?_
    refine AllReadyH.cons rfl (fun KQ hK => ?_) AllReadyH.nil
    go_simp
    refine (l16Bent_g (w.heap.size + 2) (0 + 2882) (by omega) _ HS.out).mono ?_
    rintro e w_8 ⟨sb, lb, nb, vb, rfl, hlb, hnb, ho, S1, t1⟩
    replace HS := hide S1
    clear S1
    have hs_w_8 : (World.drew w_7).heap.size ≤ w_8.heap.size := t1.size
    replace bR := bR.tch t1 (by omega) (by omega)
    replace fR := fR.tch t1 (by omega) (by omega)
    replace bP := bP.tch t1 (by omega) (by omega)
    replace fP := fP.tch t1 (by omega) (by omega)
    replace bC := bC.tch t1 (by omega) (by omega)
    replace fC := fC.tch t1 (by omega) (by omega)
    replace TA := hide (TA.out.tch t1 (by omega) (by omega))
    replace Ma := hide (Ma.out.tch t1 (by omega) (by omega))
    replace HT := hide (HT.out.thenT t1 (by omega))
    clear t1
    obtain ⟨Ab, cb, rfl, _, _, hr⟩ := ho.rd
    have Mb := hide hr
    clear ho hr
    refine hK.out _ _ (⟨bC 0 _ rfl, bC 1 _ rfl⟩) (fun hHeld2 => ?_)
    clear hK KQ hHeld
    have hHeld := hHeld2
    clear hHeld2
    try simp only [Act.put, List.getElem_toArray, List.getElem_cons_succ, List.getElem_cons_zero, List.setIfInBounds_toArray, List.set_cons_succ, List.set_cons_zero]
    refine wpAnyH_take (i := 4) (v := ?_) rfl (by kernel_rfl) (by kernel_rfl) (by kernel_rfl) (fun _ _ _ h => h) (Or.inl ⟨by rfl, ?_⟩) (by assumption) ?_
    rotate_left
    · (intro w hSw; (try dsimp only at hSw); go_simp; try (with_reducible rfl))
    try simp only [Act.put, List.getElem_toArray, List.getElem_cons_succ, List.getElem_cons_zero, List.setIfInBounds_toArray, List.set_cons_succ, List.set_cons_zero]
    have lR0 := bR 0 _ rfl
    have lR1 := bR 1 _ rfl
    have mR0 := fR 0
    have mR1 := fR 1
    refine wpAnyH_ready (rs := [5]) (by kernel_rfl) (by simp) ?_
    refine AllReadyH.cons rfl (fun KQ hK => ?_) AllReadyH.nil
    go_simp
    refine hK.out _ _ (⟨far_c (far_c (bC 0 _ rfl) (by omega)) (by omega), far_c (far_c (bC 1 _ rfl) (by omega)) (by omega)⟩) (fun hHeld2 => ?_)
    clear hK KQ hHeld
    have hHeld := hHeld2
    clear hHeld2
    try simp only [Act.put, List.getElem_toArray, List.getElem_cons_succ, List.getElem_cons_zero, List.setIfInBounds_toArray, List.set_cons_succ, List.set_cons_zero]
    have lP0 := bP 0 _ rfl
    have lP1 := bP 1 _ rfl
    have mP0 := fP 0
    have mP1 := fP 1
    refine wpAnyH_ready (rs := [6]) (by kernel_rfl) (by simp) ?_
    refine AllReadyH.cons rfl (fun KQ hK => ?_) AllReadyH.nil
    go_simp
    refine hK.out _ _ (⟨far_c (far_c (far_c (far_c (bC 0 _ rfl) (by omega)) (by omega)) (by omega)) (by omega), far_c (far_c (far_c (far_c (bC 1 _ rfl) (by omega)) (by omega)) (by omega)) (by omega)⟩) (fun hHeld2 => ?_)
    clear hK KQ hHeld
    have hHeld := hHeld2
    clear hHeld2
    try simp only [Act.put, List.getElem_toArray, List.getElem_cons_succ, List.getElem_cons_zero, List.setIfInBounds_toArray, List.set_cons_succ, List.set_cons_zero]
    refine wpAnyH_done (by kernel_rfl) ?_ _
    clear lR0 lR1 mR0 mR1
    clear lP0 lP1 mP0 mP1
    clear HS hHeld
    obtain ⟨w_9, hW⟩ : ∃ W : World, W = ((w_8.setCell ⟨w.heap.size, 0, none⟩ (.int .i64 sa)).setCell ⟨w.heap.size, 1, none⟩ (.slice Aa na ca)) := ⟨_, rfl⟩
    rw [← hW]
    have hs_w_9 : w_9.heap.size = w_8.heap.size := by rw [hW]; simp [World.setCell]
    have cR : Box w_9 w.heap.size [.int .i64 sa, .slice Aa na ca] := by rw [hW]; exact ((bR.put 0 _ (by simp)).put 1 _ (by simp))
    have cP : Box w_9 (w.heap.size + 1) [.int .i64 0, .slice none 0 0] := by rw [hW]; exact ((bP.far _ _ (by show w.heap.size ≠ (w.heap.size + 1); omega)).far _ _ (by show w.heap.size ≠ (w.heap.size + 1); omega))
    have cC : Box w_9 w_6.heap.size [.int .i64 sa, .slice Aa na ca] := by rw [hW]; exact ((bC.far _ _ (by show w.heap.size ≠ w_6.heap.size; omega)).far _ _ (by show w.heap.size ≠ w_6.heap.size; omega))
    replace bR := cR
    clear cR
    replace fR : Fz w_9 w.heap.size := by rw [hW]; exact ((fR.set _ _).set _ _)
    replace bP := cP
    clear cP
    replace fP : Fz w_9 (w.heap.size + 1) := by rw [hW]; exact ((fP.set _ _).set _ _)
    replace bC := cC
    clear cC
    replace fC : Fz w_9 w_6.heap.size := by rw [hW]; exact ((fC.set _ _).set _ _)
    replace TA := hide (show TabR w_9 w_4.heap.size w_5.heap.size v2 by rw [hW]; exact ((TA.out.set (by omega) _ _).set (by omega) _ _))
    replace Ma := hide (show Rd w_9 w_5.heap.size w_6.heap.size 1 Aa na (rInt64 la) by rw [hW]; exact ((Ma.out.set (by omega) _ _).set (by omega) _ _))
    replace Mb := hide (show Rd w_9 (World.drew w_7).heap.size w_8.heap.size 1 Ab nb (rInt64 lb) by rw [hW]; exact ((Mb.out.set (by omega) _ _).set (by omega) _ _))
    replace HT := hide (show Blw w w_9 by rw [hW]; exact ((HT.out.setNew (by omega) _ _).setNew (by omega) _ _))
    clear hW
    obtain ⟨w_10, hW⟩ : ∃ W : World, W = w_9.setCell ⟨(w.heap.size + 1), 0, none⟩ (.int .i64 sb) := ⟨_, rfl⟩
    rw [← hW]
    have hs_w_10 : w_10.heap.size = w_9.heap.size := by rw [hW]; simp [World.setCell]
    replace bR : Box w_10 w.heap.size [.int .i64 sa, .slice Aa na ca] := by rw [hW]; exact bR.far _ _ (by show (w.heap.size + 1) ≠ w.heap.size; omega)
    replace fR : Fz w_10 w.heap.size := by rw [hW]; exact fR.set _ _
    replace bP : Box w_10 (w.heap.size + 1) [.int .i64 sb, .slice none 0 0] := by rw [hW]; exact bP.put 0 _ (by simp)
    replace fP : Fz w_10 (w.heap.size + 1) := by rw [hW]; exact fP.set _ _
    replace bC : Box w_10 w_6.heap.size [.int .i64 sa, .slice Aa na ca] := by rw [hW]; exact bC.far _ _ (by show (w.heap.size + 1) ≠ w_6.heap.size; omega)
    replace fC : Fz w_10 w_6.heap.size := by rw [hW]; exact fC.set _ _
    replace TA := hide (show TabR w_10 w_4.heap.size w_5.heap.size v2 by rw [hW]; exact TA.out.set (by omega) _ _)
    replace Ma := hide (show Rd w_10 w_5.heap.size w_6.heap.size 1 Aa na (rInt64 la) by rw [hW]; exact Ma.out.set (by omega) _ _)
    replace Mb := hide (show Rd w_10 (World.drew w_7).heap.size w_8.heap.size 1 Ab nb (rInt64 lb) by rw [hW]; exact Mb.out.set (by omega) _ _)
    replace HT := hide (show Blw w w_10 by rw [hW]; exact HT.out.setNew (by omega) _ _)
    clear hW
    obtain ⟨w_11, hW⟩ : ∃ W : World, W = w_10.setCell ⟨(w.heap.size + 1), 1, none⟩ (.slice Ab nb cb) := ⟨_, rfl⟩
    rw [← hW]
    have hs_w_11 : w_11.heap.size = w_10.heap.size := by rw [hW]; simp [World.setCell]
    replace bR : Box w_11 w.heap.size [.int .i64 sa, .slice Aa na ca] := by rw [hW]; exact bR.far _ _ (by show (w.heap.size + 1) ≠ w.heap.size; omega)
    replace fR : Fz w_11 w.heap.size := by rw [hW]; exact fR.set _ _
    replace bP : Box w_11 (w.heap.size + 1) [.int .i64 sb, .slice Ab nb cb] := by rw [hW]; exact bP.put 1 _ (by simp)
    replace fP : Fz w_11 (w.heap.size + 1) := by rw [hW]; exact fP.set _ _
    replace bC : Box w_11 w_6.heap.size [.int .i64 sa, .slice Aa na ca] := by rw [hW]; exact bC.far _ _ (by show (w.heap.size + 1) ≠ w_6.heap.size; omega)
    replace fC : Fz w_11 w_6.heap.size := by rw [hW]; exact fC.set _ _
    replace TA := hide (show TabR w_11 w_4.heap.size w_5.heap.size v2 by rw [hW]; exact TA.out.set (by omega) _ _)
    replace Ma := hide (show Rd w_11 w_5.heap.size w_6.heap.size 1 Aa na (rInt64 la) by rw [hW]; exact Ma.out.set (by omega) _ _)
    replace Mb := hide (show Rd w_11 (World.drew w_7).heap.size w_8.heap.size 1 Ab nb (rInt64 lb) by rw [hW]; exact Mb.out.set (by omega) _ _)
    replace HT := hide (show Blw w w_11 by rw [hW]; exact HT.out.setNew (by omega) _ _)
    clear hW
    go_wp2_with fail
    have lR0 := bR 0 _ rfl
    have lR1 := bR 1 _ rfl
    have lP0 := bP 0 _ rfl
    have lP1 := bP 1 _ rfl
    refine bodyPost_ret (v := .tuple #[v2, .agg #[.int .i64 sa, .slice Aa na ca], .agg #[.int .i64 sb, .slice Ab nb cb]]) (by simp [results, Try.results18, go_sem, dcell2, lR0, lR1, lP0, lP1]) rfl ⟨_, sa, la, na, Aa, ca, sb, lb, nb, Ab, cb, rfl, hla, hna, Ma.out.mono (lo' := w.heap.size) (hi' := w_11.heap.size) (by omega) (by omega), hlb, hnb, Mb.out.mono (lo' := w.heap.size) (hi' := w_11.heap.size) (by omega) (by omega), TA.out.mono (lo' := w.heap.size) (hi' := w_11.heap.size) (by omega) (by omega), HT.out⟩

set_option maxRecDepth 100000 in
set_option maxHeartbeats 2000000 in
theorem DrawLeastDelay_g (A : Option Addr) (n c hi : Nat) (bs : List Value) (hn : n ≤ maxLen) (w : World) (h : Rd w 0 hi 1 A n bs) (hhi : hi ≤ w.heap.size) (hv : ∀ v ∈ bs, ∃ x : Int, v = .int .u8 x ∧ 0 ≤ x ∧ x ≤ 255) :
    Calls Try.prog 5 #[.slice A n c] w fun e w' => ∃ (v : Value) (sa : Int) (la : List Int) (na : Nat) (Aa : Option Addr) (ca : Nat) (sb : Int) (lb : List Int) (nb : Nat) (Ab : Option Addr) (cb : Nat), e = .returned (.tuple #[v, .agg #[.int .i64 sa, .slice Aa na ca], .agg #[.int .i64 sb, .slice Ab nb cb]]) ∧ la.length = na ∧ na ≤ 300 ∧ Rd w' w.heap.size w'.heap.size 1 Aa na (rInt64 la) ∧ lb.length = nb ∧ nb ≤ 300 ∧ Rd w' w.heap.size w'.heap.size 1 Ab nb (rInt64 lb) ∧ TabR w' w.heap.size w'.heap.size v ∧ Below w.heap.size w w' := by
  have HR := hide h
  have HV := hide hv
  have HT := hide (show Blw w w from Below.refl _ _)
  clear h hv
  go_enter Try.func5, Try.ntmps5
  go_wp2_with fail
  obtain ⟨w_1, hW⟩ : ∃ W : World, W = ((w.alloc (.cells #[.int .i64 0, .slice none 0 0] 27)).alloc (.cells #[.int .i64 0, .slice none 0 0] 27)) := ⟨_, rfl⟩
  rw [← hW]
  have hs_w_1 : w_1.heap.size = w.heap.size + 2 := by rw [hW]; simp
  have bR : Box w_1 w.heap.size [.int .i64 0, .slice none 0 0] := by rw [hW]; exact ((box_at _ _ _ _ (by simp)).alloc (by first | omega | (simp <;> omega) | simp) _)
  have fR : Fz w_1 w.heap.size := by rw [hW]; exact ((fz_at _ _ _ _ (by simp)).alloc (by first | omega | (simp <;> omega) | simp) _)
  have bP : Box w_1 (w.heap.size + 1) [.int .i64 0, .slice none 0 0] := by rw [hW]; exact (box_at _ _ _ _ (by simp))
  have fP : Fz w_1 (w.heap.size + 1) := by rw [hW]; exact (fz_at _ _ _ _ (by simp))
  replace HT := hide (show Blw w w_1 by rw [hW]; exact ((HT.out.alloc_ _).alloc_ _))
  clear hW
  refine (l16Three_g A n c hi bs hn _ (HR.out.below HT.out hhi) (by omega) HV.out).mono ?_
  rintro e w_2 ⟨v, sa, la, na, Aa, ca, sb, lb, nb, Ab, cb, rfl, hla, hna, hMa, hlb, hnb, hMb, hv, hq1⟩
  have t1 : Tch w_1.heap.size (w_1.heap.size + 1) w_1 w_2 := Tch.of_below hq1 _ _
  clear hq1
  have hs_w_2 : w_1.heap.size ≤ w_2.heap.size := t1.size
  replace bR := bR.tch t1 (by omega) (by omega)
  replace fR := fR.tch t1 (by omega) (by omega)
  replace bP := bP.tch t1 (by omega) (by omega)
  replace fP := fP.tch t1 (by omega) (by omega)
  replace HT := hide (HT.out.thenT t1 (by omega))
  clear t1
  have TA := hide hv
  have Ma := hide hMa
  have Mb := hide hMb
  clear hv hMa hMb HR HV
  have lR0 := bR 0 _ rfl
  have lR1 := bR 1 _ rfl
  have mR0 := fR 0
  have mR1 := fR 1
  have lP0 := bP 0 _ rfl
  have lP1 := bP 1 _ rfl
  have mP0 := fP 0
  have mP1 := fP 1
  go_wp2_with fail
  clear lR0 lR1 mR0 mR1
  clear lP0 lP1 mP0 mP1
  obtain ⟨w_3, hW⟩ : ∃ W : World, W = w_2.setCell ⟨w.heap.size, 0, none⟩ (.int .i64 sa) := ⟨_, rfl⟩
  rw [← hW]
  have hs_w_3 : w_3.heap.size = w_2.heap.size := by rw [hW]; simp [World.setCell]
  replace bR : Box w_3 w.heap.size [.int .i64 sa, .slice none 0 0] := by rw [hW]; exact bR.put 0 _ (by simp)
  replace fR : Fz w_3 w.heap.size := by rw [hW]; exact fR.set _ _
  replace bP : Box w_3 (w.heap.size + 1) [.int .i64 0, .slice none 0 0] := by rw [hW]; exact bP.far _ _ (by show w.heap.size ≠ (w.heap.size + 1); omega)
  replace fP : Fz w_3 (w.heap.size + 1) := by rw [hW]; exact fP.set _ _
  replace TA := hide (show TabR w_3 w_1.heap.size w_2.heap.size v by rw [hW]; exact TA.out.set (by omega) _ _)
  replace Ma := hide (show Rd w_3 w_1.heap.size w_2.heap.size 1 Aa na (rInt64 la) by rw [hW]; exact Ma.out.set (by omega) _ _)
  replace Mb := hide (show Rd w_3 w_1.heap.size w_2.heap.size 1 Ab nb (rInt64 lb) by rw [hW]; exact Mb.out.set (by omega) _ _)
  replace HT := hide (show Blw w w_3 by rw [hW]; exact HT.out.setNew (by omega) _ _)
  clear hW
  obtain ⟨w_4, hW⟩ : ∃ W : World, W = w_3.setCell ⟨w.heap.size, 1, none⟩ (.slice Aa na ca) := ⟨_, rfl⟩
  rw [← hW]
  have hs_w_4 : w_4.heap.size = w_3.heap.size := by rw [hW]; simp [World.setCell]
  replace bR : Box w_4 w.heap.size [.int .i64 sa, .slice Aa na ca] := by rw [hW]; exact bR.put 1 _ (by simp)
  replace fR : Fz w_4 w.heap.size := by rw [hW]; exact fR.set _ _
  replace bP : Box w_4 (w.heap.size + 1) [.int .i64 0, .slice none 0 0] := by rw [hW]; exact bP.far _ _ (by show w.heap.size ≠ (w.heap.size + 1); omega)
  replace fP : Fz w_4 (w.heap.size + 1) := by rw [hW]; exact fP.set _ _
  replace TA := hide (show TabR w_4 w_1.heap.size w_2.heap.size v by rw [hW]; exact TA.out.set (by omega) _ _)
  replace Ma := hide (show Rd w_4 w_1.heap.size w_2.heap.size 1 Aa na (rInt64 la) by rw [hW]; exact Ma.out.set (by omega) _ _)
  replace Mb := hide (show Rd w_4 w_1.heap.size w_2.heap.size 1 Ab nb (rInt64 lb) by rw [hW]; exact Mb.out.set (by omega) _ _)
  replace HT := hide (show Blw w w_4 by rw [hW]; exact HT.out.setNew (by omega) _ _)
  clear hW
  obtain ⟨w_5, hW⟩ : ∃ W : World, W = w_4.setCell ⟨(w.heap.size + 1), 0, none⟩ (.int .i64 sb) := ⟨_, rfl⟩
  rw [← hW]
  have hs_w_5 : w_5.heap.size = w_4.heap.size := by rw [hW]; simp [World.setCell]
  replace bR : Box w_5 w.heap.size [.int .i64 sa, .slice Aa na ca] := by rw [hW]; exact bR.far _ _ (by show (w.heap.size + 1) ≠ w.heap.size; omega)
  replace fR : Fz w_5 w.heap.size := by rw [hW]; exact fR.set _ _
  replace bP : Box w_5 (w.heap.size + 1) [.int .i64 sb, .slice none 0 0] := by rw [hW]; exact bP.put 0 _ (by simp)
  replace fP : Fz w_5 (w.heap.size + 1) := by rw [hW]; exact fP.set _ _
  replace TA := hide (show TabR w_5 w_1.heap.size w_2.heap.size v by rw [hW]; exact TA.out.set (by omega) _ _)
  replace Ma := hide (show Rd w_5 w_1.heap.size w_2.heap.size 1 Aa na (rInt64 la) by rw [hW]; exact Ma.out.set (by omega) _ _)
  replace Mb := hide (show Rd w_5 w_1.heap.size w_2.heap.size 1 Ab nb (rInt64 lb) by rw [hW]; exact Mb.out.set (by omega) _ _)
  replace HT := hide (show Blw w w_5 by rw [hW]; exact HT.out.setNew (by omega) _ _)
  clear hW
  obtain ⟨w_6, hW⟩ : ∃ W : World, W = w_5.setCell ⟨(w.heap.size + 1), 1, none⟩ (.slice Ab nb cb) := ⟨_, rfl⟩
  rw [← hW]
  have hs_w_6 : w_6.heap.size = w_5.heap.size := by rw [hW]; simp [World.setCell]
  replace bR : Box w_6 w.heap.size [.int .i64 sa, .slice Aa na ca] := by rw [hW]; exact bR.far _ _ (by show (w.heap.size + 1) ≠ w.heap.size; omega)
  replace fR : Fz w_6 w.heap.size := by rw [hW]; exact fR.set _ _
  replace bP : Box w_6 (w.heap.size + 1) [.int .i64 sb, .slice Ab nb cb] := by rw [hW]; exact bP.put 1 _ (by simp)
  replace fP : Fz w_6 (w.heap.size + 1) := by rw [hW]; exact fP.set _ _
  replace TA := hide (show TabR w_6 w_1.heap.size w_2.heap.size v by rw [hW]; exact TA.out.set (by omega) _ _)
  replace Ma := hide (show Rd w_6 w_1.heap.size w_2.heap.size 1 Aa na (rInt64 la) by rw [hW]; exact Ma.out.set (by omega) _ _)
  replace Mb := hide (show Rd w_6 w_1.heap.size w_2.heap.size 1 Ab nb (rInt64 lb) by rw [hW]; exact Mb.out.set (by omega) _ _)
  replace HT := hide (show Blw w w_6 by rw [hW]; exact HT.out.setNew (by omega) _ _)
  clear hW
  have lR0 := bR 0 _ rfl
  have lR1 := bR 1 _ rfl
  have lP0 := bP 0 _ rfl
  have lP1 := bP 1 _ rfl
  refine bodyPost_ret (v := .tuple #[v, .agg #[.int .i64 sa, .slice Aa na ca], .agg #[.int .i64 sb, .slice Ab nb cb]]) (by simp [results, Try.results5, go_sem, dcell2, lR0, lR1, lP0, lP1]) rfl ⟨_, sa, la, na, Aa, ca, sb, lb, nb, Ab, cb, rfl, hla, hna, Ma.out.mono (lo' := w.heap.size) (hi' := w_6.heap.size) (by omega) (by omega), hlb, hnb, Mb.out.mono (lo' := w.heap.size) (hi' := w_6.heap.size) (by omega) (by omega), TA.out.mono (lo' := w.heap.size) (hi' := w_6.heap.size) (by omega) (by omega), HT.out⟩

set_option maxRecDepth 100000 in
set_option maxHeartbeats 2000000 in
theorem DrawFirstConflict_g (A : Option Addr) (n c hi : Nat) (bs : List Value) (hn : n ≤ maxLen) (w : World) (h : Rd w 0 hi 1 A n bs) (hhi : hi ≤ w.heap.size) (hv : ∀ v ∈ bs, ∃ x : Int, v = .int .u8 x ∧ 0 ≤ x ∧ x ≤ 255) :
    Calls Try.prog 8 #[.slice A n c] w fun e w' => ∃ (v : Value) (sa : Int) (la : List Int) (na : Nat) (Aa : Option Addr) (ca : Nat) (sb : Int) (lb : List Int) (nb : Nat) (Ab : Option Addr) (cb : Nat), e = .returned (.tuple #[v, .agg #[.int .i64 sa, .slice Aa na ca], .agg #[.int .i64 sb, .slice Ab nb cb]]) ∧ la.length = na ∧ na ≤ 300 ∧ Rd w' w.heap.size w'.heap.size 1 Aa na (rInt64 la) ∧ lb.length = nb ∧ nb ≤ 300 ∧ Rd w' w.heap.size w'.heap.size 1 Ab nb (rInt64 lb) ∧ TabR w' w.heap.size w'.heap.size v ∧ Below w.heap.size w w' := by
  have HR := hide h
  have HV := hide hv
  have HT := hide (show Blw w w from Below.refl _ _)
  clear h hv
  go_enter Try.func8, Try.ntmps8
  go_wp2_with fail
  obtain ⟨w_1, hW⟩ : ∃ W : World, W = ((w.alloc (.cells #[.int .i64 0, .slice none 0 0] 27)).alloc (.cells #[.int .i64 0, .slice none 0 0] 27)) := ⟨_, rfl⟩
  rw [← hW]
  have hs_w_1 : w_1.heap.size = w.heap.size + 2 := by rw [hW]; simp
  have bR : Box w_1 w.heap.size [.int .i64 0, .slice none 0 0] := by rw [hW]; exact ((box_at _ _ _ _ (by simp)).alloc (by first | omega | (simp <;> omega) | simp) _)
  have fR : Fz w_1 w.heap.size := by rw [hW]; exact ((fz_at _ _ _ _ (by simp)).alloc (by first | omega | (simp <;> omega) | simp) _)
  have bP : Box w_1 (w.heap.size + 1) [.int .i64 0, .slice none 0 0] := by rw [hW]; exact (box_at _ _ _ _ (by simp))
  have fP : Fz w_1 (w.heap.size + 1) := by rw [hW]; exact (fz_at _ _ _ _ (by simp))
  replace HT := hide (show Blw w w_1 by rw [hW]; exact ((HT.out.alloc_ _).alloc_ _))
  clear hW
  refine (l16Three_g A n c hi bs hn _ (HR.out.below HT.out hhi) (by omega) HV.out).mono ?_
  rintro e w_2 ⟨v, sa, la, na, Aa, ca, sb, lb, nb, Ab, cb, rfl, hla, hna, hMa, hlb, hnb, hMb, hv, hq1⟩
  have t1 : Tch w_1.heap.size (w_1.heap.size + 1) w_1 w_2 := Tch.of_below hq1 _ _
  clear hq1
  have hs_w_2 : w_1.heap.size ≤ w_2.heap.size := t1.size
  replace bR := bR.tch t1 (by omega) (by omega)
  replace fR := fR.tch t1 (by omega) (by omega)
  replace bP := bP.tch t1 (by omega) (by omega)
  replace fP := fP.tch t1 (by omega) (by omega)
  replace HT := hide (HT.out.thenT t1 (by omega))
  clear t1
  have TA := hide hv
  have Ma := hide hMa
  have Mb := hide hMb
  clear hv hMa hMb HR HV
  have lR0 := bR 0 _ rfl
  have lR1 := bR 1 _ rfl
  have mR0 := fR 0
  have mR1 := fR 1
  have lP0 := bP 0 _ rfl
  have lP1 := bP 1 _ rfl
  have mP0 := fP 0
  have mP1 := fP 1
  go_wp2_with fail
  clear lR0 lR1 mR0 mR1
  clear lP0 lP1 mP0 mP1
  obtain ⟨w_3, hW⟩ : ∃ W : World, W = w_2.setCell ⟨w.heap.size, 0, none⟩ (.int .i64 sa) := ⟨_, rfl⟩
  rw [← hW]
  have hs_w_3 : w_3.heap.size = w_2.heap.size := by rw [hW]; simp [World.setCell]
  replace bR : Box w_3 w.heap.size [.int .i64 sa, .slice none 0 0] := by rw [hW]; exact bR.put 0 _ (by simp)
  replace fR : Fz w_3 w.heap.size := by rw [hW]; exact fR.set _ _
  replace bP : Box w_3 (w.heap.size + 1) [.int .i64 0, .slice none 0 0] := by rw [hW]; exact bP.far _ _ (by show w.heap.size ≠ (w.heap.size + 1); omega)
  replace fP : Fz w_3 (w.heap.size + 1) := by rw [hW]; exact fP.set _ _
  replace TA := hide (show TabR w_3 w_1.heap.size w_2.heap.size v by rw [hW]; exact TA.out.set (by omega) _ _)
  replace Ma := hide (show Rd w_3 w_1.heap.size w_2.heap.size 1 Aa na (rInt64 la) by rw [hW]; exact Ma.out.set (by omega) _ _)
  replace Mb := hide (show Rd w_3 w_1.heap.size w_2.heap.size 1 Ab nb (rInt64 lb) by rw [hW]; exact Mb.out.set (by omega) _ _)
  replace HT := hide (show Blw w w_3 by rw [hW]; exact HT.out.setNew (by omega) _ _)
  clear hW
  obtain ⟨w_4, hW⟩ : ∃ W : World, W = w_3.setCell ⟨w.heap.size, 1, none⟩ (.slice Aa na ca) := ⟨_, rfl⟩
  rw [← hW]
  have hs_w_4 : w_4.heap.size = w_3.heap.size := by rw [hW]; simp [World.setCell]
  replace bR : Box w_4 w.heap.size [.int .i64 sa, .slice Aa na ca] := by rw [hW]; exact bR.put 1 _ (by simp)
  replace fR : Fz w_4 w.heap.size := by rw [hW]; exact fR.set _ _
  replace bP : Box w_4 (w.heap.size + 1) [.int .i64 0, .slice none 0 0] := by rw [hW]; exact bP.far _ _ (by show w.heap.size ≠ (w.heap.size + 1); omega)
  replace fP : Fz w_4 (w.heap.size + 1) := by rw [hW]; exact fP.set _ _
  replace TA := hide (show TabR w_4 w_1.heap.size w_2.heap.size v by rw [hW]; exact TA.out.set (by omega) _ _)
  replace Ma := hide (show Rd w_4 w_1.heap.size w_2.heap.size 1 Aa na (rInt64 la) by rw [hW]; exact Ma.out.set (by omega) _ _)
  replace Mb := hide (show Rd w_4 w_1.heap.size w_2.heap.size 1 Ab nb (rInt64 lb) by rw [hW]; exact Mb.out.set (by omega) _ _)
  replace HT := hide (show Blw w w_4 by rw [hW]; exact HT.out.setNew (by omega) _ _)
  clear hW
  obtain ⟨w_5, hW⟩ : ∃ W : World, W = w_4.setCell ⟨(w.heap.size + 1), 0, none⟩ (.int .i64 sb) := ⟨_, rfl⟩
  rw [← hW]
  have hs_w_5 : w_5.heap.size = w_4.heap.size := by rw [hW]; simp [World.setCell]
  replace bR : Box w_5 w.heap.size [.int .i64 sa, .slice Aa na ca] := by rw [hW]; exact bR.far _ _ (by show (w.heap.size + 1) ≠ w.heap.size; omega)
  replace fR : Fz w_5 w.heap.size := by rw [hW]; exact fR.set _ _
  replace bP : Box w_5 (w.heap.size + 1) [.int .i64 sb, .slice none 0 0] := by rw [hW]; exact bP.put 0 _ (by simp)
  replace fP : Fz w_5 (w.heap.size + 1) := by rw [hW]; exact fP.set _ _
  replace TA := hide (show TabR w_5 w_1.heap.size w_2.heap.size v by rw [hW]; exact TA.out.set (by omega) _ _)
  replace Ma := hide (show Rd w_5 w_1.heap.size w_2.heap.size 1 Aa na (rInt64 la) by rw [hW]; exact Ma.out.set (by omega) _ _)
  replace Mb := hide (show Rd w_5 w_1.heap.size w_2.heap.size 1 Ab nb (rInt64 lb) by rw [hW]; exact Mb.out.set (by omega) _ _)
  replace HT := hide (show Blw w w_5 by rw [hW]; exact HT.out.setNew (by omega) _ _)
  clear hW
  obtain ⟨w_6, hW⟩ : ∃ W : World, W = w_5.setCell ⟨(w.heap.size + 1), 1, none⟩ (.slice Ab nb cb) := ⟨_, rfl⟩
  rw [← hW]
  have hs_w_6 : w_6.heap.size = w_5.heap.size := by rw [hW]; simp [World.setCell]
  replace bR : Box w_6 w.heap.size [.int .i64 sa, .slice Aa na ca] := by rw [hW]; exact bR.far _ _ (by show (w.heap.size + 1) ≠ w.heap.size; omega)
  replace fR : Fz w_6 w.heap.size := by rw [hW]; exact fR.set _ _
  replace bP : Box w_6 (w.heap.size + 1) [.int .i64 sb, .slice Ab nb cb] := by rw [hW]; exact bP.put 1 _ (by simp)
  replace fP : Fz w_6 (w.heap.size + 1) := by rw [hW]; exact fP.set _ _
  replace TA := hide (show TabR w_6 w_1.heap.size w_2.heap.size v by rw [hW]; exact TA.out.set (by omega) _ _)
  replace Ma := hide (show Rd w_6 w_1.heap.size w_2.heap.size 1 Aa na (rInt64 la) by rw [hW]; exact Ma.out.set (by omega) _ _)
  replace Mb := hide (show Rd w_6 w_1.heap.size w_2.heap.size 1 Ab nb (rInt64 lb) by rw [hW]; exact Mb.out.set (by omega) _ _)
  replace HT := hide (show Blw w w_6 by rw [hW]; exact HT.out.setNew (by omega) _ _)
  clear hW
  have lR0 := bR 0 _ rfl
  have lR1 := bR 1 _ rfl
  have lP0 := bP 0 _ rfl
  have lP1 := bP 1 _ rfl
  refine bodyPost_ret (v := .tuple #[v, .agg #[.int .i64 sa, .slice Aa na ca], .agg #[.int .i64 sb, .slice Ab nb cb]]) (by simp [results, Try.results8, go_sem, dcell2, lR0, lR1, lP0, lP1]) rfl ⟨_, sa, la, na, Aa, ca, sb, lb, nb, Ab, cb, rfl, hla, hna, Ma.out.mono (lo' := w.heap.size) (hi' := w_6.heap.size) (by omega) (by omega), hlb, hnb, Mb.out.mono (lo' := w.heap.size) (hi' := w_6.heap.size) (by omega) (by omega), TA.out.mono (lo' := w.heap.size) (hi' := w_6.heap.size) (by omega) (by omega), HT.out⟩


end Go.Proofs.Ytoklcjpokffocaa
