/-
  DRAWINGS of the reference: what the laws on controllers draw. What is drawn is left open. No condition but those that each theorem names.
-/
import Derived.Test.YtnbahmjimnhfbaaDrawC
namespace Go.Proofs.Ytnbahmjimnhfbaa
open Go.RowKit
set_option linter.unusedVariables false
set_option linter.unusedSimpArgs false

/-- Some list of lists, that lies in some blocks. -/
def TabR (w : World) (lo hi : Nat) (v : Value) : Prop := ∃ A n c T, v = .slice A n c ∧ n ≤ maxLen ∧ RdSS w lo hi A n (rrBool T)
section
variable {w w' : World} {lo hi : Nat} {v : Value}
theorem TabR.keep (h : TabR w lo hi v) (hk : ∀ p : Addr, lo ≤ p.block → p.block < hi → w'.cell? p = w.cell? p) : TabR w' lo hi v := by
  obtain ⟨A, n, c, T, e, h1, h2⟩ := h; exact ⟨A, n, c, T, e, h1, h2.keep hk⟩
theorem TabR.tch {l k : Nat} (h : TabR w lo hi v) (hb : Tch l k w w') (hw : hi ≤ w.heap.size) (hd : hi ≤ l ∨ k ≤ lo) : TabR w' lo hi v := h.keep fun _ h1 h2 => hb.cell (by omega) (by omega)
theorem TabR.below {B : Nat} (h : TabR w lo hi v) (hb : Below B w w') (hB : hi ≤ B) : TabR w' lo hi v := h.keep fun _ _ hp => hb.cell (by omega)
theorem TabR.alloc (h : TabR w lo hi v) (hw : hi ≤ w.heap.size) (o : Obj) : TabR (w.alloc o) lo hi v := h.below ((Below.refl _ _).alloc (Nat.le_refl _) _) hw
theorem TabR.set {g : Nat} (h : TabR w lo hi v) (hg : g < lo ∨ hi ≤ g) (j : Nat) (u : Value) : TabR (w.setCell ⟨g, j, none⟩ u) lo hi v := h.keep fun p h1 h2 => World.cell?_setCell_far _ _ _ _ (by show g ≠ p.block; omega)
theorem TabR.drew (h : TabR w lo hi v) : TabR w.drew lo hi v := h
theorem TabR.mono {lo' hi' : Nat} (h : TabR w lo hi v) (h1 : lo' ≤ lo) (h2 : hi ≤ hi') : TabR w lo' hi' v := by
  obtain ⟨A, n, c, T, e, k1, k2⟩ := h; exact ⟨A, n, c, T, e, k1, k2.mono h1 h2⟩
theorem TabA.reg (h : TabA w lo v) : TabR w lo w.heap.size v := h
theorem TabV.reg (h : TabV w lo w.heap.size v 24) : TabR w lo w.heap.size v := h.any
end
def Blw (w W : World) : Prop := Below w.heap.size w W
theorem Blw.setNew {w W : World} {g : Nat} (h : Blw w W) (hg : w.heap.size ≤ g) (j : Nat) (u : Value) : Blw w (W.setCell ⟨g, j, none⟩ u) := h.setCell hg u
theorem Blw.alloc_ {w W : World} (h : Blw w W) (o : Obj) : Blw w (W.alloc o) := h.alloc h.size _
theorem Blw.drew_ {w W : World} (h : Blw w W) : Blw w W.drew := h.trans (Joins.below_draws _ _ 1)
theorem Blw.thenT {w W W' : World} {b : Nat} (h : Blw w W) (t : Tch b (b + 1) W W') (hb : w.heap.size ≤ b) : Blw w W' := by
  refine ⟨t.os.trans h.os, t.tape.trans h.tape, t.output.trans h.output, Nat.le_trans h.size t.size, fun i hi => ?_⟩
  exact (t.block i (Nat.lt_of_lt_of_le hi h.size) (.inl (by omega))).trans (h.block i hi)

set_option maxRecDepth 100000 in
set_option maxHeartbeats 2000000 in
theorem l18Pair_g (b K : Nat) (hK : K ≤ 50000) (w : World) (h : Src w b K) :
    Calls Try.prog 69 #[.pointer (some ⟨b, 0, none⟩)] w fun e w' => ∃ (v : Value) (x y a0 a1 a2 a3 a4 d0 d1 d2 d3 d4 : Int), e = .returned (.tuple #[v, .agg #[.int .i64 x, .int .i64 y], .agg #[.int .i64 a0, .int .i64 a1, .int .i64 a2, .int .i64 a3, .int .i64 a4], .agg #[.int .i64 d0, .int .i64 d1, .int .i64 d2, .int .i64 d3, .int .i64 d4]]) ∧ TabR w' w.heap.size w'.heap.size v ∧ Src w' b (K + 2900) ∧ Tch b (b + 1) w w' := by
  have hlt := h.lt
  have HS := hide h
  have HT := hide (Tch.refl b (b + 1) w)
  clear h
  go_enter Try.func69, Try.ntmps69
  go_wp2_with fail
  obtain ⟨w_1, hW⟩ : ∃ W : World, W = (((w.alloc (.cells #[.int .i64 0, .int .i64 0] 51)).alloc (.cells #[.int .i64 0, .int .i64 0, .int .i64 0, .int .i64 0, .int .i64 0] 53)).alloc (.cells #[.int .i64 0, .int .i64 0, .int .i64 0, .int .i64 0, .int .i64 0] 53)) := ⟨_, rfl⟩
  rw [← hW]
  have hs_w_1 : w_1.heap.size = w.heap.size + 3 := by rw [hW]; simp
  have bR : Box w_1 w.heap.size [.int .i64 0, .int .i64 0] := by rw [hW]; exact (((box_at _ _ _ _ (by simp)).alloc (by first | omega | (simp <;> omega) | simp) _).alloc (by first | omega | (simp <;> omega) | simp) _)
  have fR : Fz w_1 w.heap.size := by rw [hW]; exact (((fz_at _ _ _ _ (by simp)).alloc (by first | omega | (simp <;> omega) | simp) _).alloc (by first | omega | (simp <;> omega) | simp) _)
  have bP : Box w_1 (w.heap.size + 1) [.int .i64 0, .int .i64 0, .int .i64 0, .int .i64 0, .int .i64 0] := by rw [hW]; exact ((box_at _ _ _ _ (by simp)).alloc (by first | omega | (simp <;> omega) | simp) _)
  have fP : Fz w_1 (w.heap.size + 1) := by rw [hW]; exact ((fz_at _ _ _ _ (by simp)).alloc (by first | omega | (simp <;> omega) | simp) _)
  have bQ : Box w_1 (w.heap.size + 1 + 1) [.int .i64 0, .int .i64 0, .int .i64 0, .int .i64 0, .int .i64 0] := by rw [hW]; exact (box_at _ _ _ _ (by simp))
  have fQ : Fz w_1 (w.heap.size + 1 + 1) := by rw [hW]; exact (fz_at _ _ _ _ (by simp))
  replace HS := hide (show Src w_1 b K by rw [hW]; exact (((HS.out.alloc _).alloc _).alloc _))
  replace HT := hide (show Tch b (b + 1) w w_1 by rw [hW]; exact (((HT.out.alloc_ _).alloc_ _).alloc_ _))
  clear hW
  refine (l15Draw_g b K (by omega) _ HS.out).mono ?_
  rintro e w_2 ⟨v, rfl, hv, S1, t1⟩
  replace HS := hide S1
  clear S1
  have hs_w_2 : w_1.heap.size ≤ w_2.heap.size := t1.size
  replace bR := bR.tch t1 (by omega) (by omega)
  replace fR := fR.tch t1 (by omega) (by omega)
  replace bP := bP.tch t1 (by omega) (by omega)
  replace fP := fP.tch t1 (by omega) (by omega)
  replace bQ := bQ.tch t1 (by omega) (by omega)
  replace fQ := fQ.tch t1 (by omega) (by omega)
  replace HT := hide (HT.out.trans t1)
  clear t1
  have TA := hide hv.reg
  clear hv
  go_wp2_with fail
  refine (one_any b (K + 1400) 16 (by omega) (by omega) (by omega) _ HS.out).mono ?_
  rintro e w_3 ⟨p3, rfl, S1, t1⟩
  replace HS := hide S1
  clear S1
  have hs_w_3 : w_2.heap.size ≤ w_3.heap.size := t1.size
  replace bR := bR.tch t1 (by omega) (by omega)
  replace fR := fR.tch t1 (by omega) (by omega)
  replace bP := bP.tch t1 (by omega) (by omega)
  replace fP := fP.tch t1 (by omega) (by omega)
  replace bQ := bQ.tch t1 (by omega) (by omega)
  replace fQ := fQ.tch t1 (by omega) (by omega)
  replace TA := hide (TA.out.tch t1 (by omega) (by omega))
  replace HT := hide (HT.out.trans t1)
  clear t1
  cases p3
  · go_wp2_with fail
    refine (l18DrawRules_g b (K + 1402) (by omega) _ HS.out).mono ?_
    rintro e w_4 ⟨x, y, rfl, S1, t1⟩
    replace HS := hide S1
    clear S1
    have hs_w_4 : w_3.heap.size ≤ w_4.heap.size := t1.size
    replace bR := bR.tch t1 (by omega) (by omega)
    replace fR := fR.tch t1 (by omega) (by omega)
    replace bP := bP.tch t1 (by omega) (by omega)
    replace fP := fP.tch t1 (by omega) (by omega)
    replace bQ := bQ.tch t1 (by omega) (by omega)
    replace fQ := fQ.tch t1 (by omega) (by omega)
    replace TA := hide (TA.out.tch t1 (by omega) (by omega))
    replace HT := hide (HT.out.trans t1)
    clear t1
    go_wp2_with fail
    obtain ⟨w_5, hW⟩ : ∃ W : World, W = (w_4.alloc (.cells #[.int .i64 x, .int .i64 y] 51)) := ⟨_, rfl⟩
    rw [← hW]
    have hs_w_5 : w_5.heap.size = w_4.heap.size + 1 := by rw [hW]; simp
    replace bR : Box w_5 w.heap.size [.int .i64 0, .int .i64 0] := by rw [hW]; exact (bR.alloc (by first | omega | (simp <;> omega) | simp) _)
    replace fR : Fz w_5 w.heap.size := by rw [hW]; exact (fR.alloc (by first | omega | (simp <;> omega) | simp) _)
    replace bP : Box w_5 (w.heap.size + 1) [.int .i64 0, .int .i64 0, .int .i64 0, .int .i64 0, .int .i64 0] := by rw [hW]; exact (bP.alloc (by first | omega | (simp <;> omega) | simp) _)
    replace fP : Fz w_5 (w.heap.size + 1) := by rw [hW]; exact (fP.alloc (by first | omega | (simp <;> omega) | simp) _)
    replace bQ : Box w_5 (w.heap.size + 1 + 1) [.int .i64 0, .int .i64 0, .int .i64 0, .int .i64 0, .int .i64 0] := by rw [hW]; exact (bQ.alloc (by first | omega | (simp <;> omega) | simp) _)
    replace fQ : Fz w_5 (w.heap.size + 1 + 1) := by rw [hW]; exact (fQ.alloc (by first | omega | (simp <;> omega) | simp) _)
    replace TA := hide (show TabR w_5 w_1.heap.size w_2.heap.size v by rw [hW]; exact (TA.out.alloc (by first | omega | (simp <;> omega) | simp) _))
    have bC : Box w_5 w_4.heap.size [.int .i64 x, .int .i64 y] := by rw [hW]; exact (box_at _ _ _ _ (by simp))
    have fC : Fz w_5 w_4.heap.size := by rw [hW]; exact (fz_at _ _ _ _ (by simp))
    replace HS := hide (show Src w_5 b (K + 1412) by rw [hW]; exact (HS.out.alloc _))
    replace HT := hide (show Tch b (b + 1) w w_5 by rw [hW]; exact (HT.out.alloc_ _))
    clear hW
    refine (l18Draw_g b (K + 1412) (by omega) _ HS.out).mono ?_
    rintro e w_6 ⟨a0, a1, a2, a3, a4, rfl, S1, t1⟩
    replace HS := hide S1
    clear S1
    have hs_w_6 : w_5.heap.size ≤ w_6.heap.size := t1.size
    replace bR := bR.tch t1 (by omega) (by omega)
    replace fR := fR.tch t1 (by omega) (by omega)
    replace bP := bP.tch t1 (by omega) (by omega)
    replace fP := fP.tch t1 (by omega) (by omega)
    replace bQ := bQ.tch t1 (by omega) (by omega)
    replace fQ := fQ.tch t1 (by omega) (by omega)
    replace bC := bC.tch t1 (by omega) (by omega)
    replace fC := fC.tch t1 (by omega) (by omega)
    replace TA := hide (TA.out.tch t1 (by omega) (by omega))
    replace HT := hide (HT.out.trans t1)
    clear t1
    go_wp2_with fail
    obtain ⟨w_7, hW⟩ : ∃ W : World, W = (w_6.alloc (.cells #[.int .i64 a0, .int .i64 a1, .int .i64 a2, .int .i64 a3, .int .i64 a4] 53)) := ⟨_, rfl⟩
    rw [← hW]
    have hs_w_7 : w_7.heap.size = w_6.heap.size + 1 := by rw [hW]; simp
    replace bR : Box w_7 w.heap.size [.int .i64 0, .int .i64 0] := by rw [hW]; exact (bR.alloc (by first | omega | (simp <;> omega) | simp) _)
    replace fR : Fz w_7 w.heap.size := by rw [hW]; exact (fR.alloc (by first | omega | (simp <;> omega) | simp) _)
    replace bP : Box w_7 (w.heap.size + 1) [.int .i64 0, .int .i64 0, .int .i64 0, .int .i64 0, .int .i64 0] := by rw [hW]; exact (bP.alloc (by first | omega | (simp <;> omega) | simp) _)
    replace fP : Fz w_7 (w.heap.size + 1) := by rw [hW]; exact (fP.alloc (by first | omega | (simp <;> omega) | simp) _)
    replace bQ : Box w_7 (w.heap.size + 1 + 1) [.int .i64 0, .int .i64 0, .int .i64 0, .int .i64 0, .int .i64 0] := by rw [hW]; exact (bQ.alloc (by first | omega | (simp <;> omega) | simp) _)
    replace fQ : Fz w_7 (w.heap.size + 1 + 1) := by rw [hW]; exact (fQ.alloc (by first | omega | (simp <;> omega) | simp) _)
    replace bC : Box w_7 w_4.heap.size [.int .i64 x, .int .i64 y] := by rw [hW]; exact (bC.alloc (by first | omega | (simp <;> omega) | simp) _)
    replace fC : Fz w_7 w_4.heap.size := by rw [hW]; exact (fC.alloc (by first | omega | (simp <;> omega) | simp) _)
    replace TA := hide (show TabR w_7 w_1.heap.size w_2.heap.size v by rw [hW]; exact (TA.out.alloc (by first | omega | (simp <;> omega) | simp) _))
    have bD : Box w_7 w_6.heap.size [.int .i64 a0, .int .i64 a1, .int .i64 a2, .int .i64 a3, .int .i64 a4] := by rw [hW]; exact (box_at _ _ _ _ (by simp))
    have fD : Fz w_7 w_6.heap.size := by rw [hW]; exact (fz_at _ _ _ _ (by simp))
    replace HS := hide (show Src w_7 b (K + 1432) by rw [hW]; exact (HS.out.alloc _))
    replace HT := hide (show Tch b (b + 1) w w_7 by rw [hW]; exact (HT.out.alloc_ _))
    clear hW
    refine (l18Draw_g b (K + 1432) (by omega) _ HS.out).mono ?_
    rintro e w_8 ⟨d0, d1, d2, d3, d4, rfl, S1, t1⟩
    replace HS := hide S1
    clear S1
    have hs_w_8 : w_7.heap.size ≤ w_8.heap.size := t1.size
    replace bR := bR.tch t1 (by omega) (by omega)
    replace fR := fR.tch t1 (by omega) (by omega)
    replace bP := bP.tch t1 (by omega) (by omega)
    replace fP := fP.tch t1 (by omega) (by omega)
    replace bQ := bQ.tch t1 (by omega) (by omega)
    replace fQ := fQ.tch t1 (by omega) (by omega)
    replace bC := bC.tch t1 (by omega) (by omega)
    replace fC := fC.tch t1 (by omega) (by omega)
    replace bD := bD.tch t1 (by omega) (by omega)
    replace fD := fD.tch t1 (by omega) (by omega)
    replace TA := hide (TA.out.tch t1 (by omega) (by omega))
    replace HT := hide (HT.out.trans t1)
    clear t1
    go_wp2_with fail
    obtain ⟨w_9, hW⟩ : ∃ W : World, W = (w_8.alloc (.cells #[.int .i64 d0, .int .i64 d1, .int .i64 d2, .int .i64 d3, .int .i64 d4] 53)) := ⟨_, rfl⟩
    rw [← hW]
    have hs_w_9 : w_9.heap.size = w_8.heap.size + 1 := by rw [hW]; simp
    replace bR : Box w_9 w.heap.size [.int .i64 0, .int .i64 0] := by rw [hW]; exact (bR.alloc (by first | omega | (simp <;> omega) | simp) _)
    replace fR : Fz w_9 w.heap.size := by rw [hW]; exact (fR.alloc (by first | omega | (simp <;> omega) | simp) _)
    replace bP : Box w_9 (w.heap.size + 1) [.int .i64 0, .int .i64 0, .int .i64 0, .int .i64 0, .int .i64 0] := by rw [hW]; exact (bP.alloc (by first | omega | (simp <;> omega) | simp) _)
    replace fP : Fz w_9 (w.heap.size + 1) := by rw [hW]; exact (fP.alloc (by first | omega | (simp <;> omega) | simp) _)
    replace bQ : Box w_9 (w.heap.size + 1 + 1) [.int .i64 0, .int .i64 0, .int .i64 0, .int .i64 0, .int .i64 0] := by rw [hW]; exact (bQ.alloc (by first | omega | (simp <;> omega) | simp) _)
    replace fQ : Fz w_9 (w.heap.size + 1 + 1) := by rw [hW]; exact (fQ.alloc (by first | omega | (simp <;> omega) | simp) _)
    replace bC : Box w_9 w_4.heap.size [.int .i64 x, .int .i64 y] := by rw [hW]; exact (bC.alloc (by first | omega | (simp <;> omega) | simp) _)
    replace fC : Fz w_9 w_4.heap.size := by rw [hW]; exact (fC.alloc (by first | omega | (simp <;> omega) | simp) _)
    replace bD : Box w_9 w_6.heap.size [.int .i64 a0, .int .i64 a1, .int .i64 a2, .int .i64 a3, .int .i64 a4] := by rw [hW]; exact (bD.alloc (by first | omega | (simp <;> omega) | simp) _)
    replace fD : Fz w_9 w_6.heap.size := by rw [hW]; exact (fD.alloc (by first | omega | (simp <;> omega) | simp) _)
    replace TA := hide (show TabR w_9 w_1.heap.size w_2.heap.size v by rw [hW]; exact (TA.out.alloc (by first | omega | (simp <;> omega) | simp) _))
    have bE : Box w_9 w_8.heap.size [.int .i64 d0, .int .i64 d1, .int .i64 d2, .int .i64 d3, .int .i64 d4] := by rw [hW]; exact (box_at _ _ _ _ (by simp))
    have fE : Fz w_9 w_8.heap.size := by rw [hW]; exact (fz_at _ _ _ _ (by simp))
    replace HS := hide (show Src w_9 b (K + 1452) by rw [hW]; exact (HS.out.alloc _))
    replace HT := hide (show Tch b (b + 1) w w_9 by rw [hW]; exact (HT.out.alloc_ _))
    clear hW
    refine (one_any b (K + 1452) 4 (by omega) (by omega) (by omega) _ HS.out).mono ?_
    rintro e w_10 ⟨p10, rfl, S1, t1⟩
    replace HS := hide S1
    clear S1
    have hs_w_10 : w_9.heap.size ≤ w_10.heap.size := t1.size
    replace bR := bR.tch t1 (by omega) (by omega)
    replace fR := fR.tch t1 (by omega) (by omega)
    replace bP := bP.tch t1 (by omega) (by omega)
    replace fP := fP.tch t1 (by omega) (by omega)
    replace bQ := bQ.tch t1 (by omega) (by omega)
    replace fQ := fQ.tch t1 (by omega) (by omega)
    replace bC := bC.tch t1 (by omega) (by omega)
    replace fC := fC.tch t1 (by omega) (by omega)
    replace bD := bD.tch t1 (by omega) (by omega)
    replace fD := fD.tch t1 (by omega) (by omega)
    replace bE := bE.tch t1 (by omega) (by omega)
    replace fE := fE.tch t1 (by omega) (by omega)
    replace TA := hide (TA.out.tch t1 (by omega) (by omega))
    replace HT := hide (HT.out.trans t1)
    clear t1
    cases p10
    · have lD0 := bD 0 _ rfl
      have lD1 := bD 1 _ rfl
      have lD2 := bD 2 _ rfl
      have lD3 := bD 3 _ rfl
      have lD4 := bD 4 _ rfl
      have mD0 := fD 0
      have mD1 := fD 1
      have mD2 := fD 2
      have mD3 := fD 3
      have mD4 := fD 4
      have lE0 := bE 0 _ rfl
      have lE1 := bE 1 _ rfl
      have lE2 := bE 2 _ rfl
      have lE3 := bE 3 _ rfl
      have lE4 := bE 4 _ rfl
      have mE0 := fE 0
      have mE1 := fE 1
      have mE2 := fE 2
      have mE3 := fE 3
      have mE4 := fE 4
      go_wp2_with fail
      clear lD0 lD1 lD2 lD3 lD4 mD0 mD1 mD2 mD3 mD4
      clear lE0 lE1 lE2 lE3 lE4 mE0 mE1 mE2 mE3 mE4
      obtain ⟨w_11, hW⟩ : ∃ W : World, W = w_10.setCell ⟨w_6.heap.size, 2, none⟩ (.int .i64 d0) := ⟨_, rfl⟩
      rw [← hW]
      have hs_w_11 : w_11.heap.size = w_10.heap.size := by rw [hW]; simp [World.setCell]
      replace bR : Box w_11 w.heap.size [.int .i64 0, .int .i64 0] := by rw [hW]; exact bR.far _ _ (by show w_6.heap.size ≠ w.heap.size; omega)
      replace fR : Fz w_11 w.heap.size := by rw [hW]; exact fR.set _ _
      replace bP : Box w_11 (w.heap.size + 1) [.int .i64 0, .int .i64 0, .int .i64 0, .int .i64 0, .int .i64 0] := by rw [hW]; exact bP.far _ _ (by show w_6.heap.size ≠ (w.heap.size + 1); omega)
      replace fP : Fz w_11 (w.heap.size + 1) := by rw [hW]; exact fP.set _ _
      replace bQ : Box w_11 (w.heap.size + 1 + 1) [.int .i64 0, .int .i64 0, .int .i64 0, .int .i64 0, .int .i64 0] := by rw [hW]; exact bQ.far _ _ (by show w_6.heap.size ≠ (w.heap.size + 1 + 1); omega)
      replace fQ : Fz w_11 (w.heap.size + 1 + 1) := by rw [hW]; exact fQ.set _ _
      replace bC : Box w_11 w_4.heap.size [.int .i64 x, .int .i64 y] := by rw [hW]; exact bC.far _ _ (by show w_6.heap.size ≠ w_4.heap.size; omega)
      replace fC : Fz w_11 w_4.heap.size := by rw [hW]; exact fC.set _ _
      replace bD : Box w_11 w_6.heap.size [.int .i64 a0, .int .i64 a1, .int .i64 d0, .int .i64 a3, .int .i64 a4] := by rw [hW]; exact bD.put 2 _ (by simp)
      replace fD : Fz w_11 w_6.heap.size := by rw [hW]; exact fD.set _ _
      replace bE : Box w_11 w_8.heap.size [.int .i64 d0, .int .i64 d1, .int .i64 d2, .int .i64 d3, .int .i64 d4] := by rw [hW]; exact bE.far _ _ (by show w_6.heap.size ≠ w_8.heap.size; omega)
      replace fE : Fz w_11 w_8.heap.size := by rw [hW]; exact fE.set _ _
      replace TA := hide (show TabR w_11 w_1.heap.size w_2.heap.size v by rw [hW]; exact TA.out.set (by omega) _ _)
      replace HS := hide (show Src w_11 b (K + 1454) by rw [hW]; exact HS.out.setNew (by omega) _ _)
      replace HT := hide (show Tch b (b + 1) w w_11 by rw [hW]; exact HT.out.setNew (by omega) _ _)
      clear hW
      obtain ⟨w_12, hW⟩ : ∃ W : World, W = w_11.setCell ⟨w_8.heap.size, 2, none⟩ (.int .i64 a0) := ⟨_, rfl⟩
      rw [← hW]
      have hs_w_12 : w_12.heap.size = w_11.heap.size := by rw [hW]; simp [World.setCell]
      replace bR : Box w_12 w.heap.size [.int .i64 0, .int .i64 0] := by rw [hW]; exact bR.far _ _ (by show w_8.heap.size ≠ w.heap.size; omega)
      replace fR : Fz w_12 w.heap.size := by rw [hW]; exact fR.set _ _
      replace bP : Box w_12 (w.heap.size + 1) [.int .i64 0, .int .i64 0, .int .i64 0, .int .i64 0, .int .i64 0] := by rw [hW]; exact bP.far _ _ (by show w_8.heap.size ≠ (w.heap.size + 1); omega)
      replace fP : Fz w_12 (w.heap.size + 1) := by rw [hW]; exact fP.set _ _
      replace bQ : Box w_12 (w.heap.size + 1 + 1) [.int .i64 0, .int .i64 0, .int .i64 0, .int .i64 0, .int .i64 0] := by rw [hW]; exact bQ.far _ _ (by show w_8.heap.size ≠ (w.heap.size + 1 + 1); omega)
      replace fQ : Fz w_12 (w.heap.size + 1 + 1) := by rw [hW]; exact fQ.set _ _
      replace bC : Box w_12 w_4.heap.size [.int .i64 x, .int .i64 y] := by rw [hW]; exact bC.far _ _ (by show w_8.heap.size ≠ w_4.heap.size; omega)
      replace fC : Fz w_12 w_4.heap.size := by rw [hW]; exact fC.set _ _
      replace bD : Box w_12 w_6.heap.size [.int .i64 a0, .int .i64 a1, .int .i64 d0, .int .i64 a3, .int .i64 a4] := by rw [hW]; exact bD.far _ _ (by show w_8.heap.size ≠ w_6.heap.size; omega)
      replace fD : Fz w_12 w_6.heap.size := by rw [hW]; exact fD.set _ _
      replace bE : Box w_12 w_8.heap.size [.int .i64 d0, .int .i64 d1, .int .i64 a0, .int .i64 d3, .int .i64 d4] := by rw [hW]; exact bE.put 2 _ (by simp)
      replace fE : Fz w_12 w_8.heap.size := by rw [hW]; exact fE.set _ _
      replace TA := hide (show TabR w_12 w_1.heap.size w_2.heap.size v by rw [hW]; exact TA.out.set (by omega) _ _)
      replace HS := hide (show Src w_12 b (K + 1454) by rw [hW]; exact HS.out.setNew (by omega) _ _)
      replace HT := hide (show Tch b (b + 1) w w_12 by rw [hW]; exact HT.out.setNew (by omega) _ _)
      clear hW
      obtain ⟨w_13, hW⟩ : ∃ W : World, W = w_12.setCell ⟨w_6.heap.size, 3, none⟩ (.int .i64 0) := ⟨_, rfl⟩
      rw [← hW]
      have hs_w_13 : w_13.heap.size = w_12.heap.size := by rw [hW]; simp [World.setCell]
      replace bR : Box w_13 w.heap.size [.int .i64 0, .int .i64 0] := by rw [hW]; exact bR.far _ _ (by show w_6.heap.size ≠ w.heap.size; omega)
      replace fR : Fz w_13 w.heap.size := by rw [hW]; exact fR.set _ _
      replace bP : Box w_13 (w.heap.size + 1) [.int .i64 0, .int .i64 0, .int .i64 0, .int .i64 0, .int .i64 0] := by rw [hW]; exact bP.far _ _ (by show w_6.heap.size ≠ (w.heap.size + 1); omega)
      replace fP : Fz w_13 (w.heap.size + 1) := by rw [hW]; exact fP.set _ _
      replace bQ : Box w_13 (w.heap.size + 1 + 1) [.int .i64 0, .int .i64 0, .int .i64 0, .int .i64 0, .int .i64 0] := by rw [hW]; exact bQ.far _ _ (by show w_6.heap.size ≠ (w.heap.size + 1 + 1); omega)
      replace fQ : Fz w_13 (w.heap.size + 1 + 1) := by rw [hW]; exact fQ.set _ _
      replace bC : Box w_13 w_4.heap.size [.int .i64 x, .int .i64 y] := by rw [hW]; exact bC.far _ _ (by show w_6.heap.size ≠ w_4.heap.size; omega)
      replace fC : Fz w_13 w_4.heap.size := by rw [hW]; exact fC.set _ _
      replace bD : Box w_13 w_6.heap.size [.int .i64 a0, .int .i64 a1, .int .i64 d0, .int .i64 0, .int .i64 a4] := by rw [hW]; exact bD.put 3 _ (by simp)
      replace fD : Fz w_13 w_6.heap.size := by rw [hW]; exact fD.set _ _
      replace bE : Box w_13 w_8.heap.size [.int .i64 d0, .int .i64 d1, .int .i64 a0, .int .i64 d3, .int .i64 d4] := by rw [hW]; exact bE.far _ _ (by show w_6.heap.size ≠ w_8.heap.size; omega)
      replace fE : Fz w_13 w_8.heap.size := by rw [hW]; exact fE.set _ _
      replace TA := hide (show TabR w_13 w_1.heap.size w_2.heap.size v by rw [hW]; exact TA.out.set (by omega) _ _)
      replace HS := hide (show Src w_13 b (K + 1454) by rw [hW]; exact HS.out.setNew (by omega) _ _)
      replace HT := hide (show Tch b (b + 1) w w_13 by rw [hW]; exact HT.out.setNew (by omega) _ _)
      clear hW
      obtain ⟨w_14, hW⟩ : ∃ W : World, W = w_13.setCell ⟨w_8.heap.size, 3, none⟩ (.int .i64 0) := ⟨_, rfl⟩
      rw [← hW]
      have hs_w_14 : w_14.heap.size = w_13.heap.size := by rw [hW]; simp [World.setCell]
      replace bR : Box w_14 w.heap.size [.int .i64 0, .int .i64 0] := by rw [hW]; exact bR.far _ _ (by show w_8.heap.size ≠ w.heap.size; omega)
      replace fR : Fz w_14 w.heap.size := by rw [hW]; exact fR.set _ _
      replace bP : Box w_14 (w.heap.size + 1) [.int .i64 0, .int .i64 0, .int .i64 0, .int .i64 0, .int .i64 0] := by rw [hW]; exact bP.far _ _ (by show w_8.heap.size ≠ (w.heap.size + 1); omega)
      replace fP : Fz w_14 (w.heap.size + 1) := by rw [hW]; exact fP.set _ _
      replace bQ : Box w_14 (w.heap.size + 1 + 1) [.int .i64 0, .int .i64 0, .int .i64 0, .int .i64 0, .int .i64 0] := by rw [hW]; exact bQ.far _ _ (by show w_8.heap.size ≠ (w.heap.size + 1 + 1); omega)
      replace fQ : Fz w_14 (w.heap.size + 1 + 1) := by rw [hW]; exact fQ.set _ _
      replace bC : Box w_14 w_4.heap.size [.int .i64 x, .int .i64 y] := by rw [hW]; exact bC.far _ _ (by show w_8.heap.size ≠ w_4.heap.size; omega)
      replace fC : Fz w_14 w_4.heap.size := by rw [hW]; exact fC.set _ _
      replace bD : Box w_14 w_6.heap.size [.int .i64 a0, .int .i64 a1, .int .i64 d0, .int .i64 0, .int .i64 a4] := by rw [hW]; exact bD.far _ _ (by show w_8.heap.size ≠ w_6.heap.size; omega)
      replace fD : Fz w_14 w_6.heap.size := by rw [hW]; exact fD.set _ _
      replace bE : Box w_14 w_8.heap.size [.int .i64 d0, .int .i64 d1, .int .i64 a0, .int .i64 0, .int .i64 d4] := by rw [hW]; exact bE.put 3 _ (by simp)
      replace fE : Fz w_14 w_8.heap.size := by rw [hW]; exact fE.set _ _
      replace TA := hide (show TabR w_14 w_1.heap.size w_2.heap.size v by rw [hW]; exact TA.out.set (by omega) _ _)
      replace HS := hide (show Src w_14 b (K + 1454) by rw [hW]; exact HS.out.setNew (by omega) _ _)
      replace HT := hide (show Tch b (b + 1) w w_14 by rw [hW]; exact HT.out.setNew (by omega) _ _)
      clear hW
      have lC0 := bC 0 _ rfl
      have lC1 := bC 1 _ rfl
      have lD0 := bD 0 _ rfl
      have lD1 := bD 1 _ rfl
      have lD2 := bD 2 _ rfl
      have lD3 := bD 3 _ rfl
      have lD4 := bD 4 _ rfl
      have lE0 := bE 0 _ rfl
      have lE1 := bE 1 _ rfl
      have lE2 := bE 2 _ rfl
      have lE3 := bE 3 _ rfl
      have lE4 := bE 4 _ rfl
      have lR0 := bR 0 _ rfl
      have lR1 := bR 1 _ rfl
      have mR0 := fR 0
      have mR1 := fR 1
      have lP0 := bP 0 _ rfl
      have lP1 := bP 1 _ rfl
      have lP2 := bP 2 _ rfl
      have lP3 := bP 3 _ rfl
      have lP4 := bP 4 _ rfl
      have mP0 := fP 0
      have mP1 := fP 1
      have mP2 := fP 2
      have mP3 := fP 3
      have mP4 := fP 4
      have lQ0 := bQ 0 _ rfl
      have lQ1 := bQ 1 _ rfl
      have lQ2 := bQ 2 _ rfl
      have lQ3 := bQ 3 _ rfl
      have lQ4 := bQ 4 _ rfl
      have mQ0 := fQ 0
      have mQ1 := fQ 1
      have mQ2 := fQ 2
      have mQ3 := fQ 3
      have mQ4 := fQ 4
      go_wp2_with fail
      go_region
      all_goals (try go_wp2_with fail)
      clear lC0 lC1
      clear lD0 lD1 lD2 lD3 lD4
      clear lE0 lE1 lE2 lE3 lE4
      clear lR0 lR1 mR0 mR1
      clear lP0 lP1 lP2 lP3 lP4 mP0 mP1 mP2 mP3 mP4
      clear lQ0 lQ1 lQ2 lQ3 lQ4 mQ0 mQ1 mQ2 mQ3 mQ4
      obtain ⟨w_15, hW⟩ : ∃ W : World, W = ((((((((((((w_14.setCell ⟨w.heap.size, 0, none⟩ (.int .i64 x)).setCell ⟨w.heap.size, 1, none⟩ (.int .i64 y)).setCell ⟨(w.heap.size + 1), 0, none⟩ (.int .i64 a0)).setCell ⟨(w.heap.size + 1), 1, none⟩ (.int .i64 a1)).setCell ⟨(w.heap.size + 1), 2, none⟩ (.int .i64 d0)).setCell ⟨(w.heap.size + 1), 3, none⟩ (.int .i64 0)).setCell ⟨(w.heap.size + 1), 4, none⟩ (.int .i64 a4)).setCell ⟨(w.heap.size + 1 + 1), 0, none⟩ (.int .i64 d0)).setCell ⟨(w.heap.size + 1 + 1), 1, none⟩ (.int .i64 d1)).setCell ⟨(w.heap.size + 1 + 1), 2, none⟩ (.int .i64 a0)).setCell ⟨(w.heap.size + 1 + 1), 3, none⟩ (.int .i64 0)).setCell ⟨(w.heap.size + 1 + 1), 4, none⟩ (.int .i64 d4)) := ⟨_, rfl⟩
      rw [← hW]
      have hs_w_15 : w_15.heap.size = w_14.heap.size := by rw [hW]; simp [World.setCell]
      have cR : Box w_15 w.heap.size [.int .i64 x, .int .i64 y] := by rw [hW]; exact ((((((((((((bR.put 0 _ (by simp)).put 1 _ (by simp)).far _ _ (by show (w.heap.size + 1) ≠ w.heap.size; omega)).far _ _ (by show (w.heap.size + 1) ≠ w.heap.size; omega)).far _ _ (by show (w.heap.size + 1) ≠ w.heap.size; omega)).far _ _ (by show (w.heap.size + 1) ≠ w.heap.size; omega)).far _ _ (by show (w.heap.size + 1) ≠ w.heap.size; omega)).far _ _ (by show (w.heap.size + 1 + 1) ≠ w.heap.size; omega)).far _ _ (by show (w.heap.size + 1 + 1) ≠ w.heap.size; omega)).far _ _ (by show (w.heap.size + 1 + 1) ≠ w.heap.size; omega)).far _ _ (by show (w.heap.size + 1 + 1) ≠ w.heap.size; omega)).far _ _ (by show (w.heap.size + 1 + 1) ≠ w.heap.size; omega))
      have cP : Box w_15 (w.heap.size + 1) [.int .i64 a0, .int .i64 a1, .int .i64 d0, .int .i64 0, .int .i64 a4] := by rw [hW]; exact ((((((((((((bP.far _ _ (by show w.heap.size ≠ (w.heap.size + 1); omega)).far _ _ (by show w.heap.size ≠ (w.heap.size + 1); omega)).put 0 _ (by simp)).put 1 _ (by simp)).put 2 _ (by simp)).put 3 _ (by simp)).put 4 _ (by simp)).far _ _ (by show (w.heap.size + 1 + 1) ≠ (w.heap.size + 1); omega)).far _ _ (by show (w.heap.size + 1 + 1) ≠ (w.heap.size + 1); omega)).far _ _ (by show (w.heap.size + 1 + 1) ≠ (w.heap.size + 1); omega)).far _ _ (by show (w.heap.size + 1 + 1) ≠ (w.heap.size + 1); omega)).far _ _ (by show (w.heap.size + 1 + 1) ≠ (w.heap.size + 1); omega))
      have cQ : Box w_15 (w.heap.size + 1 + 1) [.int .i64 d0, .int .i64 d1, .int .i64 a0, .int .i64 0, .int .i64 d4] := by rw [hW]; exact ((((((((((((bQ.far _ _ (by show w.heap.size ≠ (w.heap.size + 1 + 1); omega)).far _ _ (by show w.heap.size ≠ (w.heap.size + 1 + 1); omega)).far _ _ (by show (w.heap.size + 1) ≠ (w.heap.size + 1 + 1); omega)).far _ _ (by show (w.heap.size + 1) ≠ (w.heap.size + 1 + 1); omega)).far _ _ (by show (w.heap.size + 1) ≠ (w.heap.size + 1 + 1); omega)).far _ _ (by show (w.heap.size + 1) ≠ (w.heap.size + 1 + 1); omega)).far _ _ (by show (w.heap.size + 1) ≠ (w.heap.size + 1 + 1); omega)).put 0 _ (by simp)).put 1 _ (by simp)).put 2 _ (by simp)).put 3 _ (by simp)).put 4 _ (by simp))
      have cC : Box w_15 w_4.heap.size [.int .i64 x, .int .i64 y] := by rw [hW]; exact ((((((((((((bC.far _ _ (by show w.heap.size ≠ w_4.heap.size; omega)).far _ _ (by show w.heap.size ≠ w_4.heap.size; omega)).far _ _ (by show (w.heap.size + 1) ≠ w_4.heap.size; omega)).far _ _ (by show (w.heap.size + 1) ≠ w_4.heap.size; omega)).far _ _ (by show (w.heap.size + 1) ≠ w_4.heap.size; omega)).far _ _ (by show (w.heap.size + 1) ≠ w_4.heap.size; omega)).far _ _ (by show (w.heap.size + 1) ≠ w_4.heap.size; omega)).far _ _ (by show (w.heap.size + 1 + 1) ≠ w_4.heap.size; omega)).far _ _ (by show (w.heap.size + 1 + 1) ≠ w_4.heap.size; omega)).far _ _ (by show (w.heap.size + 1 + 1) ≠ w_4.heap.size; omega)).far _ _ (by show (w.heap.size + 1 + 1) ≠ w_4.heap.size; omega)).far _ _ (by show (w.heap.size + 1 + 1) ≠ w_4.heap.size; omega))
      have cD : Box w_15 w_6.heap.size [.int .i64 a0, .int .i64 a1, .int .i64 d0, .int .i64 0, .int .i64 a4] := by rw [hW]; exact ((((((((((((bD.far _ _ (by show w.heap.size ≠ w_6.heap.size; omega)).far _ _ (by show w.heap.size ≠ w_6.heap.size; omega)).far _ _ (by show (w.heap.size + 1) ≠ w_6.heap.size; omega)).far _ _ (by show (w.heap.size + 1) ≠ w_6.heap.size; omega)).far _ _ (by show (w.heap.size + 1) ≠ w_6.heap.size; omega)).far _ _ (by show (w.heap.size + 1) ≠ w_6.heap.size; omega)).far _ _ (by show (w.heap.size + 1) ≠ w_6.heap.size; omega)).far _ _ (by show (w.heap.size + 1 + 1) ≠ w_6.heap.size; omega)).far _ _ (by show (w.heap.size + 1 + 1) ≠ w_6.heap.size; omega)).far _ _ (by show (w.heap.size + 1 + 1) ≠ w_6.heap.size; omega)).far _ _ (by show (w.heap.size + 1 + 1) ≠ w_6.heap.size; omega)).far _ _ (by show (w.heap.size + 1 + 1) ≠ w_6.heap.size; omega))
      have cE : Box w_15 w_8.heap.size [.int .i64 d0, .int .i64 d1, .int .i64 a0, .int .i64 0, .int .i64 d4] := by rw [hW]; exact ((((((((((((bE.far _ _ (by show w.heap.size ≠ w_8.heap.size; omega)).far _ _ (by show w.heap.size ≠ w_8.heap.size; omega)).far _ _ (by show (w.heap.size + 1) ≠ w_8.heap.size; omega)).far _ _ (by show (w.heap.size + 1) ≠ w_8.heap.size; omega)).far _ _ (by show (w.heap.size + 1) ≠ w_8.heap.size; omega)).far _ _ (by show (w.heap.size + 1) ≠ w_8.heap.size; omega)).far _ _ (by show (w.heap.size + 1) ≠ w_8.heap.size; omega)).far _ _ (by show (w.heap.size + 1 + 1) ≠ w_8.heap.size; omega)).far _ _ (by show (w.heap.size + 1 + 1) ≠ w_8.heap.size; omega)).far _ _ (by show (w.heap.size + 1 + 1) ≠ w_8.heap.size; omega)).far _ _ (by show (w.heap.size + 1 + 1) ≠ w_8.heap.size; omega)).far _ _ (by show (w.heap.size + 1 + 1) ≠ w_8.heap.size; omega))
      replace bR := cR
      clear cR
      replace bP := cP
      clear cP
      replace bQ := cQ
      clear cQ
      replace bC := cC
      clear cC
      replace bD := cD
      clear cD
      replace bE := cE
      clear cE
      replace TA := hide (show TabR w_15 w_1.heap.size w_2.heap.size v by rw [hW]; exact ((((((((((((TA.out.set (by omega) _ _).set (by omega) _ _).set (by omega) _ _).set (by omega) _ _).set (by omega) _ _).set (by omega) _ _).set (by omega) _ _).set (by omega) _ _).set (by omega) _ _).set (by omega) _ _).set (by omega) _ _).set (by omega) _ _))
      replace HS := hide (show Src w_15 b (K + 1454) by rw [hW]; exact ((((((((((((HS.out.setNew (by omega) _ _).setNew (by omega) _ _).setNew (by omega) _ _).setNew (by omega) _ _).setNew (by omega) _ _).setNew (by omega) _ _).setNew (by omega) _ _).setNew (by omega) _ _).setNew (by omega) _ _).setNew (by omega) _ _).setNew (by omega) _ _).setNew (by omega) _ _))
      replace HT := hide (show Tch b (b + 1) w w_15 by rw [hW]; exact ((((((((((((HT.out.setNew (by omega) _ _).setNew (by omega) _ _).setNew (by omega) _ _).setNew (by omega) _ _).setNew (by omega) _ _).setNew (by omega) _ _).setNew (by omega) _ _).setNew (by omega) _ _).setNew (by omega) _ _).setNew (by omega) _ _).setNew (by omega) _ _).setNew (by omega) _ _))
      clear hW
      have lR0 := bR 0 _ rfl
      have lR1 := bR 1 _ rfl
      have lP0 := bP 0 _ rfl
      have lP1 := bP 1 _ rfl
      have lP2 := bP 2 _ rfl
      have lP3 := bP 3 _ rfl
      have lP4 := bP 4 _ rfl
      have lQ0 := bQ 0 _ rfl
      have lQ1 := bQ 1 _ rfl
      have lQ2 := bQ 2 _ rfl
      have lQ3 := bQ 3 _ rfl
      have lQ4 := bQ 4 _ rfl
      refine bodyPost_ret (v := .tuple #[v, .agg #[.int .i64 x, .int .i64 y], .agg #[.int .i64 a0, .int .i64 a1, .int .i64 d0, .int .i64 0, .int .i64 a4], .agg #[.int .i64 d0, .int .i64 d1, .int .i64 a0, .int .i64 0, .int .i64 d4]]) (by simp [results, Try.results69, go_sem, dcell2, lR0, lR1, lP0, lP1, lP2, lP3, lP4, lQ0, lQ1, lQ2, lQ3, lQ4]) rfl ⟨_, _, _, _, _, _, _, _, _, _, _, _, _, rfl, TA.out.mono (lo' := w.heap.size) (hi' := w_15.heap.size) (by omega) (by omega), HS.out.drew.mono (by omega), HT.out.drew_⟩
    · have lC0 := bC 0 _ rfl
      have lC1 := bC 1 _ rfl
      have lD0 := bD 0 _ rfl
      have lD1 := bD 1 _ rfl
      have lD2 := bD 2 _ rfl
      have lD3 := bD 3 _ rfl
      have lD4 := bD 4 _ rfl
      have lE0 := bE 0 _ rfl
      have lE1 := bE 1 _ rfl
      have lE2 := bE 2 _ rfl
      have lE3 := bE 3 _ rfl
      have lE4 := bE 4 _ rfl
      have lR0 := bR 0 _ rfl
      have lR1 := bR 1 _ rfl
      have mR0 := fR 0
      have mR1 := fR 1
      have lP0 := bP 0 _ rfl
      have lP1 := bP 1 _ rfl
      have lP2 := bP 2 _ rfl
      have lP3 := bP 3 _ rfl
      have lP4 := bP 4 _ rfl
      have mP0 := fP 0
      have mP1 := fP 1
      have mP2 := fP 2
      have mP3 := fP 3
      have mP4 := fP 4
      have lQ0 := bQ 0 _ rfl
      have lQ1 := bQ 1 _ rfl
      have lQ2 := bQ 2 _ rfl
      have lQ3 := bQ 3 _ rfl
      have lQ4 := bQ 4 _ rfl
      have mQ0 := fQ 0
      have mQ1 := fQ 1
      have mQ2 := fQ 2
      have mQ3 := fQ 3
      have mQ4 := fQ 4
      go_wp2_with fail
      go_region
      all_goals (try go_wp2_with fail)
      clear lC0 lC1
      clear lD0 lD1 lD2 lD3 lD4
      clear lE0 lE1 lE2 lE3 lE4
      clear lR0 lR1 mR0 mR1
      clear lP0 lP1 lP2 lP3 lP4 mP0 mP1 mP2 mP3 mP4
      clear lQ0 lQ1 lQ2 lQ3 lQ4 mQ0 mQ1 mQ2 mQ3 mQ4
      obtain ⟨w_11, hW⟩ : ∃ W : World, W = ((((((((((((w_10.setCell ⟨w.heap.size, 0, none⟩ (.int .i64 x)).setCell ⟨w.heap.size, 1, none⟩ (.int .i64 y)).setCell ⟨(w.heap.size + 1), 0, none⟩ (.int .i64 a0)).setCell ⟨(w.heap.size + 1), 1, none⟩ (.int .i64 a1)).setCell ⟨(w.heap.size + 1), 2, none⟩ (.int .i64 a2)).setCell ⟨(w.heap.size + 1), 3, none⟩ (.int .i64 a3)).setCell ⟨(w.heap.size + 1), 4, none⟩ (.int .i64 a4)).setCell ⟨(w.heap.size + 1 + 1), 0, none⟩ (.int .i64 d0)).setCell ⟨(w.heap.size + 1 + 1), 1, none⟩ (.int .i64 d1)).setCell ⟨(w.heap.size + 1 + 1), 2, none⟩ (.int .i64 d2)).setCell ⟨(w.heap.size + 1 + 1), 3, none⟩ (.int .i64 d3)).setCell ⟨(w.heap.size + 1 + 1), 4, none⟩ (.int .i64 d4)) := ⟨_, rfl⟩
      rw [← hW]
      have hs_w_11 : w_11.heap.size = w_10.heap.size := by rw [hW]; simp [World.setCell]
      have cR : Box w_11 w.heap.size [.int .i64 x, .int .i64 y] := by rw [hW]; exact ((((((((((((bR.put 0 _ (by simp)).put 1 _ (by simp)).far _ _ (by show (w.heap.size + 1) ≠ w.heap.size; omega)).far _ _ (by show (w.heap.size + 1) ≠ w.heap.size; omega)).far _ _ (by show (w.heap.size + 1) ≠ w.heap.size; omega)).far _ _ (by show (w.heap.size + 1) ≠ w.heap.size; omega)).far _ _ (by show (w.heap.size + 1) ≠ w.heap.size; omega)).far _ _ (by show (w.heap.size + 1 + 1) ≠ w.heap.size; omega)).far _ _ (by show (w.heap.size + 1 + 1) ≠ w.heap.size; omega)).far _ _ (by show (w.heap.size + 1 + 1) ≠ w.heap.size; omega)).far _ _ (by show (w.heap.size + 1 + 1) ≠ w.heap.size; omega)).far _ _ (by show (w.heap.size + 1 + 1) ≠ w.heap.size; omega))
      have cP : Box w_11 (w.heap.size + 1) [.int .i64 a0, .int .i64 a1, .int .i64 a2, .int .i64 a3, .int .i64 a4] := by rw [hW]; exact ((((((((((((bP.far _ _ (by show w.heap.size ≠ (w.heap.size + 1); omega)).far _ _ (by show w.heap.size ≠ (w.heap.size + 1); omega)).put 0 _ (by simp)).put 1 _ (by simp)).put 2 _ (by simp)).put 3 _ (by simp)).put 4 _ (by simp)).far _ _ (by show (w.heap.size + 1 + 1) ≠ (w.heap.size + 1); omega)).far _ _ (by show (w.heap.size + 1 + 1) ≠ (w.heap.size + 1); omega)).far _ _ (by show (w.heap.size + 1 + 1) ≠ (w.heap.size + 1); omega)).far _ _ (by show (w.heap.size + 1 + 1) ≠ (w.heap.size + 1); omega)).far _ _ (by show (w.heap.size + 1 + 1) ≠ (w.heap.size + 1); omega))
      have cQ : Box w_11 (w.heap.size + 1 + 1) [.int .i64 d0, .int .i64 d1, .int .i64 d2, .int .i64 d3, .int .i64 d4] := by rw [hW]; exact ((((((((((((bQ.far _ _ (by show w.heap.size ≠ (w.heap.size + 1 + 1); omega)).far _ _ (by show w.heap.size ≠ (w.heap.size + 1 + 1); omega)).far _ _ (by show (w.heap.size + 1) ≠ (w.heap.size + 1 + 1); omega)).far _ _ (by show (w.heap.size + 1) ≠ (w.heap.size + 1 + 1); omega)).far _ _ (by show (w.heap.size + 1) ≠ (w.heap.size + 1 + 1); omega)).far _ _ (by show (w.heap.size + 1) ≠ (w.heap.size + 1 + 1); omega)).far _ _ (by show (w.heap.size + 1) ≠ (w.heap.size + 1 + 1); omega)).put 0 _ (by simp)).put 1 _ (by simp)).put 2 _ (by simp)).put 3 _ (by simp)).put 4 _ (by simp))
      have cC : Box w_11 w_4.heap.size [.int .i64 x, .int .i64 y] := by rw [hW]; exact ((((((((((((bC.far _ _ (by show w.heap.size ≠ w_4.heap.size; omega)).far _ _ (by show w.heap.size ≠ w_4.heap.size; omega)).far _ _ (by show (w.heap.size + 1) ≠ w_4.heap.size; omega)).far _ _ (by show (w.heap.size + 1) ≠ w_4.heap.size; omega)).far _ _ (by show (w.heap.size + 1) ≠ w_4.heap.size; omega)).far _ _ (by show (w.heap.size + 1) ≠ w_4.heap.size; omega)).far _ _ (by show (w.heap.size + 1) ≠ w_4.heap.size; omega)).far _ _ (by show (w.heap.size + 1 + 1) ≠ w_4.heap.size; omega)).far _ _ (by show (w.heap.size + 1 + 1) ≠ w_4.heap.size; omega)).far _ _ (by show (w.heap.size + 1 + 1) ≠ w_4.heap.size; omega)).far _ _ (by show (w.heap.size + 1 + 1) ≠ w_4.heap.size; omega)).far _ _ (by show (w.heap.size + 1 + 1) ≠ w_4.heap.size; omega))
      have cD : Box w_11 w_6.heap.size [.int .i64 a0, .int .i64 a1, .int .i64 a2, .int .i64 a3, .int .i64 a4] := by rw [hW]; exact ((((((((((((bD.far _ _ (by show w.heap.size ≠ w_6.heap.size; omega)).far _ _ (by show w.heap.size ≠ w_6.heap.size; omega)).far _ _ (by show (w.heap.size + 1) ≠ w_6.heap.size; omega)).far _ _ (by show (w.heap.size + 1) ≠ w_6.heap.size; omega)).far _ _ (by show (w.heap.size + 1) ≠ w_6.heap.size; omega)).far _ _ (by show (w.heap.size + 1) ≠ w_6.heap.size; omega)).far _ _ (by show (w.heap.size + 1) ≠ w_6.heap.size; omega)).far _ _ (by show (w.heap.size + 1 + 1) ≠ w_6.heap.size; omega)).far _ _ (by show (w.heap.size + 1 + 1) ≠ w_6.heap.size; omega)).far _ _ (by show (w.heap.size + 1 + 1) ≠ w_6.heap.size; omega)).far _ _ (by show (w.heap.size + 1 + 1) ≠ w_6.heap.size; omega)).far _ _ (by show (w.heap.size + 1 + 1) ≠ w_6.heap.size; omega))
      have cE : Box w_11 w_8.heap.size [.int .i64 d0, .int .i64 d1, .int .i64 d2, .int .i64 d3, .int .i64 d4] := by rw [hW]; exact ((((((((((((bE.far _ _ (by show w.heap.size ≠ w_8.heap.size; omega)).far _ _ (by show w.heap.size ≠ w_8.heap.size; omega)).far _ _ (by show (w.heap.size + 1) ≠ w_8.heap.size; omega)).far _ _ (by show (w.heap.size + 1) ≠ w_8.heap.size; omega)).far _ _ (by show (w.heap.size + 1) ≠ w_8.heap.size; omega)).far _ _ (by show (w.heap.size + 1) ≠ w_8.heap.size; omega)).far _ _ (by show (w.heap.size + 1) ≠ w_8.heap.size; omega)).far _ _ (by show (w.heap.size + 1 + 1) ≠ w_8.heap.size; omega)).far _ _ (by show (w.heap.size + 1 + 1) ≠ w_8.heap.size; omega)).far _ _ (by show (w.heap.size + 1 + 1) ≠ w_8.heap.size; omega)).far _ _ (by show (w.heap.size + 1 + 1) ≠ w_8.heap.size; omega)).far _ _ (by show (w.heap.size + 1 + 1) ≠ w_8.heap.size; omega))
      replace bR := cR
      clear cR
      replace bP := cP
      clear cP
      replace bQ := cQ
      clear cQ
      replace bC := cC
      clear cC
      replace bD := cD
      clear cD
      replace bE := cE
      clear cE
      replace TA := hide (show TabR w_11 w_1.heap.size w_2.heap.size v by rw [hW]; exact ((((((((((((TA.out.set (by omega) _ _).set (by omega) _ _).set (by omega) _ _).set (by omega) _ _).set (by omega) _ _).set (by omega) _ _).set (by omega) _ _).set (by omega) _ _).set (by omega) _ _).set (by omega) _ _).set (by omega) _ _).set (by omega) _ _))
      replace HS := hide (show Src w_11 b (K + 1454) by rw [hW]; exact ((((((((((((HS.out.setNew (by omega) _ _).setNew (by omega) _ _).setNew (by omega) _ _).setNew (by omega) _ _).setNew (by omega) _ _).setNew (by omega) _ _).setNew (by omega) _ _).setNew (by omega) _ _).setNew (by omega) _ _).setNew (by omega) _ _).setNew (by omega) _ _).setNew (by omega) _ _))
      replace HT := hide (show Tch b (b + 1) w w_11 by rw [hW]; exact ((((((((((((HT.out.setNew (by omega) _ _).setNew (by omega) _ _).setNew (by omega) _ _).setNew (by omega) _ _).setNew (by omega) _ _).setNew (by omega) _ _).setNew (by omega) _ _).setNew (by omega) _ _).setNew (by omega) _ _).setNew (by omega) _ _).setNew (by omega) _ _).setNew (by omega) _ _))
      clear hW
      have lR0 := bR 0 _ rfl
      have lR1 := bR 1 _ rfl
      have lP0 := bP 0 _ rfl
      have lP1 := bP 1 _ rfl
      have lP2 := bP 2 _ rfl
      have lP3 := bP 3 _ rfl
      have lP4 := bP 4 _ rfl
      have lQ0 := bQ 0 _ rfl
      have lQ1 := bQ 1 _ rfl
      have lQ2 := bQ 2 _ rfl
      have lQ3 := bQ 3 _ rfl
      have lQ4 := bQ 4 _ rfl
      refine bodyPost_ret (v := .tuple #[v, .agg #[.int .i64 x, .int .i64 y], .agg #[.int .i64 a0, .int .i64 a1, .int .i64 a2, .int .i64 a3, .int .i64 a4], .agg #[.int .i64 d0, .int .i64 d1, .int .i64 d2, .int .i64 d3, .int .i64 d4]]) (by simp [results, Try.results69, go_sem, dcell2, lR0, lR1, lP0, lP1, lP2, lP3, lP4, lQ0, lQ1, lQ2, lQ3, lQ4]) rfl ⟨_, _, _, _, _, _, _, _, _, _, _, _, _, rfl, TA.out.mono (lo' := w.heap.size) (hi' := w_11.heap.size) (by omega) (by omega), HS.out.drew.mono (by omega), HT.out.drew_⟩
  · go_wp2_with fail
    clear TA
    refine (l15Spoil_g b (K + 1402) (by omega) _ HS.out).mono ?_
    rintro e w_4 ⟨v2, rfl, hv, S1, t1⟩
    replace HS := hide S1
    clear S1
    have hs_w_4 : w_3.heap.size ≤ w_4.heap.size := t1.size
    replace bR := bR.tch t1 (by omega) (by omega)
    replace fR := fR.tch t1 (by omega) (by omega)
    replace bP := bP.tch t1 (by omega) (by omega)
    replace fP := fP.tch t1 (by omega) (by omega)
    replace bQ := bQ.tch t1 (by omega) (by omega)
    replace fQ := fQ.tch t1 (by omega) (by omega)
    replace HT := hide (HT.out.trans t1)
    clear t1
    have TA := hide hv.reg
    clear hv
    go_wp2_with fail
    refine (l18DrawRules_g b (K + 2812) (by omega) _ HS.out).mono ?_
    rintro e w_5 ⟨x, y, rfl, S1, t1⟩
    replace HS := hide S1
    clear S1
    have hs_w_5 : w_4.heap.size ≤ w_5.heap.size := t1.size
    replace bR := bR.tch t1 (by omega) (by omega)
    replace fR := fR.tch t1 (by omega) (by omega)
    replace bP := bP.tch t1 (by omega) (by omega)
    replace fP := fP.tch t1 (by omega) (by omega)
    replace bQ := bQ.tch t1 (by omega) (by omega)
    replace fQ := fQ.tch t1 (by omega) (by omega)
    replace TA := hide (TA.out.tch t1 (by omega) (by omega))
    replace HT := hide (HT.out.trans t1)
    clear t1
    go_wp2_with fail
    obtain ⟨w_6, hW⟩ : ∃ W : World, W = (w_5.alloc (.cells #[.int .i64 x, .int .i64 y] 51)) := ⟨_, rfl⟩
    rw [← hW]
    have hs_w_6 : w_6.heap.size = w_5.heap.size + 1 := by rw [hW]; simp
    replace bR : Box w_6 w.heap.size [.int .i64 0, .int .i64 0] := by rw [hW]; exact (bR.alloc (by first | omega | (simp <;> omega) | simp) _)
    replace fR : Fz w_6 w.heap.size := by rw [hW]; exact (fR.alloc (by first | omega | (simp <;> omega) | simp) _)
    replace bP : Box w_6 (w.heap.size + 1) [.int .i64 0, .int .i64 0, .int .i64 0, .int .i64 0, .int .i64 0] := by rw [hW]; exact (bP.alloc (by first | omega | (simp <;> omega) | simp) _)
    replace fP : Fz w_6 (w.heap.size + 1) := by rw [hW]; exact (fP.alloc (by first | omega | (simp <;> omega) | simp) _)
    replace bQ : Box w_6 (w.heap.size + 1 + 1) [.int .i64 0, .int .i64 0, .int .i64 0, .int .i64 0, .int .i64 0] := by rw [hW]; exact (bQ.alloc (by first | omega | (simp <;> omega) | simp) _)
    replace fQ : Fz w_6 (w.heap.size + 1 + 1) := by rw [hW]; exact (fQ.alloc (by first | omega | (simp <;> omega) | simp) _)
    replace TA := hide (show TabR w_6 w_3.heap.size w_4.heap.size v2 by rw [hW]; exact (TA.out.alloc (by first | omega | (simp <;> omega) | simp) _))
    have bC : Box w_6 w_5.heap.size [.int .i64 x, .int .i64 y] := by rw [hW]; exact (box_at _ _ _ _ (by simp))
    have fC : Fz w_6 w_5.heap.size := by rw [hW]; exact (fz_at _ _ _ _ (by simp))
    replace HS := hide (show Src w_6 b (K + 2822) by rw [hW]; exact (HS.out.alloc _))
    replace HT := hide (show Tch b (b + 1) w w_6 by rw [hW]; exact (HT.out.alloc_ _))
    clear hW
    refine (l18Draw_g b (K + 2822) (by omega) _ HS.out).mono ?_
    rintro e w_7 ⟨a0, a1, a2, a3, a4, rfl, S1, t1⟩
    replace HS := hide S1
    clear S1
    have hs_w_7 : w_6.heap.size ≤ w_7.heap.size := t1.size
    replace bR := bR.tch t1 (by omega) (by omega)
    replace fR := fR.tch t1 (by omega) (by omega)
    replace bP := bP.tch t1 (by omega) (by omega)
    replace fP := fP.tch t1 (by omega) (by omega)
    replace bQ := bQ.tch t1 (by omega) (by omega)
    replace fQ := fQ.tch t1 (by omega) (by omega)
    replace bC := bC.tch t1 (by omega) (by omega)
    replace fC := fC.tch t1 (by omega) (by omega)
    replace TA := hide (TA.out.tch t1 (by omega) (by omega))
    replace HT := hide (HT.out.trans t1)
    clear t1
    go_wp2_with fail
    obtain ⟨w_8, hW⟩ : ∃ W : World, W = (w_7.alloc (.cells #[.int .i64 a0, .int .i64 a1, .int .i64 a2, .int .i64 a3, .int .i64 a4] 53)) := ⟨_, rfl⟩
    rw [← hW]
    have hs_w_8 : w_8.heap.size = w_7.heap.size + 1 := by rw [hW]; simp
    replace bR : Box w_8 w.heap.size [.int .i64 0, .int .i64 0] := by rw [hW]; exact (bR.alloc (by first | omega | (simp <;> omega) | simp) _)
    replace fR : Fz w_8 w.heap.size := by rw [hW]; exact (fR.alloc (by first | omega | (simp <;> omega) | simp) _)
    replace bP : Box w_8 (w.heap.size + 1) [.int .i64 0, .int .i64 0, .int .i64 0, .int .i64 0, .int .i64 0] := by rw [hW]; exact (bP.alloc (by first | omega | (simp <;> omega) | simp) _)
    replace fP : Fz w_8 (w.heap.size + 1) := by rw [hW]; exact (fP.alloc (by first | omega | (simp <;> omega) | simp) _)
    replace bQ : Box w_8 (w.heap.size + 1 + 1) [.int .i64 0, .int .i64 0, .int .i64 0, .int .i64 0, .int .i64 0] := by rw [hW]; exact (bQ.alloc (by first | omega | (simp <;> omega) | simp) _)
    replace fQ : Fz w_8 (w.heap.size + 1 + 1) := by rw [hW]; exact (fQ.alloc (by first | omega | (simp <;> omega) | simp) _)
    replace bC : Box w_8 w_5.heap.size [.int .i64 x, .int .i64 y] := by rw [hW]; exact (bC.alloc (by first | omega | (simp <;> omega) | simp) _)
    replace fC : Fz w_8 w_5.heap.size := by rw [hW]; exact (fC.alloc (by first | omega | (simp <;> omega) | simp) _)
    replace TA := hide (show TabR w_8 w_3.heap.size w_4.heap.size v2 by rw [hW]; exact (TA.out.alloc (by first | omega | (simp <;> omega) | simp) _))
    have bD : Box w_8 w_7.heap.size [.int .i64 a0, .int .i64 a1, .int .i64 a2, .int .i64 a3, .int .i64 a4] := by rw [hW]; exact (box_at _ _ _ _ (by simp))
    have fD : Fz w_8 w_7.heap.size := by rw [hW]; exact (fz_at _ _ _ _ (by simp))
    replace HS := hide (show Src w_8 b (K + 2842) by rw [hW]; exact (HS.out.alloc _))
    replace HT := hide (show Tch b (b + 1) w w_8 by rw [hW]; exact (HT.out.alloc_ _))
    clear hW
    refine (l18Draw_g b (K + 2842) (by omega) _ HS.out).mono ?_
    rintro e w_9 ⟨d0, d1, d2, d3, d4, rfl, S1, t1⟩
    replace HS := hide S1
    clear S1
    have hs_w_9 : w_8.heap.size ≤ w_9.heap.size := t1.size
    replace bR := bR.tch t1 (by omega) (by omega)
    replace fR := fR.tch t1 (by omega) (by omega)
    replace bP := bP.tch t1 (by omega) (by omega)
    replace fP := fP.tch t1 (by omega) (by omega)
    replace bQ := bQ.tch t1 (by omega) (by omega)
    replace fQ := fQ.tch t1 (by omega) (by omega)
    replace bC := bC.tch t1 (by omega) (by omega)
    replace fC := fC.tch t1 (by omega) (by omega)
    replace bD := bD.tch t1 (by omega) (by omega)
    replace fD := fD.tch t1 (by omega) (by omega)
    replace TA := hide (TA.out.tch t1 (by omega) (by omega))
    replace HT := hide (HT.out.trans t1)
    clear t1
    go_wp2_with fail
    obtain ⟨w_10, hW⟩ : ∃ W : World, W = (w_9.alloc (.cells #[.int .i64 d0, .int .i64 d1, .int .i64 d2, .int .i64 d3, .int .i64 d4] 53)) := ⟨_, rfl⟩
    rw [← hW]
    have hs_w_10 : w_10.heap.size = w_9.heap.size + 1 := by rw [hW]; simp
    replace bR : Box w_10 w.heap.size [.int .i64 0, .int .i64 0] := by rw [hW]; exact (bR.alloc (by first | omega | (simp <;> omega) | simp) _)
    replace fR : Fz w_10 w.heap.size := by rw [hW]; exact (fR.alloc (by first | omega | (simp <;> omega) | simp) _)
    replace bP : Box w_10 (w.heap.size + 1) [.int .i64 0, .int .i64 0, .int .i64 0, .int .i64 0, .int .i64 0] := by rw [hW]; exact (bP.alloc (by first | omega | (simp <;> omega) | simp) _)
    replace fP : Fz w_10 (w.heap.size + 1) := by rw [hW]; exact (fP.alloc (by first | omega | (simp <;> omega) | simp) _)
    replace bQ : Box w_10 (w.heap.size + 1 + 1) [.int .i64 0, .int .i64 0, .int .i64 0, .int .i64 0, .int .i64 0] := by rw [hW]; exact (bQ.alloc (by first | omega | (simp <;> omega) | simp) _)
    replace fQ : Fz w_10 (w.heap.size + 1 + 1) := by rw [hW]; exact (fQ.alloc (by first | omega | (simp <;> omega) | simp) _)
    replace bC : Box w_10 w_5.heap.size [.int .i64 x, .int .i64 y] := by rw [hW]; exact (bC.alloc (by first | omega | (simp <;> omega) | simp) _)
    replace fC : Fz w_10 w_5.heap.size := by rw [hW]; exact (fC.alloc (by first | omega | (simp <;> omega) | simp) _)
    replace bD : Box w_10 w_7.heap.size [.int .i64 a0, .int .i64 a1, .int .i64 a2, .int .i64 a3, .int .i64 a4] := by rw [hW]; exact (bD.alloc (by first | omega | (simp <;> omega) | simp) _)
    replace fD : Fz w_10 w_7.heap.size := by rw [hW]; exact (fD.alloc (by first | omega | (simp <;> omega) | simp) _)
    replace TA := hide (show TabR w_10 w_3.heap.size w_4.heap.size v2 by rw [hW]; exact (TA.out.alloc (by first | omega | (simp <;> omega) | simp) _))
    have bE : Box w_10 w_9.heap.size [.int .i64 d0, .int .i64 d1, .int .i64 d2, .int .i64 d3, .int .i64 d4] := by rw [hW]; exact (box_at _ _ _ _ (by simp))
    have fE : Fz w_10 w_9.heap.size := by rw [hW]; exact (fz_at _ _ _ _ (by simp))
    replace HS := hide (show Src w_10 b (K + 2862) by rw [hW]; exact (HS.out.alloc _))
    replace HT := hide (show Tch b (b + 1) w w_10 by rw [hW]; exact (HT.out.alloc_ _))
    clear hW
    refine (one_any b (K + 2862) 4 (by omega) (by omega) (by omega) _ HS.out).mono ?_
    rintro e w_11 ⟨p11, rfl, S1, t1⟩
    replace HS := hide S1
    clear S1
    have hs_w_11 : w_10.heap.size ≤ w_11.heap.size := t1.size
    replace bR := bR.tch t1 (by omega) (by omega)
    replace fR := fR.tch t1 (by omega) (by omega)
    replace bP := bP.tch t1 (by omega) (by omega)
    replace fP := fP.tch t1 (by omega) (by omega)
    replace bQ := bQ.tch t1 (by omega) (by omega)
    replace fQ := fQ.tch t1 (by omega) (by omega)
    replace bC := bC.tch t1 (by omega) (by omega)
    replace fC := fC.tch t1 (by omega) (by omega)
    replace bD := bD.tch t1 (by omega) (by omega)
    replace fD := fD.tch t1 (by omega) (by omega)
    replace bE := bE.tch t1 (by omega) (by omega)
    replace fE := fE.tch t1 (by omega) (by omega)
    replace TA := hide (TA.out.tch t1 (by omega) (by omega))
    replace HT := hide (HT.out.trans t1)
    clear t1
    cases p11
    · have lD0 := bD 0 _ rfl
      have lD1 := bD 1 _ rfl
      have lD2 := bD 2 _ rfl
      have lD3 := bD 3 _ rfl
      have lD4 := bD 4 _ rfl
      have mD0 := fD 0
      have mD1 := fD 1
      have mD2 := fD 2
      have mD3 := fD 3
      have mD4 := fD 4
      have lE0 := bE 0 _ rfl
      have lE1 := bE 1 _ rfl
      have lE2 := bE 2 _ rfl
      have lE3 := bE 3 _ rfl
      have lE4 := bE 4 _ rfl
      have mE0 := fE 0
      have mE1 := fE 1
      have mE2 := fE 2
      have mE3 := fE 3
      have mE4 := fE 4
      go_wp2_with fail
      clear lD0 lD1 lD2 lD3 lD4 mD0 mD1 mD2 mD3 mD4
      clear lE0 lE1 lE2 lE3 lE4 mE0 mE1 mE2 mE3 mE4
      obtain ⟨w_12, hW⟩ : ∃ W : World, W = w_11.setCell ⟨w_7.heap.size, 2, none⟩ (.int .i64 d0) := ⟨_, rfl⟩
      rw [← hW]
      have hs_w_12 : w_12.heap.size = w_11.heap.size := by rw [hW]; simp [World.setCell]
      replace bR : Box w_12 w.heap.size [.int .i64 0, .int .i64 0] := by rw [hW]; exact bR.far _ _ (by show w_7.heap.size ≠ w.heap.size; omega)
      replace fR : Fz w_12 w.heap.size := by rw [hW]; exact fR.set _ _
      replace bP : Box w_12 (w.heap.size + 1) [.int .i64 0, .int .i64 0, .int .i64 0, .int .i64 0, .int .i64 0] := by rw [hW]; exact bP.far _ _ (by show w_7.heap.size ≠ (w.heap.size + 1); omega)
      replace fP : Fz w_12 (w.heap.size + 1) := by rw [hW]; exact fP.set _ _
      replace bQ : Box w_12 (w.heap.size + 1 + 1) [.int .i64 0, .int .i64 0, .int .i64 0, .int .i64 0, .int .i64 0] := by rw [hW]; exact bQ.far _ _ (by show w_7.heap.size ≠ (w.heap.size + 1 + 1); omega)
      replace fQ : Fz w_12 (w.heap.size + 1 + 1) := by rw [hW]; exact fQ.set _ _
      replace bC : Box w_12 w_5.heap.size [.int .i64 x, .int .i64 y] := by rw [hW]; exact bC.far _ _ (by show w_7.heap.size ≠ w_5.heap.size; omega)
      replace fC : Fz w_12 w_5.heap.size := by rw [hW]; exact fC.set _ _
      replace bD : Box w_12 w_7.heap.size [.int .i64 a0, .int .i64 a1, .int .i64 d0, .int .i64 a3, .int .i64 a4] := by rw [hW]; exact bD.put 2 _ (by simp)
      replace fD : Fz w_12 w_7.heap.size := by rw [hW]; exact fD.set _ _
      replace bE : Box w_12 w_9.heap.size [.int .i64 d0, .int .i64 d1, .int .i64 d2, .int .i64 d3, .int .i64 d4] := by rw [hW]; exact bE.far _ _ (by show w_7.heap.size ≠ w_9.heap.size; omega)
      replace fE : Fz w_12 w_9.heap.size := by rw [hW]; exact fE.set _ _
      replace TA := hide (show TabR w_12 w_3.heap.size w_4.heap.size v2 by rw [hW]; exact TA.out.set (by omega) _ _)
      replace HS := hide (show Src w_12 b (K + 2864) by rw [hW]; exact HS.out.setNew (by omega) _ _)
      replace HT := hide (show Tch b (b + 1) w w_12 by rw [hW]; exact HT.out.setNew (by omega) _ _)
      clear hW
      obtain ⟨w_13, hW⟩ : ∃ W : World, W = w_12.setCell ⟨w_9.heap.size, 2, none⟩ (.int .i64 a0) := ⟨_, rfl⟩
      rw [← hW]
      have hs_w_13 : w_13.heap.size = w_12.heap.size := by rw [hW]; simp [World.setCell]
      replace bR : Box w_13 w.heap.size [.int .i64 0, .int .i64 0] := by rw [hW]; exact bR.far _ _ (by show w_9.heap.size ≠ w.heap.size; omega)
      replace fR : Fz w_13 w.heap.size := by rw [hW]; exact fR.set _ _
      replace bP : Box w_13 (w.heap.size + 1) [.int .i64 0, .int .i64 0, .int .i64 0, .int .i64 0, .int .i64 0] := by rw [hW]; exact bP.far _ _ (by show w_9.heap.size ≠ (w.heap.size + 1); omega)
      replace fP : Fz w_13 (w.heap.size + 1) := by rw [hW]; exact fP.set _ _
      replace bQ : Box w_13 (w.heap.size + 1 + 1) [.int .i64 0, .int .i64 0, .int .i64 0, .int .i64 0, .int .i64 0] := by rw [hW]; exact bQ.far _ _ (by show w_9.heap.size ≠ (w.heap.size + 1 + 1); omega)
      replace fQ : Fz w_13 (w.heap.size + 1 + 1) := by rw [hW]; exact fQ.set _ _
      replace bC : Box w_13 w_5.heap.size [.int .i64 x, .int .i64 y] := by rw [hW]; exact bC.far _ _ (by show w_9.heap.size ≠ w_5.heap.size; omega)
      replace fC : Fz w_13 w_5.heap.size := by rw [hW]; exact fC.set _ _
      replace bD : Box w_13 w_7.heap.size [.int .i64 a0, .int .i64 a1, .int .i64 d0, .int .i64 a3, .int .i64 a4] := by rw [hW]; exact bD.far _ _ (by show w_9.heap.size ≠ w_7.heap.size; omega)
      replace fD : Fz w_13 w_7.heap.size := by rw [hW]; exact fD.set _ _
      replace bE : Box w_13 w_9.heap.size [.int .i64 d0, .int .i64 d1, .int .i64 a0, .int .i64 d3, .int .i64 d4] := by rw [hW]; exact bE.put 2 _ (by simp)
      replace fE : Fz w_13 w_9.heap.size := by rw [hW]; exact fE.set _ _
      replace TA := hide (show TabR w_13 w_3.heap.size w_4.heap.size v2 by rw [hW]; exact TA.out.set (by omega) _ _)
      replace HS := hide (show Src w_13 b (K + 2864) by rw [hW]; exact HS.out.setNew (by omega) _ _)
      replace HT := hide (show Tch b (b + 1) w w_13 by rw [hW]; exact HT.out.setNew (by omega) _ _)
      clear hW
      obtain ⟨w_14, hW⟩ : ∃ W : World, W = w_13.setCell ⟨w_7.heap.size, 3, none⟩ (.int .i64 0) := ⟨_, rfl⟩
      rw [← hW]
      have hs_w_14 : w_14.heap.size = w_13.heap.size := by rw [hW]; simp [World.setCell]
      replace bR : Box w_14 w.heap.size [.int .i64 0, .int .i64 0] := by rw [hW]; exact bR.far _ _ (by show w_7.heap.size ≠ w.heap.size; omega)
      replace fR : Fz w_14 w.heap.size := by rw [hW]; exact fR.set _ _
      replace bP : Box w_14 (w.heap.size + 1) [.int .i64 0, .int .i64 0, .int .i64 0, .int .i64 0, .int .i64 0] := by rw [hW]; exact bP.far _ _ (by show w_7.heap.size ≠ (w.heap.size + 1); omega)
      replace fP : Fz w_14 (w.heap.size + 1) := by rw [hW]; exact fP.set _ _
      replace bQ : Box w_14 (w.heap.size + 1 + 1) [.int .i64 0, .int .i64 0, .int .i64 0, .int .i64 0, .int .i64 0] := by rw [hW]; exact bQ.far _ _ (by show w_7.heap.size ≠ (w.heap.size + 1 + 1); omega)
      replace fQ : Fz w_14 (w.heap.size + 1 + 1) := by rw [hW]; exact fQ.set _ _
      replace bC : Box w_14 w_5.heap.size [.int .i64 x, .int .i64 y] := by rw [hW]; exact bC.far _ _ (by show w_7.heap.size ≠ w_5.heap.size; omega)
      replace fC : Fz w_14 w_5.heap.size := by rw [hW]; exact fC.set _ _
      replace bD : Box w_14 w_7.heap.size [.int .i64 a0, .int .i64 a1, .int .i64 d0, .int .i64 0, .int .i64 a4] := by rw [hW]; exact bD.put 3 _ (by simp)
      replace fD : Fz w_14 w_7.heap.size := by rw [hW]; exact fD.set _ _
      replace bE : Box w_14 w_9.heap.size [.int .i64 d0, .int .i64 d1, .int .i64 a0, .int .i64 d3, .int .i64 d4] := by rw [hW]; exact bE.far _ _ (by show w_7.heap.size ≠ w_9.heap.size; omega)
      replace fE : Fz w_14 w_9.heap.size := by rw [hW]; exact fE.set _ _
      replace TA := hide (show TabR w_14 w_3.heap.size w_4.heap.size v2 by rw [hW]; exact TA.out.set (by omega) _ _)
      replace HS := hide (show Src w_14 b (K + 2864) by rw [hW]; exact HS.out.setNew (by omega) _ _)
      replace HT := hide (show Tch b (b + 1) w w_14 by rw [hW]; exact HT.out.setNew (by omega) _ _)
      clear hW
      obtain ⟨w_15, hW⟩ : ∃ W : World, W = w_14.setCell ⟨w_9.heap.size, 3, none⟩ (.int .i64 0) := ⟨_, rfl⟩
      rw [← hW]
      have hs_w_15 : w_15.heap.size = w_14.heap.size := by rw [hW]; simp [World.setCell]
      replace bR : Box w_15 w.heap.size [.int .i64 0, .int .i64 0] := by rw [hW]; exact bR.far _ _ (by show w_9.heap.size ≠ w.heap.size; omega)
      replace fR : Fz w_15 w.heap.size := by rw [hW]; exact fR.set _ _
      replace bP : Box w_15 (w.heap.size + 1) [.int .i64 0, .int .i64 0, .int .i64 0, .int .i64 0, .int .i64 0] := by rw [hW]; exact bP.far _ _ (by show w_9.heap.size ≠ (w.heap.size + 1); omega)
      replace fP : Fz w_15 (w.heap.size + 1) := by rw [hW]; exact fP.set _ _
      replace bQ : Box w_15 (w.heap.size + 1 + 1) [.int .i64 0, .int .i64 0, .int .i64 0, .int .i64 0, .int .i64 0] := by rw [hW]; exact bQ.far _ _ (by show w_9.heap.size ≠ (w.heap.size + 1 + 1); omega)
      replace fQ : Fz w_15 (w.heap.size + 1 + 1) := by rw [hW]; exact fQ.set _ _
      replace bC : Box w_15 w_5.heap.size [.int .i64 x, .int .i64 y] := by rw [hW]; exact bC.far _ _ (by show w_9.heap.size ≠ w_5.heap.size; omega)
      replace fC : Fz w_15 w_5.heap.size := by rw [hW]; exact fC.set _ _
      replace bD : Box w_15 w_7.heap.size [.int .i64 a0, .int .i64 a1, .int .i64 d0, .int .i64 0, .int .i64 a4] := by rw [hW]; exact bD.far _ _ (by show w_9.heap.size ≠ w_7.heap.size; omega)
      replace fD : Fz w_15 w_7.heap.size := by rw [hW]; exact fD.set _ _
      replace bE : Box w_15 w_9.heap.size [.int .i64 d0, .int .i64 d1, .int .i64 a0, .int .i64 0, .int .i64 d4] := by rw [hW]; exact bE.put 3 _ (by simp)
      replace fE : Fz w_15 w_9.heap.size := by rw [hW]; exact fE.set _ _
      replace TA := hide (show TabR w_15 w_3.heap.size w_4.heap.size v2 by rw [hW]; exact TA.out.set (by omega) _ _)
      replace HS := hide (show Src w_15 b (K + 2864) by rw [hW]; exact HS.out.setNew (by omega) _ _)
      replace HT := hide (show Tch b (b + 1) w w_15 by rw [hW]; exact HT.out.setNew (by omega) _ _)
      clear hW
      have lC0 := bC 0 _ rfl
      have lC1 := bC 1 _ rfl
      have lD0 := bD 0 _ rfl
      have lD1 := bD 1 _ rfl
      have lD2 := bD 2 _ rfl
      have lD3 := bD 3 _ rfl
      have lD4 := bD 4 _ rfl
      have lE0 := bE 0 _ rfl
      have lE1 := bE 1 _ rfl
      have lE2 := bE 2 _ rfl
      have lE3 := bE 3 _ rfl
      have lE4 := bE 4 _ rfl
      have lR0 := bR 0 _ rfl
      have lR1 := bR 1 _ rfl
      have mR0 := fR 0
      have mR1 := fR 1
      have lP0 := bP 0 _ rfl
      have lP1 := bP 1 _ rfl
      have lP2 := bP 2 _ rfl
      have lP3 := bP 3 _ rfl
      have lP4 := bP 4 _ rfl
      have mP0 := fP 0
      have mP1 := fP 1
      have mP2 := fP 2
      have mP3 := fP 3
      have mP4 := fP 4
      have lQ0 := bQ 0 _ rfl
      have lQ1 := bQ 1 _ rfl
      have lQ2 := bQ 2 _ rfl
      have lQ3 := bQ 3 _ rfl
      have lQ4 := bQ 4 _ rfl
      have mQ0 := fQ 0
      have mQ1 := fQ 1
      have mQ2 := fQ 2
      have mQ3 := fQ 3
      have mQ4 := fQ 4
      go_wp2_with fail
      go_region
      all_goals (try go_wp2_with fail)
      clear lC0 lC1
      clear lD0 lD1 lD2 lD3 lD4
      clear lE0 lE1 lE2 lE3 lE4
      clear lR0 lR1 mR0 mR1
      clear lP0 lP1 lP2 lP3 lP4 mP0 mP1 mP2 mP3 mP4
      clear lQ0 lQ1 lQ2 lQ3 lQ4 mQ0 mQ1 mQ2 mQ3 mQ4
      obtain ⟨w_16, hW⟩ : ∃ W : World, W = ((((((((((((w_15.setCell ⟨w.heap.size, 0, none⟩ (.int .i64 x)).setCell ⟨w.heap.size, 1, none⟩ (.int .i64 y)).setCell ⟨(w.heap.size + 1), 0, none⟩ (.int .i64 a0)).setCell ⟨(w.heap.size + 1), 1, none⟩ (.int .i64 a1)).setCell ⟨(w.heap.size + 1), 2, none⟩ (.int .i64 d0)).setCell ⟨(w.heap.size + 1), 3, none⟩ (.int .i64 0)).setCell ⟨(w.heap.size + 1), 4, none⟩ (.int .i64 a4)).setCell ⟨(w.heap.size + 1 + 1), 0, none⟩ (.int .i64 d0)).setCell ⟨(w.heap.size + 1 + 1), 1, none⟩ (.int .i64 d1)).setCell ⟨(w.heap.size + 1 + 1), 2, none⟩ (.int .i64 a0)).setCell ⟨(w.heap.size + 1 + 1), 3, none⟩ (.int .i64 0)).setCell ⟨(w.heap.size + 1 + 1), 4, none⟩ (.int .i64 d4)) := ⟨_, rfl⟩
      rw [← hW]
      have hs_w_16 : w_16.heap.size = w_15.heap.size := by rw [hW]; simp [World.setCell]
      have cR : Box w_16 w.heap.size [.int .i64 x, .int .i64 y] := by rw [hW]; exact ((((((((((((bR.put 0 _ (by simp)).put 1 _ (by simp)).far _ _ (by show (w.heap.size + 1) ≠ w.heap.size; omega)).far _ _ (by show (w.heap.size + 1) ≠ w.heap.size; omega)).far _ _ (by show (w.heap.size + 1) ≠ w.heap.size; omega)).far _ _ (by show (w.heap.size + 1) ≠ w.heap.size; omega)).far _ _ (by show (w.heap.size + 1) ≠ w.heap.size; omega)).far _ _ (by show (w.heap.size + 1 + 1) ≠ w.heap.size; omega)).far _ _ (by show (w.heap.size + 1 + 1) ≠ w.heap.size; omega)).far _ _ (by show (w.heap.size + 1 + 1) ≠ w.heap.size; omega)).far _ _ (by show (w.heap.size + 1 + 1) ≠ w.heap.size; omega)).far _ _ (by show (w.heap.size + 1 + 1) ≠ w.heap.size; omega))
      have cP : Box w_16 (w.heap.size + 1) [.int .i64 a0, .int .i64 a1, .int .i64 d0, .int .i64 0, .int .i64 a4] := by rw [hW]; exact ((((((((((((bP.far _ _ (by show w.heap.size ≠ (w.heap.size + 1); omega)).far _ _ (by show w.heap.size ≠ (w.heap.size + 1); omega)).put 0 _ (by simp)).put 1 _ (by simp)).put 2 _ (by simp)).put 3 _ (by simp)).put 4 _ (by simp)).far _ _ (by show (w.heap.size + 1 + 1) ≠ (w.heap.size + 1); omega)).far _ _ (by show (w.heap.size + 1 + 1) ≠ (w.heap.size + 1); omega)).far _ _ (by show (w.heap.size + 1 + 1) ≠ (w.heap.size + 1); omega)).far _ _ (by show (w.heap.size + 1 + 1) ≠ (w.heap.size + 1); omega)).far _ _ (by show (w.heap.size + 1 + 1) ≠ (w.heap.size + 1); omega))
      have cQ : Box w_16 (w.heap.size + 1 + 1) [.int .i64 d0, .int .i64 d1, .int .i64 a0, .int .i64 0, .int .i64 d4] := by rw [hW]; exact ((((((((((((bQ.far _ _ (by show w.heap.size ≠ (w.heap.size + 1 + 1); omega)).far _ _ (by show w.heap.size ≠ (w.heap.size + 1 + 1); omega)).far _ _ (by show (w.heap.size + 1) ≠ (w.heap.size + 1 + 1); omega)).far _ _ (by show (w.heap.size + 1) ≠ (w.heap.size + 1 + 1); omega)).far _ _ (by show (w.heap.size + 1) ≠ (w.heap.size + 1 + 1); omega)).far _ _ (by show (w.heap.size + 1) ≠ (w.heap.size + 1 + 1); omega)).far _ _ (by show (w.heap.size + 1) ≠ (w.heap.size + 1 + 1); omega)).put 0 _ (by simp)).put 1 _ (by simp)).put 2 _ (by simp)).put 3 _ (by simp)).put 4 _ (by simp))
      have cC : Box w_16 w_5.heap.size [.int .i64 x, .int .i64 y] := by rw [hW]; exact ((((((((((((bC.far _ _ (by show w.heap.size ≠ w_5.heap.size; omega)).far _ _ (by show w.heap.size ≠ w_5.heap.size; omega)).far _ _ (by show (w.heap.size + 1) ≠ w_5.heap.size; omega)).far _ _ (by show (w.heap.size + 1) ≠ w_5.heap.size; omega)).far _ _ (by show (w.heap.size + 1) ≠ w_5.heap.size; omega)).far _ _ (by show (w.heap.size + 1) ≠ w_5.heap.size; omega)).far _ _ (by show (w.heap.size + 1) ≠ w_5.heap.size; omega)).far _ _ (by show (w.heap.size + 1 + 1) ≠ w_5.heap.size; omega)).far _ _ (by show (w.heap.size + 1 + 1) ≠ w_5.heap.size; omega)).far _ _ (by show (w.heap.size + 1 + 1) ≠ w_5.heap.size; omega)).far _ _ (by show (w.heap.size + 1 + 1) ≠ w_5.heap.size; omega)).far _ _ (by show (w.heap.size + 1 + 1) ≠ w_5.heap.size; omega))
      have cD : Box w_16 w_7.heap.size [.int .i64 a0, .int .i64 a1, .int .i64 d0, .int .i64 0, .int .i64 a4] := by rw [hW]; exact ((((((((((((bD.far _ _ (by show w.heap.size ≠ w_7.heap.size; omega)).far _ _ (by show w.heap.size ≠ w_7.heap.size; omega)).far _ _ (by show (w.heap.size + 1) ≠ w_7.heap.size; omega)).far _ _ (by show (w.heap.size + 1) ≠ w_7.heap.size; omega)).far _ _ (by show (w.heap.size + 1) ≠ w_7.heap.size; omega)).far _ _ (by show (w.heap.size + 1) ≠ w_7.heap.size; omega)).far _ _ (by show (w.heap.size + 1) ≠ w_7.heap.size; omega)).far _ _ (by show (w.heap.size + 1 + 1) ≠ w_7.heap.size; omega)).far _ _ (by show (w.heap.size + 1 + 1) ≠ w_7.heap.size; omega)).far _ _ (by show (w.heap.size + 1 + 1) ≠ w_7.heap.size; omega)).far _ _ (by show (w.heap.size + 1 + 1) ≠ w_7.heap.size; omega)).far _ _ (by show (w.heap.size + 1 + 1) ≠ w_7.heap.size; omega))
      have cE : Box w_16 w_9.heap.size [.int .i64 d0, .int .i64 d1, .int .i64 a0, .int .i64 0, .int .i64 d4] := by rw [hW]; exact ((((((((((((bE.far _ _ (by show w.heap.size ≠ w_9.heap.size; omega)).far _ _ (by show w.heap.size ≠ w_9.heap.size; omega)).far _ _ (by show (w.heap.size + 1) ≠ w_9.heap.size; omega)).far _ _ (by show (w.heap.size + 1) ≠ w_9.heap.size; omega)).far _ _ (by show (w.heap.size + 1) ≠ w_9.heap.size; omega)).far _ _ (by show (w.heap.size + 1) ≠ w_9.heap.size; omega)).far _ _ (by show (w.heap.size + 1) ≠ w_9.heap.size; omega)).far _ _ (by show (w.heap.size + 1 + 1) ≠ w_9.heap.size; omega)).far _ _ (by show (w.heap.size + 1 + 1) ≠ w_9.heap.size; omega)).far _ _ (by show (w.heap.size + 1 + 1) ≠ w_9.heap.size; omega)).far _ _ (by show (w.heap.size + 1 + 1) ≠ w_9.heap.size; omega)).far _ _ (by show (w.heap.size + 1 + 1) ≠ w_9.heap.size; omega))
      replace bR := cR
      clear cR
      replace bP := cP
      clear cP
      replace bQ := cQ
      clear cQ
      replace bC := cC
      clear cC
      replace bD := cD
      clear cD
      replace bE := cE
      clear cE
      replace TA := hide (show TabR w_16 w_3.heap.size w_4.heap.size v2 by rw [hW]; exact ((((((((((((TA.out.set (by omega) _ _).set (by omega) _ _).set (by omega) _ _).set (by omega) _ _).set (by omega) _ _).set (by omega) _ _).set (by omega) _ _).set (by omega) _ _).set (by omega) _ _).set (by omega) _ _).set (by omega) _ _).set (by omega) _ _))
      replace HS := hide (show Src w_16 b (K + 2864) by rw [hW]; exact ((((((((((((HS.out.setNew (by omega) _ _).setNew (by omega) _ _).setNew (by omega) _ _).setNew (by omega) _ _).setNew (by omega) _ _).setNew (by omega) _ _).setNew (by omega) _ _).setNew (by omega) _ _).setNew (by omega) _ _).setNew (by omega) _ _).setNew (by omega) _ _).setNew (by omega) _ _))
      replace HT := hide (show Tch b (b + 1) w w_16 by rw [hW]; exact ((((((((((((HT.out.setNew (by omega) _ _).setNew (by omega) _ _).setNew (by omega) _ _).setNew (by omega) _ _).setNew (by omega) _ _).setNew (by omega) _ _).setNew (by omega) _ _).setNew (by omega) _ _).setNew (by omega) _ _).setNew (by omega) _ _).setNew (by omega) _ _).setNew (by omega) _ _))
      clear hW
      have lR0 := bR 0 _ rfl
      have lR1 := bR 1 _ rfl
      have lP0 := bP 0 _ rfl
      have lP1 := bP 1 _ rfl
      have lP2 := bP 2 _ rfl
      have lP3 := bP 3 _ rfl
      have lP4 := bP 4 _ rfl
      have lQ0 := bQ 0 _ rfl
      have lQ1 := bQ 1 _ rfl
      have lQ2 := bQ 2 _ rfl
      have lQ3 := bQ 3 _ rfl
      have lQ4 := bQ 4 _ rfl
      refine bodyPost_ret (v := .tuple #[v2, .agg #[.int .i64 x, .int .i64 y], .agg #[.int .i64 a0, .int .i64 a1, .int .i64 d0, .int .i64 0, .int .i64 a4], .agg #[.int .i64 d0, .int .i64 d1, .int .i64 a0, .int .i64 0, .int .i64 d4]]) (by simp [results, Try.results69, go_sem, dcell2, lR0, lR1, lP0, lP1, lP2, lP3, lP4, lQ0, lQ1, lQ2, lQ3, lQ4]) rfl ⟨_, _, _, _, _, _, _, _, _, _, _, _, _, rfl, TA.out.mono (lo' := w.heap.size) (hi' := w_16.heap.size) (by omega) (by omega), HS.out.drew.mono (by omega), HT.out.drew_⟩
    · have lC0 := bC 0 _ rfl
      have lC1 := bC 1 _ rfl
      have lD0 := bD 0 _ rfl
      have lD1 := bD 1 _ rfl
      have lD2 := bD 2 _ rfl
      have lD3 := bD 3 _ rfl
      have lD4 := bD 4 _ rfl
      have lE0 := bE 0 _ rfl
      have lE1 := bE 1 _ rfl
      have lE2 := bE 2 _ rfl
      have lE3 := bE 3 _ rfl
      have lE4 := bE 4 _ rfl
      have lR0 := bR 0 _ rfl
      have lR1 := bR 1 _ rfl
      have mR0 := fR 0
      have mR1 := fR 1
      have lP0 := bP 0 _ rfl
      have lP1 := bP 1 _ rfl
      have lP2 := bP 2 _ rfl
      have lP3 := bP 3 _ rfl
      have lP4 := bP 4 _ rfl
      have mP0 := fP 0
      have mP1 := fP 1
      have mP2 := fP 2
      have mP3 := fP 3
      have mP4 := fP 4
      have lQ0 := bQ 0 _ rfl
      have lQ1 := bQ 1 _ rfl
      have lQ2 := bQ 2 _ rfl
      have lQ3 := bQ 3 _ rfl
      have lQ4 := bQ 4 _ rfl
      have mQ0 := fQ 0
      have mQ1 := fQ 1
      have mQ2 := fQ 2
      have mQ3 := fQ 3
      have mQ4 := fQ 4
      go_wp2_with fail
      go_region
      all_goals (try go_wp2_with fail)
      clear lC0 lC1
      clear lD0 lD1 lD2 lD3 lD4
      clear lE0 lE1 lE2 lE3 lE4
      clear lR0 lR1 mR0 mR1
      clear lP0 lP1 lP2 lP3 lP4 mP0 mP1 mP2 mP3 mP4
      clear lQ0 lQ1 lQ2 lQ3 lQ4 mQ0 mQ1 mQ2 mQ3 mQ4
      obtain ⟨w_12, hW⟩ : ∃ W : World, W = ((((((((((((w_11.setCell ⟨w.heap.size, 0, none⟩ (.int .i64 x)).setCell ⟨w.heap.size, 1, none⟩ (.int .i64 y)).setCell ⟨(w.heap.size + 1), 0, none⟩ (.int .i64 a0)).setCell ⟨(w.heap.size + 1), 1, none⟩ (.int .i64 a1)).setCell ⟨(w.heap.size + 1), 2, none⟩ (.int .i64 a2)).setCell ⟨(w.heap.size + 1), 3, none⟩ (.int .i64 a3)).setCell ⟨(w.heap.size + 1), 4, none⟩ (.int .i64 a4)).setCell ⟨(w.heap.size + 1 + 1), 0, none⟩ (.int .i64 d0)).setCell ⟨(w.heap.size + 1 + 1), 1, none⟩ (.int .i64 d1)).setCell ⟨(w.heap.size + 1 + 1), 2, none⟩ (.int .i64 d2)).setCell ⟨(w.heap.size + 1 + 1), 3, none⟩ (.int .i64 d3)).setCell ⟨(w.heap.size + 1 + 1), 4, none⟩ (.int .i64 d4)) := ⟨_, rfl⟩
      rw [← hW]
      have hs_w_12 : w_12.heap.size = w_11.heap.size := by rw [hW]; simp [World.setCell]
      have cR : Box w_12 w.heap.size [.int .i64 x, .int .i64 y] := by rw [hW]; exact ((((((((((((bR.put 0 _ (by simp)).put 1 _ (by simp)).far _ _ (by show (w.heap.size + 1) ≠ w.heap.size; omega)).far _ _ (by show (w.heap.size + 1) ≠ w.heap.size; omega)).far _ _ (by show (w.heap.size + 1) ≠ w.heap.size; omega)).far _ _ (by show (w.heap.size + 1) ≠ w.heap.size; omega)).far _ _ (by show (w.heap.size + 1) ≠ w.heap.size; omega)).far _ _ (by show (w.heap.size + 1 + 1) ≠ w.heap.size; omega)).far _ _ (by show (w.heap.size + 1 + 1) ≠ w.heap.size; omega)).far _ _ (by show (w.heap.size + 1 + 1) ≠ w.heap.size; omega)).far _ _ (by show (w.heap.size + 1 + 1) ≠ w.heap.size; omega)).far _ _ (by show (w.heap.size + 1 + 1) ≠ w.heap.size; omega))
      have cP : Box w_12 (w.heap.size + 1) [.int .i64 a0, .int .i64 a1, .int .i64 a2, .int .i64 a3, .int .i64 a4] := by rw [hW]; exact ((((((((((((bP.far _ _ (by show w.heap.size ≠ (w.heap.size + 1); omega)).far _ _ (by show w.heap.size ≠ (w.heap.size + 1); omega)).put 0 _ (by simp)).put 1 _ (by simp)).put 2 _ (by simp)).put 3 _ (by simp)).put 4 _ (by simp)).far _ _ (by show (w.heap.size + 1 + 1) ≠ (w.heap.size + 1); omega)).far _ _ (by show (w.heap.size + 1 + 1) ≠ (w.heap.size + 1); omega)).far _ _ (by show (w.heap.size + 1 + 1) ≠ (w.heap.size + 1); omega)).far _ _ (by show (w.heap.size + 1 + 1) ≠ (w.heap.size + 1); omega)).far _ _ (by show (w.heap.size + 1 + 1) ≠ (w.heap.size + 1); omega))
      have cQ : Box w_12 (w.heap.size + 1 + 1) [.int .i64 d0, .int .i64 d1, .int .i64 d2, .int .i64 d3, .int .i64 d4] := by rw [hW]; exact ((((((((((((bQ.far _ _ (by show w.heap.size ≠ (w.heap.size + 1 + 1); omega)).far _ _ (by show w.heap.size ≠ (w.heap.size + 1 + 1); omega)).far _ _ (by show (w.heap.size + 1) ≠ (w.heap.size + 1 + 1); omega)).far _ _ (by show (w.heap.size + 1) ≠ (w.heap.size + 1 + 1); omega)).far _ _ (by show (w.heap.size + 1) ≠ (w.heap.size + 1 + 1); omega)).far _ _ (by show (w.heap.size + 1) ≠ (w.heap.size + 1 + 1); omega)).far _ _ (by show (w.heap.size + 1) ≠ (w.heap.size + 1 + 1); omega)).put 0 _ (by simp)).put 1 _ (by simp)).put 2 _ (by simp)).put 3 _ (by simp)).put 4 _ (by simp))
      have cC : Box w_12 w_5.heap.size [.int .i64 x, .int .i64 y] := by rw [hW]; exact ((((((((((((bC.far _ _ (by show w.heap.size ≠ w_5.heap.size; omega)).far _ _ (by show w.heap.size ≠ w_5.heap.size; omega)).far _ _ (by show (w.heap.size + 1) ≠ w_5.heap.size; omega)).far _ _ (by show (w.heap.size + 1) ≠ w_5.heap.size; omega)).far _ _ (by show (w.heap.size + 1) ≠ w_5.heap.size; omega)).far _ _ (by show (w.heap.size + 1) ≠ w_5.heap.size; omega)).far _ _ (by show (w.heap.size + 1) ≠ w_5.heap.size; omega)).far _ _ (by show (w.heap.size + 1 + 1) ≠ w_5.heap.size; omega)).far _ _ (by show (w.heap.size + 1 + 1) ≠ w_5.heap.size; omega)).far _ _ (by show (w.heap.size + 1 + 1) ≠ w_5.heap.size; omega)).far _ _ (by show (w.heap.size + 1 + 1) ≠ w_5.heap.size; omega)).far _ _ (by show (w.heap.size + 1 + 1) ≠ w_5.heap.size; omega))
      have cD : Box w_12 w_7.heap.size [.int .i64 a0, .int .i64 a1, .int .i64 a2, .int .i64 a3, .int .i64 a4] := by rw [hW]; exact ((((((((((((bD.far _ _ (by show w.heap.size ≠ w_7.heap.size; omega)).far _ _ (by show w.heap.size ≠ w_7.heap.size; omega)).far _ _ (by show (w.heap.size + 1) ≠ w_7.heap.size; omega)).far _ _ (by show (w.heap.size + 1) ≠ w_7.heap.size; omega)).far _ _ (by show (w.heap.size + 1) ≠ w_7.heap.size; omega)).far _ _ (by show (w.heap.size + 1) ≠ w_7.heap.size; omega)).far _ _ (by show (w.heap.size + 1) ≠ w_7.heap.size; omega)).far _ _ (by show (w.heap.size + 1 + 1) ≠ w_7.heap.size; omega)).far _ _ (by show (w.heap.size + 1 + 1) ≠ w_7.heap.size; omega)).far _ _ (by show (w.heap.size + 1 + 1) ≠ w_7.heap.size; omega)).far _ _ (by show (w.heap.size + 1 + 1) ≠ w_7.heap.size; omega)).far _ _ (by show (w.heap.size + 1 + 1) ≠ w_7.heap.size; omega))
      have cE : Box w_12 w_9.heap.size [.int .i64 d0, .int .i64 d1, .int .i64 d2, .int .i64 d3, .int .i64 d4] := by rw [hW]; exact ((((((((((((bE.far _ _ (by show w.heap.size ≠ w_9.heap.size; omega)).far _ _ (by show w.heap.size ≠ w_9.heap.size; omega)).far _ _ (by show (w.heap.size + 1) ≠ w_9.heap.size; omega)).far _ _ (by show (w.heap.size + 1) ≠ w_9.heap.size; omega)).far _ _ (by show (w.heap.size + 1) ≠ w_9.heap.size; omega)).far _ _ (by show (w.heap.size + 1) ≠ w_9.heap.size; omega)).far _ _ (by show (w.heap.size + 1) ≠ w_9.heap.size; omega)).far _ _ (by show (w.heap.size + 1 + 1) ≠ w_9.heap.size; omega)).far _ _ (by show (w.heap.size + 1 + 1) ≠ w_9.heap.size; omega)).far _ _ (by show (w.heap.size + 1 + 1) ≠ w_9.heap.size; omega)).far _ _ (by show (w.heap.size + 1 + 1) ≠ w_9.heap.size; omega)).far _ _ (by show (w.heap.size + 1 + 1) ≠ w_9.heap.size; omega))
      replace bR := cR
      clear cR
      replace bP := cP
      clear cP
      replace bQ := cQ
      clear cQ
      replace bC := cC
      clear cC
      replace bD := cD
      clear cD
      replace bE := cE
      clear cE
      replace TA := hide (show TabR w_12 w_3.heap.size w_4.heap.size v2 by rw [hW]; exact ((((((((((((TA.out.set (by omega) _ _).set (by omega) _ _).set (by omega) _ _).set (by omega) _ _).set (by omega) _ _).set (by omega) _ _).set (by omega) _ _).set (by omega) _ _).set (by omega) _ _).set (by omega) _ _).set (by omega) _ _).set (by omega) _ _))
      replace HS := hide (show Src w_12 b (K + 2864) by rw [hW]; exact ((((((((((((HS.out.setNew (by omega) _ _).setNew (by omega) _ _).setNew (by omega) _ _).setNew (by omega) _ _).setNew (by omega) _ _).setNew (by omega) _ _).setNew (by omega) _ _).setNew (by omega) _ _).setNew (by omega) _ _).setNew (by omega) _ _).setNew (by omega) _ _).setNew (by omega) _ _))
      replace HT := hide (show Tch b (b + 1) w w_12 by rw [hW]; exact ((((((((((((HT.out.setNew (by omega) _ _).setNew (by omega) _ _).setNew (by omega) _ _).setNew (by omega) _ _).setNew (by omega) _ _).setNew (by omega) _ _).setNew (by omega) _ _).setNew (by omega) _ _).setNew (by omega) _ _).setNew (by omega) _ _).setNew (by omega) _ _).setNew (by omega) _ _))
      clear hW
      have lR0 := bR 0 _ rfl
      have lR1 := bR 1 _ rfl
      have lP0 := bP 0 _ rfl
      have lP1 := bP 1 _ rfl
      have lP2 := bP 2 _ rfl
      have lP3 := bP 3 _ rfl
      have lP4 := bP 4 _ rfl
      have lQ0 := bQ 0 _ rfl
      have lQ1 := bQ 1 _ rfl
      have lQ2 := bQ 2 _ rfl
      have lQ3 := bQ 3 _ rfl
      have lQ4 := bQ 4 _ rfl
      refine bodyPost_ret (v := .tuple #[v2, .agg #[.int .i64 x, .int .i64 y], .agg #[.int .i64 a0, .int .i64 a1, .int .i64 a2, .int .i64 a3, .int .i64 a4], .agg #[.int .i64 d0, .int .i64 d1, .int .i64 d2, .int .i64 d3, .int .i64 d4]]) (by simp [results, Try.results69, go_sem, dcell2, lR0, lR1, lP0, lP1, lP2, lP3, lP4, lQ0, lQ1, lQ2, lQ3, lQ4]) rfl ⟨_, _, _, _, _, _, _, _, _, _, _, _, _, rfl, TA.out.mono (lo' := w.heap.size) (hi' := w_12.heap.size) (by omega) (by omega), HS.out.drew.mono (by omega), HT.out.drew_⟩


end Go.Proofs.Ytnbahmjimnhfbaa
