/-
  DRAWINGS of the reference: lists of lists that may be no table, rules, controllers, directions. What is drawn is left open. No condition but those that each theorem names.
-/
import Derived.Test.YtoklcjpokffocaaDrawT
namespace Go.Proofs.Ytoklcjpokffocaa
open Go.RowKit
set_option linter.unusedVariables false
set_option linter.unusedSimpArgs false

theorem Rd.take {w : World} {lo hi n m : Nat} {A : Option Addr} {us : List Value} (h : Rd w lo hi 1 A n us) (hm : m ≤ n) : Rd w lo hi 1 A m (us.take m) := by
  refine ⟨by have := h.1; simp; omega, fun h0 => ?_⟩
  obtain ⟨b, off, e, l1, l2, hc⟩ := h.2 (by omega)
  refine ⟨b, off, e, l1, l2, fun j u hu => hc j u ?_⟩
  have hj : j < m := by have := (List.getElem?_eq_some_iff.1 hu).1; simp at this; omega
  rw [List.getElem?_take_of_lt hj] at hu
  exact hu
theorem RdSS.take {w : World} {lo hi n m : Nat} {A : Option Addr} {rs : List (List Value)} (h : RdSS w lo hi A n rs) (hm : m ≤ n) : RdSS w lo hi A m (rs.take m) := by
  obtain ⟨vs, h1, h2, h3⟩ := h
  refine ⟨vs.take m, h1.take hm, by simp; omega, fun i hi' => ?_⟩
  have hi2 : i < m ∧ i < rs.length := by simp at hi'; omega
  obtain ⟨Ai, ni, ci, a, b, c⟩ := h3 i hi2.2
  refine ⟨Ai, ni, ci, by rw [List.getElem?_take_of_lt hi2.1]; exact a, b, ?_⟩
  rw [List.getElem_take]; exact c
theorem rrB_take (T : List (List Bool)) (m : Nat) : rrBool (T.take m) = (rrBool T).take m := by unfold rrBool; rw [List.map_take]
theorem rB_take (r : List Bool) (m : Nat) : rBool (r.take m) = (rBool r).take m := by rw [rBool_map, rBool_map, List.map_take]
theorem Rd.narrow {w : World} {lo hi g o n : Nat} {us : List Value} (h : Rd w lo hi 1 (some ⟨g, o, none⟩) n us) : Rd w g (g + 1) 1 (some ⟨g, o, none⟩) n us := by
  refine ⟨h.1, fun h0 => ?_⟩
  obtain ⟨b, off, e, l1, l2, hc⟩ := h.2 h0
  injection e with e
  injection e with e1 e2
  subst e1 e2
  exact ⟨g, o, rfl, Nat.le_refl _, by omega, hc⟩
/-- Some list of lists. -/
def TabA (w : World) (lo : Nat) (v : Value) : Prop := ∃ A n c T, v = .slice A n c ∧ n ≤ maxLen ∧ RdSS w lo w.heap.size A n (rrBool T)
theorem TabV.any {w : World} {lo : Nat} {v : Value} (h : TabV w lo w.heap.size v 24) : TabA w lo v := by
  obtain ⟨A, n, c, T, e, h1, _, h2⟩ := h.okT
  exact ⟨A, n, c, T, e, h1, h2⟩
/-- One row less. -/
theorem TabV.less {w : World} {lo hi : Nat} {v : Value} (h : TabV w lo hi v 24) : ∃ A c, v = .slice A 24 c ∧ 24 ≤ c ∧ ∃ T, RdSS w lo hi A 23 (rrBool T) := by
  obtain ⟨T, h1, h2, h3⟩ := h
  obtain ⟨A, c, rfl, hnc, hcm, hr⟩ := h3.rd
  exact ⟨A, c, rfl, hnc, T.take 23, by rw [rrB_take]; exact hr.take (by omega)⟩
/-- A row that is shorter by one. -/
theorem TabV.short {w : World} {lo hi : Nat} {v : Value} (h : TabV w lo hi v 24) (hw : hi ≤ w.heap.size) (i : Nat) (hi' : i < 24) :
    ∃ gv cv g c, v = .slice (some ⟨gv, 0, none⟩) 24 cv ∧ lo ≤ gv ∧ gv < hi ∧ w.cell? ⟨gv, i, none⟩ = some (.slice (some ⟨g, 0, none⟩) 24 c) ∧ 24 ≤ c ∧ (∀ j, w.frozen? ⟨gv, j, none⟩ = false) ∧
      ∃ T, RdSS (w.setCell ⟨gv, i, none⟩ (.slice (some ⟨g, 0, none⟩) 23 c)) lo hi (some ⟨gv, 0, none⟩) 24 (rrBool T) := by
  obtain ⟨T, h1, h2, us, ho, hro⟩ := h
  have hul : us.length = 24 := by simpa using ho.length
  obtain ⟨gv, cv, rfl⟩ := Joins.ownsRow_form ho.1 (by omega)
  have hvl := ho.lt gv rfl
  have hT : i < T.length := by omega
  have hrl : (rrBool T).length = 24 := by rw [rrBool_len, h1]
  have hiu : i < us.length := by omega
  have hrow := hro.row i us[i] (rrBool T)[i] (List.getElem?_eq_getElem hiu) (List.getElem?_eq_getElem (by omega))
  have er : (rrBool T)[i]'(by omega) = rBool T[i] := by simp [rrBool]
  rw [er] at hrow
  have hl : (rBool T[i]).length = 24 := by rw [rBool_len1]; exact h2 _ (List.getElem_mem hT)
  rw [hl] at hrow
  obtain ⟨g, c, hu⟩ := Joins.ownsRow_form hrow.1 (by omega)
  rw [hu] at hrow
  obtain ⟨A, c', e, hnc, hcm, hrd⟩ := hrow.rd
  injection e with e1 e2 e3
  subst e1 e3
  have hne : ∀ (j : Nat) (x : Value), us[j]? = some x → ∀ k, x.ownBlock = some k → k ≠ gv := by
    intro j x hx k hk e
    have hj : j < (rrBool T).length := by have := (List.getElem?_eq_some_iff.1 hx).1; omega
    have hrj := hro.row j x (rrBool T)[j] hx (List.getElem?_eq_getElem hj)
    exact own_ne hrj.1 ho.1 (by decide) k hk (by rw [e]; rfl)
  refine ⟨gv, cv, g, c, rfl, hvl.1, hvl.2.1, by rw [ho.1.cellAt i (by omega), List.getElem?_eq_getElem hiu, hu], hnc, fun j => ho.1.frozenAt j, T.set i (T[i].take 23), us.set i (.slice (some ⟨g, 0, none⟩) 23 c), ?_, by rw [rrBool_len]; simp [h1], fun j hj => ?_⟩
  · refine ⟨by simp [hul], fun _ => ⟨gv, 0, rfl, hvl.1, hvl.2.1, fun j u hj => ?_⟩⟩
    by_cases e : i = j
    · subst e
      rw [List.getElem?_set_self hiu] at hj
      rw [← hj]
      rw [Nat.zero_add]
      have := (ho.1.cellAt i (by omega))
      exact World.cell?_setCell_same w _ _ (this.trans (List.getElem?_eq_getElem hiu))
    · rw [List.getElem?_set_ne e] at hj
      rw [Nat.zero_add]
      have hj' : j < 24 := by have := (List.getElem?_eq_some_iff.1 hj).1; omega
      have := ho.1.cellAt j (by omega)
      exact (World.cell?_setCell_other w _ _ _ (by intro q; injection q with _ q; exact e q)).trans (this.trans hj)
  · have hj2 : j < T.length := by simpa [rrBool_len] using hj
    have hju : j < us.length := by omega
    have hjr : j < (rrBool T).length := by rw [rrBool_len]; exact hj2
    have hrj := hro.row j us[j] (rrBool T)[j] (List.getElem?_eq_getElem hju) (List.getElem?_eq_getElem hjr)
    have erj : (rrBool T)[j] = rBool T[j] := by simp [rrBool]
    have hlj : (rBool T[j]).length = 24 := by rw [rBool_len1]; exact h2 _ (List.getElem_mem hj2)
    rw [erj, hlj] at hrj
    obtain ⟨gj, cj, huj⟩ := Joins.ownsRow_form hrj.1 (by omega)
    have hgj := hne j us[j] (List.getElem?_eq_getElem hju) gj (by rw [huj]; rfl)
    have hbj := hrj.lt gj (by rw [huj]; rfl)
    rw [huj] at hrj
    obtain ⟨A', c', e', hnc', hcm', hrd'⟩ := hrj.rd
    injection e' with e1 e2 e3
    subst e1 e3
    have hk := ((hrd'.narrow).keep (w' := w.setCell ⟨gv, i, none⟩ (.slice (some ⟨g, 0, none⟩) 23 c)) (fun p hp1 hp2 => World.cell?_setCell_far _ _ _ _ (by show gv ≠ p.block; omega))).mono (lo' := lo) (hi' := hi) hbj.1 hbj.2.1
    by_cases e : i = j
    · subst e
      rw [hu] at huj
      injection huj with f1 f2 f3
      injection f1 with f1
      injection f1 with f1
      subst f1 f3
      refine ⟨some ⟨g, 0, none⟩, 23, c, List.getElem?_set_self hiu, by unfold maxLen; omega, ?_⟩
      have e2 : (rrBool (T.set i (T[i].take 23)))[i]'hj = (rBool T[i]).take 23 := by simp [rrBool, rB_take]
      rw [e2]
      exact hk.take (by omega)
    · refine ⟨some ⟨gj, 0, none⟩, 24, cj, by rw [List.getElem?_set_ne e, List.getElem?_eq_getElem hju, huj], by unfold maxLen; omega, ?_⟩
      have e2 : (rrBool (T.set i (T[i].take 23)))[j]'hj = rBool T[j] := by simp [rrBool, List.getElem_set_ne e]
      rw [e2]
      exact hk

set_option maxRecDepth 100000 in
set_option maxHeartbeats 2000000 in
theorem l15Spoil_g (b K : Nat) (hK : K ≤ 60000) (w : World) (h : Src w b K) :
    Calls Try.prog 43 #[.pointer (some ⟨b, 0, none⟩)] w fun e w' => ∃ v, e = .returned v ∧ TabA w' w.heap.size v ∧ Src w' b (K + 1410) ∧ Tch b (b + 1) w w' := by
  have hlt := h.lt
  have HS := hide h
  clear h
  go_enter Try.func43, Try.ntmps43
  go_wp2_with fail
  refine (l15Draw_g b K (by omega) _ HS.out).mono ?_
  rintro e w1 ⟨v, rfl, hv, S1, t1⟩
  have hs1 := t1.size
  have HS1 := hide S1
  have HV1 := hide hv
  have HT1 := hide t1
  clear S1 t1 hv HS
  go_wp2_with fail
  refine (pick_any b (K + 1400) 24 (by omega) (by omega) (by omega) _ HS1.out).mono ?_
  rintro e w2 ⟨p, rfl, p0, p1, S2, t2⟩
  have hs2 := t2.size
  have HV := hide ((HV1.out.tch t2 (.inr (by omega))).mono (Nat.le_refl _) hs2)
  have HT := hide (HT1.out.trans t2)
  have HS2 := hide S2
  clear S2 t2 HS1 HV1 HT1
  by_cases hp0 : p = 0
  · subst hp0
    obtain ⟨A, c, rfl, hc, T, hr⟩ := HV.out.less
    have HR := hide hr
    clear hr
    go_wp2_with fail
    go_ret
    exact ⟨_, rfl, ⟨A, 23, c, T, rfl, by unfold maxLen; omega, HR.out⟩, HS2.out.mono (by omega), HT.out⟩
  · by_cases hp1 : p = 1
    · subst hp1
      obtain ⟨gv, cv, g, c, rfl, v0, v1, kc, hc, kf, T, hr⟩ := HV.out.short (Nat.le_refl _) 2 (by omega)
      have HR := hide hr
      have kf2 := kf 2
      clear hr kf
      go_wp2_with fail
      go_ret
      refine ⟨_, rfl, ⟨_, 24, cv, T, rfl, by unfold maxLen; omega, ?_⟩, (HS2.out.setNew (by omega) _ _).mono (by omega), HT.out.setNew (by omega) _ _⟩
      rw [show (w2.setCell ⟨gv, 2, none⟩ (.slice (some ⟨g, 0, none⟩) 23 c)).heap.size = w2.heap.size by simp [World.setCell]]
      exact HR.out
    · go_wp2_with fail
      go_ret
      exact ⟨_, rfl, HV.out.any, HS2.out.mono (by omega), HT.out⟩

end Go.Proofs.Ytoklcjpokffocaa
