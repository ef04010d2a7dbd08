/-
  TABLES as the reference draws them. What stands in a table is left open, but for its form. No condition but those that each theorem names.
-/
import Derived.Test.YtoklcjpokffocaaTwo
import Derived.Test.YtoklcjpokffocaaSrch
namespace Go.Proofs.Ytoklcjpokffocaa
open Go.RowKit
set_option linter.unusedVariables false
set_option linter.unusedSimpArgs false

theorem rBool_map (l : List Bool) : rBool l = l.map Value.bool := by
  unfold rBool rows cBool
  induction l with
  | nil => rfl
  | cons a l ih => simp [ih]
theorem rrB_set (T : List (List Bool)) (i j : Nat) (y : Bool) : (rrBool T).set i (((rrBool T).getD i []).set j (.bool y)) = rrBool (T.set i ((T.getD i []).set j y)) := by
  rw [rrBool_at]
  unfold rrBool
  rw [List.map_set]
  congr 1
  rw [rBool_map, rBool_map, List.map_set]
/-- A row of a table: where it lies, and a store into it. -/
theorem TabV.row {w : World} {lo hi : Nat} {v : Value} (h : TabV w lo hi v 24) (hw : hi ≤ w.heap.size) (i : Nat) (hi' : i < 24) :
    ∃ gv cv g c, v = .slice (some ⟨gv, 0, none⟩) 24 cv ∧ lo ≤ gv ∧ gv < hi ∧ lo ≤ g ∧ g < hi ∧ w.cell? ⟨gv, i, none⟩ = some (.slice (some ⟨g, 0, none⟩) 24 c) ∧ (∀ j, w.frozen? ⟨g, j, none⟩ = false) ∧
      (∀ j, j < 24 → ∃ y, w.cell? ⟨g, j, none⟩ = some (.bool y)) ∧ ∀ j y, TabV (w.setCell ⟨g, j, none⟩ (.bool y)) lo hi v 24 := by
  obtain ⟨T, h1, h2, h3⟩ := h
  have hT : i < T.length := by omega
  have e : T.getD i [] = T[i] := by simp [List.getD, hT]
  have hl : (T.getD i []).length = 24 := by rw [e]; exact h2 _ (List.getElem_mem hT)
  have hr : ((rrBool T).getD i []) = rBool (T.getD i []) := rrBool_at T i
  obtain ⟨gv, cv, g, c, e1, v1, v2, g1, g2, kc, kf, kr, krf, kput, _⟩ := h3.row_ (by decide) hw (i := i) hi' (by rw [hr, rBool_len1, hl]; omega)
  rw [hr] at kc kr
  rw [rBool_len1, hl] at kc
  refine ⟨gv, cv, g, c, e1, v1, v2, g1, g2, kc, krf, fun j hj => ?_, fun j y => ?_⟩
  · have hj' : j < (T.getD i []).length := by omega
    exact ⟨(T.getD i [])[j], kr j _ (by rw [rBool_map, List.getElem?_map, List.getElem?_eq_getElem hj']; rfl)⟩
  · refine ⟨T.set i ((T.getD i []).set j y), by simp [h1], fun r hr' => ?_, ?_⟩
    · rcases List.mem_or_eq_of_mem_set hr' with h | h
      · exact h2 r h
      · rw [h, List.length_set, hl]
    · rw [← rrB_set]; exact kput j _
theorem TabV.below {w w' : World} {lo hi k B : Nat} {v : Value} (h : TabV w lo hi v k) (hb : Below B w w') (hB : hi ≤ B) : TabV w' lo hi v k := by
  obtain ⟨T, h1, h2, h3⟩ := h; exact ⟨T, h1, h2, h3.below hb hB⟩
theorem TabV.tch {w w' : World} {lo hi k l r : Nat} {v : Value} (h : TabV w lo hi v k) (hb : Tch l r w w') (hd : hi ≤ l ∨ r ≤ lo) : TabV w' lo hi v k := by
  obtain ⟨T, h1, h2, h3⟩ := h; exact ⟨T, h1, h2, h3.tch hb hd⟩
theorem TabV.mono {w : World} {lo hi lo' hi' k : Nat} {v : Value} (h : TabV w lo hi v k) (h1 : lo' ≤ lo) (h2 : hi ≤ hi') : TabV w lo' hi' v k := by
  obtain ⟨T, k1, k2, k3⟩ := h; exact ⟨T, k1, k2, k3.mono h1 h2⟩
theorem RowV.tch {w w' : World} {lo hi k l r : Nat} {v : Value} (h : RowV w lo hi v k) (hb : Tch l r w w') (hd : hi ≤ l ∨ r ≤ lo) : RowV w' lo hi v k := by
  obtain ⟨x, h1, h2⟩ := h; exact ⟨x, h1, h2.tch hb hd⟩
theorem RowV.mono {w : World} {lo hi lo' hi' k : Nat} {v : Value} (h : RowV w lo hi v k) (h1 : lo' ≤ lo) (h2 : hi ≤ hi') : RowV w lo' hi' v k := by
  obtain ⟨x, k1, k2⟩ := h; exact ⟨x, k1, k2.mono h1 h2⟩

set_option maxRecDepth 100000 in
set_option maxHeartbeats 2000000 in
theorem l15Draw_g (b K : Nat) (hK : K ≤ 70000) (w : World) (h : Src w b K) :
    Calls Try.prog 41 #[.pointer (some ⟨b, 0, none⟩)] w fun e w' => ∃ v, e = .returned v ∧ TabV w' w.heap.size w'.heap.size v 24 ∧ Src w' b (K + 1400) ∧ Tch b (b + 1) w w' := by
  obtain ⟨i0, hi0, hz0, hz1, hz2⟩ := info_parts infoSBool
  obtain ⟨j0, hj0, hq0, hq1, hq2⟩ := info_parts infoBool
  have I := hide (And.intro hi0 (And.intro hz0 (And.intro hz1 hz2)))
  have II := hide (And.intro hj0 (And.intro hq0 (And.intro hq1 hq2)))
  clear hi0 hz0 hz1 hz2 hj0 hq0 hq1 hq2
  have hlt := h.lt
  have HS := hide h
  clear h
  go_enter Try.func41, Try.ntmps41
  go_wp2_with fail
  refine (one_any b K 2 (by omega) (by omega) (by omega) _ HS.out).mono ?_
  rintro e w1 ⟨y1, rfl, S1, t1⟩
  have hs1 := t1.size
  have HS1 := hide S1
  clear S1 HS
  cases y1
  · go_wp2_with fail
    obtain ⟨W2, hW2⟩ : ∃ W : World, W = w1.alloc (.cells #[] 60) := ⟨_, rfl⟩
    rw [← hW2]
    have hs2 : W2.heap.size = w1.heap.size + 1 := by rw [hW2]; simp
    have TA2 := hide (show TabV W2 w.heap.size W2.heap.size (.slice (some ⟨w1.heap.size, 0, none⟩) 0 0) 0 by rw [hW2]; exact (TabV.nil_ w1 #[] rfl _ (Nat.le_refl _)).mono hs1 (Nat.le_refl _))
    have HS2 := hide (show Src W2 b (K + 2) by rw [hW2]; exact HS1.out.alloc _)
    have HT2 := hide (show Tch b (b + 1) w W2 by rw [hW2]; exact t1.alloc_ _)
    clear hW2 HS1 t1
    refine (pick_any b (K + 2) 12 (by omega) (by omega) (by omega) _ HS2.out).mono ?_
    rintro e w4 ⟨mn, rfl, mna, mnb, S4, t4⟩
    have hs4 := t4.size
    have HS4 := hide S4
    have TA4 := hide ((TA2.out.tch t4 (.inr (by omega))).mono (Nat.le_refl _) hs4)
    have HT4 := hide (HT2.out.trans t4)
    clear S4 t4 HS2 TA2 HT2
    go_wp2_with fail
    have hmw : IntKind.i64.wrap (2 + mn) = 2 + mn := IntWalk.i64_in _ (by omega)
    try rw [hmw]
    clear hmw
    obtain ⟨mm, hmm⟩ : ∃ z : Int, z = 2 + mn := ⟨_, rfl⟩
    try rw [← hmm]
    have hm1 : 2 ≤ mm := by omega
    have hm2 : mm ≤ 13 := by omega
    clear hmm
    go_loopw [5, 7] (fun v i wr => ∃ k : Nat, k ≤ 24 ∧ i = .int .i64 k ∧ Hid (TabV wr w.heap.size wr.heap.size v k) ∧ Hid (Src wr b (K + 4 + 48 * k)) ∧ Tch b (b + 1) w wr) (fun _ i _ => 24 - (intOf i).toNat)
    case atStart => exact ⟨0, by omega, rfl, TA4, HS4, HT4.out⟩
    case round =>
      clear TA4 HS4 HT4
      obtain ⟨k, hk, rfl, HW, HSR, htr⟩ := hrel
      have hsz := htr.size
      by_cases hlt2 : k < 24
      · have x1 : (k : Int) < 24 := by omega
        obtain ⟨wo, rfl⟩ : ∃ wo : World, wo = wr := ⟨_, rfl⟩
        go_wp2_with fail
        go_loopw [8, 9] (fun v i wr => ∃ j : Nat, j ≤ 24 ∧ i = .int .i64 j ∧ Hid (RowV wr wo.heap.size wr.heap.size v j) ∧ Hid (Src wr b (K + 4 + 48 * k + 2 * j)) ∧ Tch b (b + 1) wo wr) (fun _ i _ => 24 - (intOf i).toNat)
        case atStart => exact ⟨0, by omega, rfl, hide (RowV.nil_ wo _ (Nat.le_refl _)), hide (HSR.out.alloc _), (Tch.refl _ _ _).alloc_ _⟩
        case round =>
          obtain ⟨j, hj, rfl, HR, HSQ, htq⟩ := hrel
          have hsq := htq.size
          by_cases hlj : j < 24
          · have y1 : (j : Int) < 24 := by omega
            go_wp2_with fail
            refine (pick_any b (K + 4 + 48 * k + 2 * j) mm (by omega) (by omega) (by omega) _ HSQ.out).mono ?_
            rintro e w3 ⟨u, rfl, u0, u1, S3, t3⟩
            have hs3 := t3.size
            have HS3 := hide S3
            obtain ⟨r, hr, hro⟩ := HR.out
            have HRL := hide hr
            have HRW := hide ((hro.tch t3 (.inr (by omega))).mono (Nat.le_refl _) hs3)
            have HT3 := hide (htq.trans t3)
            clear hr hro HR S3 t3 HSQ htq
            go_wp2_with (at_builtin; refine wpList_append_own _ rfl (.tmp 35) (.tmp 40) 60 rfl wo.heap.size 4 j0 (.bool false) 1 1 Try.underlying60 II.out.1 II.out.2.1 II.out.2.2.1 II.out.2.2.2 rfl (by decide) _ _ _ rfl (HRW.out.1.alloc _) ⟨w3.heap.size, 0, none⟩ 1 1 [.bool (u == 0)] rfl rfl (news_at2 _ _ _ _ rfl) (by simp [Value.oneCell']) (by unfold maxLen; omega) (by omega) (by simp; omega) ?_; intro v' wn hown' hgrow _)
            have hg4 := hgrow.size
            have T5 : Tch b (b + 1) wo wn := (HT3.out.alloc_ _).grownNew hgrow (fun g hg => (HRW.out.lt g hg).1)
            have S5 := hide ((HS3.out.alloc _).keep (fun g hg => hgrow.block g (by have := HS3.out.lt; simp; omega) (fun e => by have := (HRW.out.lt g e.symm).1; omega)))
            clear hg4
            go_roundw
            case rel =>
              refine ⟨j + 1, by omega, by go_num, hide ⟨r ++ [u == 0], by simp [HRL.out], ?_⟩, hide (S5.out.mono (by omega)), T5⟩
              rw [rB_snoc]
              exact Own.of_owns hown'
            case measure => simp [intOf]; omega
          · obtain rfl : j = 24 := by omega
            obtain ⟨r, hr, hnew⟩ := HR.out
            obtain ⟨gr, cr, rfl⟩ := Joins.ownsRow_form hnew.1 (by omega)
            obtain ⟨T, hT, hTr, us, ho1, hro⟩ := HW.out
            have HRL := hide hr
            have HNW := hide hnew
            have HT := hide hT
            have HTR := hide hTr
            have HOO := hide ((ho1.tch htq (.inr (by omega))).mono (Nat.le_refl _) hsq)
            have HRO := hide (hro.tch htq (.inr (by omega)))
            have HTT := hide (htr.trans htq)
            clear ho1 hro hr hnew hT hTr HR HW htq htr
            go_wp2_with (at_builtin; refine wpList_append_own _ rfl (.tmp 42) (.tmp 44) 24 rfl w.heap.size 60 i0 (.slice none 0 0) 1 24 Try.underlying24 I.out.1 I.out.2.1 I.out.2.2.1 I.out.2.2.2 rfl (by decide) _ k us rfl (HOO.out.1.alloc _) ⟨wr.heap.size, 0, none⟩ 1 1 [.slice (some ⟨gr, 0, none⟩) 24 cr] rfl rfl (news_at2 _ _ _ _ rfl) (by simp [Value.oneCell']) (by unfold maxLen; omega) (by omega) (by simp; omega) ?_; intro v' wn hown' hgrow _)
            have hg4 := hgrow.size
            have T5 : Tch b (b + 1) w wn := (HTT.out.alloc_ _).grownNew hgrow (fun g hg => (HOO.out.lt g hg).1)
            have S5 := hide ((HSQ.out.alloc _).keep (fun g hg => hgrow.block g (by have := HSQ.out.lt; simp; omega) (fun e => by have := (HOO.out.lt g e.symm).1; omega)))
            clear hg4
            go_roundw
            case rel =>
              exact ⟨k + 1, by omega, by go_num, hide (TabV.snoc HT.out HTR.out HRL.out HOO.out HRO.out HNW.out hsz hsq hgrow hown'), hide (S5.out.mono (by omega)), T5⟩
            case measure => simp [intOf]; omega
      · obtain rfl : k = 24 := by omega
        go_wp2_with fail
        refine (one_any b (K + 4 + 48 * 24) 6 (by omega) (by omega) (by omega) _ HSR.out).mono ?_
        rintro e w6 ⟨y6, rfl, S6, t6⟩
        have hs6 := t6.size
        have HS6 := hide S6
        have HW6 := hide ((HW.out.tch t6 (.inr (by omega))).mono (Nat.le_refl _) hs6)
        have HT6 := hide (htr.trans t6)
        clear S6 t6 HSR HW htr
        cases y6
        · go_wp2_with fail
          go_ret
          exact ⟨_, rfl, HW6.out, HS6.out.mono (by omega), HT6.out⟩
        · go_wp2_with fail
          go_loopw [10] (fun i wr => ∃ k : Nat, k ≤ 24 ∧ i = .int .i64 k ∧ Hid (TabV wr w.heap.size wr.heap.size u5 24) ∧ Hid (Src wr b (K + 1158)) ∧ Tch b (b + 1) w wr) (fun i _ => 24 - (intOf i).toNat)
          case atStart => exact ⟨0, by omega, rfl, HW6, hide (HS6.out.mono (by omega)), HT6.out⟩
          case round =>
            clear HW6 HS6 HT6
            obtain ⟨k, hk, rfl, HW, HSR, htr⟩ := hrel
            have hsz := htr.size
            obtain ⟨gv, cv, g, c, rfl, v1, v2, g1, g2, kc, kf, kr, kput⟩ := HW.out.row (Nat.le_refl _) 3 (by omega)
            have HPUT := hide kput
            clear kput
            by_cases hlt2 : k < 24
            · have x1 : (k : Int) < 24 := by omega
              obtain ⟨y, hy⟩ := kr k hlt2
              have kfk := kf k
              clear kr kf
              go_wp2_with fail
              go_roundw
              case rel =>
                refine ⟨k + 1, by omega, by go_num, hide ?_, hide (HSR.out.setNew (by omega) _ _), htr.setNew (by omega) _ _⟩
                rw [show (wr.setCell ⟨g, k, none⟩ (.bool true)).heap.size = wr.heap.size by simp [World.setCell]]
                exact HPUT.out k true
              case measure => simp [intOf]; omega
            · obtain rfl : k = 24 := by omega
              clear kr kf kc
              go_wp2_with fail
              go_ret
              exact ⟨_, rfl, HW.out, HSR.out.mono (by omega), htr⟩
  · go_wp2_with fail
    refine (l15Two_g b (K + 2) (by omega) _ HS1.out).mono ?_
    rintro e w2 ⟨n1, n2, x1, y1, h1, j1, b1, A1, m1, c1, x2, y2, h2, j2, b2, A2, m2, c2, rfl, S2, t2⟩
    have hs2 := t2.size
    have HS2 := hide S2
    have HT2 := hide (t1.trans t2)
    clear S2 t2 HS1 t1
    go_wp2_with fail
    obtain ⟨W3, hW3⟩ : ∃ W : World, W = (w2.alloc (.cells #[.string n1, .int .i64 x1, .int .i64 y1, .int .i64 h1, .int .i64 j1, .int .i64 b1, .slice A1 m1 c1] 76)).alloc (.cells #[.string n2, .int .i64 x2, .int .i64 y2, .int .i64 h2, .int .i64 j2, .int .i64 b2, .slice A2 m2 c2] 76) := ⟨_, rfl⟩
    rw [← hW3]
    have hs3 : W3.heap.size = w2.heap.size + 2 := by rw [hW3]; simp
    have C1 : CrB W3 w2.heap.size := ⟨by omega, _, _, _, _, _, _, _, by rw [hW3]; exact (box_at _ _ _ _ rfl).alloc (by simp) _⟩
    have C2 : CrB W3 (w2.heap.size + 1) := ⟨by omega, _, _, _, _, _, _, _, by rw [hW3]; exact box_at _ _ _ _ (by simp)⟩
    have HS3 := hide (show Src W3 b (K + 2 + 100) by rw [hW3]; exact (HS2.out.alloc _).alloc _)
    have HT3 := hide (show Tch b (b + 1) w W3 by rw [hW3]; exact (HT2.out.alloc_ _).alloc_ _)
    clear hW3 HS2 HT2
    refine (pick_any b (K + 2 + 100) 40 (by omega) (by omega) (by omega) _ HS3.out).mono ?_
    rintro e w4 ⟨dd, rfl, d0, d1, S4, t4⟩
    have hs4 := t4.size
    have HS4 := hide S4
    have C1' := hide (C1.tch t4 (.inr (by omega)))
    have C2' := hide (C2.tch t4 (.inr (by omega)))
    have HT4 := hide (HT3.out.trans t4)
    clear S4 t4 HS3 HT3 C1 C2
    go_wp2_with fail
    refine (l15Table_g _ _ _ _ C1'.out C2'.out).mono ?_
    rintro e w5 ⟨v5, rfl, hv5, hb5⟩
    have hs5 := hb5.size
    have HV5 := hide hv5
    have HB5 := hide hb5
    clear hv5 hb5
    go_wp2_with fail
    go_ret
    exact ⟨_, rfl, HV5.out.mono (by omega) (Nat.le_refl _), (HS4.out.bel HB5.out).mono (by omega), HT4.out.bel HB5.out⟩


end Go.Proofs.Ytoklcjpokffocaa
