/-
  MergeEvents, the reference's. No condition but those that each theorem names.
-/
import Derived.Test.YtdmhoabidlagmaaMg2
import Derived.Laws.AppendOwn
import Derived.BigQuiet
namespace Go.Proofs.Ytdmhoabidlagmaa
open Go.RowKit
set_option linter.unusedVariables false
set_option linter.unusedSimpArgs false

theorem cells_new (w : World) (cs : Array Value) (T : TypeId) (l : List Value) (hl : cs.toList = l) (b : Nat) (hb : b = w.heap.size) : ∀ (j : Nat) (u : Value), l[j]? = some u → (w.alloc (.cells cs T)).cell? ((⟨b, 0, none⟩ : Addr).add j) = some u := by
  subst hb
  subst hl
  intro j u hu
  rw [Go.WideShapes.add_plain]
  have := box_new w cs T j u hu
  simpa using this
theorem rd_drop {w : World} {lo hi g n k : Nat} {b : List Evt} (h : Rd w lo hi 4 (some ⟨g, 0, none⟩) n (rEvent b)) (hl : b.length = n) (hk : k ≤ n) : Rd w 0 hi 4 (some ⟨g, k * 4, none⟩) (n - k) (rEvent (b.drop k)) := by
  refine ⟨by rw [rEvent_length, List.length_drop, hl], fun hk0 => ?_⟩
  obtain ⟨g', off, e, _, h2, hc⟩ := h.2 (by omega)
  injection e with e
  injection e with e1 e2 _
  subst e1
  subst e2
  refine ⟨g, k * 4, rfl, Nat.zero_le _, h2, fun j u hu => ?_⟩
  have := hc (k * 4 + j) u (by
    rw [show rEvent b = rEvent (b.take k) ++ rEvent (b.drop k) by rw [← rE_app, List.take_append_drop], List.getElem?_append_right (by rw [rEvent_length, List.length_take]; omega)]
    rw [rEvent_length, List.length_take, show k * 4 + j - min k b.length * 4 = j by omega]
    exact hu)
  rwa [Nat.zero_add] at this

set_option maxRecDepth 100000 in
set_option maxHeartbeats 2000000 in
theorem specMerge_any (va vb : Value) (na nb la lb : Nat) (a b : List Evt) (hn : na + nb ≤ 1048576) (w : World) (h1 : w.ownsRow la 33 4 va na (rEvent a)) (h2 : w.ownsRow lb 33 4 vb nb (rEvent b)) :
    Calls Try.prog 5 #[va, vb] w fun e w' => MgV w w' e a b := by
  have HLA : Hid (a.length = na) := hide (by have := h1.1; rw [rEvent_length] at this; omega)
  have HLB : Hid (b.length = nb) := hide (by have := h2.1; rw [rEvent_length] at this; omega)
  obtain ⟨Aa, ca, rfl, _, _, hra⟩ := (Own.of_owns h1).rd
  obtain ⟨Ab, cb, rfl, _, _, hrb⟩ := (Own.of_owns h2).rd
  have H1 := hide h1
  have H2 := hide h2
  have HRB := hide hrb
  clear h1 h2 hra hrb
  obtain ⟨i0, hi0, hz0, hz1, hz2⟩ := info_parts infoEvent
  have I := hide (And.intro hi0 (And.intro hz0 (And.intro hz1 hz2)))
  clear hi0 hz0 hz1 hz2
  cases ra : risV a
  · have HC : Hid (mgC a b = 1) := hide (by simp [mgC, ra])
    have RA := hide ra
    clear ra
    go_enter Try.func5, Try.ntmps5
    go_wp2_with fail
    refine (l20Rises_any _ na la a (by omega) _ H1.out).mono ?_
    rintro e w1 ⟨rfl, hb1⟩
    rw [RA.out]
    have HB1 := hide hb1
    clear hb1
    go_wp2_with fail
    go_ret2
    exact mgV_bad HC.out (by decide) HB1.out
  · have RA := hide ra
    clear ra
    cases rb : risV b
    · have HC : Hid (mgC a b = 1) := hide (by simp [mgC, rb])
      have RB := hide rb
      clear rb
      go_enter Try.func5, Try.ntmps5
      go_wp2_with fail
      refine (l20Rises_any _ na la a (by omega) _ H1.out).mono ?_
      rintro e w1 ⟨rfl, hb1⟩
      rw [RA.out]
      have HB1 := hide hb1
      clear hb1
      go_wp2_with fail
      refine (l20Rises_any _ nb lb b (by omega) _ (owns_below H2.out HB1.out)).mono ?_
      rintro e w2 ⟨rfl, hb2⟩
      rw [RB.out]
      have HB2 := hide (HB1.out.trans (hb2.mono HB1.out.size))
      have hs2 := HB2.out.size
      clear hb2 HB1
      go_wp2_with fail
      go_ret2
      exact mgV_bad HC.out (by decide) HB2.out
    · have RB := hide rb
      by_cases hs : na + nb ≤ 100
      all_goals
        have HC0 : Hid (mgC a b = if na + nb ≤ 100 then 0 else 5) := hide (by simp [mgC, RA.out, rb, HLA.out, HLB.out])
        clear rb
        go_enter Try.func5, Try.ntmps5
        go_wp2_with fail
        refine (l20Rises_any _ na la a (by omega) _ H1.out).mono ?_
        rintro e w1 ⟨rfl, hb1⟩
        rw [RA.out]
        have HB1 := hide hb1
        clear hb1
        go_wp2_with fail
        refine (l20Rises_any _ nb lb b (by omega) _ (owns_below H2.out HB1.out)).mono ?_
        rintro e w2 ⟨rfl, hb2⟩
        rw [RB.out]
        have HB2 := hide (HB1.out.trans (hb2.mono HB1.out.size))
        have hs2 := HB2.out.size
        clear hb2 HB1
      · have HC : Hid (mgC a b = 0) := hide (by rw [HC0.out, if_pos hs])
        have z1 : ¬ (na : Int) + (nb : Int) > 100 := by omega
        go_wp2_with fail
        go_loopw [6, 7, 8] (fun o k i wr => ∃ (ni nk : Nat) (O : List Evt), ni ≤ na ∧ nk ≤ nb ∧ k = .int .i64 nk ∧ i = .int .i64 ni ∧ Hid (MgI a b ni nk O) ∧ Hid (wr.ownsRow w.heap.size 33 4 o (ni + nk) (rEvent O)) ∧ Hid (Below w.heap.size w wr)) (fun _ _ i _ => na - (intOf i).toNat)
        case atStart => exact ⟨0, 0, [], by omega, by omega, by first | rfl | go_num, by first | rfl | go_num, hide (MgI.start a b), hide (World.ownsRow_made (base := w.heap.size) (size := 4) w2 #[] 0 HB2.out.size (Nat.zero_le _) rfl), hide (HB2.out.alloc (by omega) _)⟩
        case round =>
          obtain ⟨ni, nk, O, hia, hkb, rfl, rfl, HM, HO, HB⟩ := hrel
          have hszr := HB.out.size
          by_cases hi : ni < na
          · have y0 : (ni : Int) < (na : Int) := by omega
            obtain ⟨⟨ae0, ae1, ae2, ae3⟩, ha⟩ : ∃ x, a.getD ni zE = x := ⟨_, rfl⟩
            have HKa : Hid (kev a ni = ae0) := hide (by unfold kev; rw [show ((0, 0, 0, 0) : Evt) = zE from rfl, ha])
            have HEa : Hid (∀ (q : ni < a.length), a[ni] = (ae0, ae1, ae2, ae3)) := hide (fun q => by rw [← ha]; simp [List.getD, q])
            obtain ⟨ga, hga⟩ : ∃ g, Aa = some ⟨g, 0, none⟩ := by have q := Joins.ownsRow_form (owns_below H1.out HB.out) (by omega); obtain ⟨g, c2, hgc⟩ := q; injection hgc with q1 _ _; exact ⟨g, q1⟩
            subst hga
            have HGA := hide ha
            clear ha
            go_wp2_with fail
            go_loopw [6, 7] (fun o k wr => ∃ (nk : Nat) (O : List Evt), nk ≤ nb ∧ k = .int .i64 nk ∧ Hid (MgI a b ni nk O) ∧ Hid (wr.ownsRow w.heap.size 33 4 o (ni + nk) (rEvent O)) ∧ Hid (Below w.heap.size w wr)) (fun _ k _ => nb - (intOf k).toNat)
            case atStart => exact ⟨nk, O, hkb, rfl, HM, HO, HB⟩
            case round =>
              clear HM HO HB hszr hkb
              obtain ⟨nk, O, hkb, rfl, HM, HO, HB⟩ := hrel
              have hszr := HB.out.size
              have HRA := hide (owns_below H1.out HB.out)
              have HRB2 := hide (owns_below H2.out HB.out)
              obtain ⟨ca0, ca1, ca2, ca3⟩ := se_cells HRA.out (by omega) HGA.out
              clear HRA
              by_cases hk : nk < nb
              · have y1 : (nk : Int) < (nb : Int) := by omega
                obtain ⟨gb, hgb⟩ : ∃ g, Ab = some ⟨g, 0, none⟩ := by have q := Joins.ownsRow_form H2.out (by omega); obtain ⟨g, c2, hgc⟩ := q; injection hgc with q1 _ _; exact ⟨g, q1⟩
                subst hgb
                obtain ⟨⟨be0, be1, be2, be3⟩, hb⟩ : ∃ x, b.getD nk zE = x := ⟨_, rfl⟩
                have HKb : Hid (kev b nk = be0) := hide (by unfold kev; rw [show ((0, 0, 0, 0) : Evt) = zE from rfl, hb])
                have HEb : Hid (∀ (q : nk < b.length), b[nk] = (be0, be1, be2, be3)) := hide (fun q => by rw [← hb]; simp [List.getD, q])
                have HGB := hide hb
                clear hb
                obtain ⟨cb0, cb1, cb2, cb3⟩ := se_cells HRB2.out (by omega) HGB.out
                clear HRB2
                go_wp2_with fail
                go_quiet (fail)
                have HB3 := hide (HB.out.trans ((Joins.below_draws wr.heap.size wr nq).mono hszr))
                have HO3 : Hid ((wr.drewN nq).ownsRow w.heap.size 33 4 u6 (ni + nk) (rEvent O)) := hide HO.out
                have HRA4 := hide (owns_below H1.out HB3.out)
                have HRB4 := hide (owns_below H2.out HB3.out)
                clear ca0 ca1 ca2 ca3 cb0 cb1 cb2 cb3
                have hs6 : w.heap.size ≤ (wr.drewN nq).heap.size := hszr
                generalize wr.drewN nq = w6 at *
                obtain ⟨ca0, ca1, ca2, ca3⟩ := se_cells HRA4.out (by omega) HGA.out
                obtain ⟨cb0, cb1, cb2, cb3⟩ := se_cells HRB4.out (by omega) HGB.out
                clear HRA4 HRB4
                by_cases hc : be0 < ae0
                · have z3 : decide (be0 < ae0) = true := by simpa using hc
                  have HM9 : Hid (MgI a b ni (nk + 1) (O ++ [(be0, be1, be2, be3)])) := hide (by have q := HM.out.pushB RA.out RB.out (by have := HLA.out; omega) (by have := HLB.out; omega) (by rw [HKa.out, HKb.out]; exact hc); rwa [HEb.out] at q)
                  go_wp2_with (at_builtin; refine wpList_append_own _ rfl (.tmp 47) (.tmp 52) 24 rfl w.heap.size 33 i0 (.agg #[.int .i64 0, .int .i64 0, .int .i64 0, .int .i64 0]) 4 32 Try.underlying24 I.out.1 I.out.2.1 I.out.2.2.1 I.out.2.2.2 rfl (by decide) u6 (ni + nk) (rEvent O) rfl (HO3.out.alloc _) ⟨w6.heap.size, 0, none⟩ 1 1 [.int .i64 be0, .int .i64 be1, .int .i64 be2, .int .i64 be3] rfl rfl (cells_new _ _ _ _ rfl _ rfl) (by simp [Value.oneCell']) (by unfold maxLen; omega) (by omega) (by simp; omega) ?_; intro v' wn hown' hgrow _)
                  have hb' : Below w.heap.size w wn := (HB3.out.alloc (by omega) _).grown hgrow (by simp; omega) (fun g hg => (HO3.out.lt g hg).1)
                  have HO9 : Hid (wn.ownsRow w.heap.size 33 4 v' (ni + (nk + 1)) (rEvent (O ++ [(be0, be1, be2, be3)]))) := hide (by rw [rE_app, show ni + (nk + 1) = ni + nk + 1 by omega]; have q := hown'; exact q)
                  have HB9 := hide hb'
                  clear hown' hgrow hb'
                  go_roundw
                  case rel => exact ⟨nk + 1, _, by omega, by first | rfl | go_num, HM9, HO9, HB9⟩
                  case measure => first | (simp [intOf]; done) | (simp [intOf]; omega)
                · have z3 : decide (be0 < ae0) = false := by simpa using hc
                  have HM9 : Hid (MgI a b (ni + 1) nk (O ++ [(ae0, ae1, ae2, ae3)])) := hide (by have q := HM.out.pushA RA.out RB.out (by have := HLA.out; omega) (by intro hq; rw [HKa.out, HKb.out]; omega); rwa [HEa.out] at q)
                  go_wp2_with (at_builtin; refine wpList_append_own _ rfl (.tmp 56) (.tmp 61) 24 rfl w.heap.size 33 i0 (.agg #[.int .i64 0, .int .i64 0, .int .i64 0, .int .i64 0]) 4 32 Try.underlying24 I.out.1 I.out.2.1 I.out.2.2.1 I.out.2.2.2 rfl (by decide) u6 (ni + nk) (rEvent O) rfl (HO3.out.alloc _) ⟨w6.heap.size, 0, none⟩ 1 1 [.int .i64 ae0, .int .i64 ae1, .int .i64 ae2, .int .i64 ae3] rfl rfl (cells_new _ _ _ _ rfl _ rfl) (by simp [Value.oneCell']) (by unfold maxLen; omega) (by omega) (by simp; omega) ?_; intro v' wn hown' hgrow _)
                  have hb' : Below w.heap.size w wn := (HB3.out.alloc (by omega) _).grown hgrow (by simp; omega) (fun g hg => (HO3.out.lt g hg).1)
                  have HO9 : Hid (wn.ownsRow w.heap.size 33 4 v' (ni + 1 + nk) (rEvent (O ++ [(ae0, ae1, ae2, ae3)]))) := hide (by rw [rE_app, show ni + 1 + nk = ni + nk + 1 by omega]; have q := hown'; exact q)
                  have HB9 := hide hb'
                  clear hown' hgrow hb'
                  go_roundw
                  case rel => exact ⟨ni + 1, nk, _, by omega, by omega, by first | rfl | go_num, by first | rfl | go_num, HM9, HO9, HB9⟩
                  case measure => first | (simp [intOf]; done) | (simp [intOf]; omega)
              · have y1 : ¬ (nk : Int) < (nb : Int) := by omega
                clear HRB2
                go_wp2_with fail
                go_quiet (fail)
                have HB3 := hide (HB.out.trans ((Joins.below_draws wr.heap.size wr nq).mono hszr))
                have HO3 : Hid ((wr.drewN nq).ownsRow w.heap.size 33 4 u6 (ni + nk) (rEvent O)) := hide HO.out
                have HRA4 := hide (owns_below H1.out HB3.out)
                clear ca0 ca1 ca2 ca3
                have hs6 : w.heap.size ≤ (wr.drewN nq).heap.size := hszr
                generalize wr.drewN nq = w6 at *
                obtain ⟨ca0, ca1, ca2, ca3⟩ := se_cells HRA4.out (by omega) HGA.out
                clear HRA4
                have HM9 : Hid (MgI a b (ni + 1) nk (O ++ [(ae0, ae1, ae2, ae3)])) := hide (by have q := HM.out.pushA RA.out RB.out (by have := HLA.out; omega) (by intro hq; have := HLB.out; omega); rwa [HEa.out] at q)
                go_wp2_with (at_builtin; refine wpList_append_own _ rfl (.tmp 56) (.tmp 61) 24 rfl w.heap.size 33 i0 (.agg #[.int .i64 0, .int .i64 0, .int .i64 0, .int .i64 0]) 4 32 Try.underlying24 I.out.1 I.out.2.1 I.out.2.2.1 I.out.2.2.2 rfl (by decide) u6 (ni + nk) (rEvent O) rfl (HO3.out.alloc _) ⟨w6.heap.size, 0, none⟩ 1 1 [.int .i64 ae0, .int .i64 ae1, .int .i64 ae2, .int .i64 ae3] rfl rfl (cells_new _ _ _ _ rfl _ rfl) (by simp [Value.oneCell']) (by unfold maxLen; omega) (by omega) (by simp; omega) ?_; intro v' wn hown' hgrow _)
                have hb' : Below w.heap.size w wn := (HB3.out.alloc (by omega) _).grown hgrow (by simp; omega) (fun g hg => (HO3.out.lt g hg).1)
                have HO9 : Hid (wn.ownsRow w.heap.size 33 4 v' (ni + 1 + nk) (rEvent (O ++ [(ae0, ae1, ae2, ae3)]))) := hide (by rw [rE_app, show ni + 1 + nk = ni + nk + 1 by omega]; have q := hown'; exact q)
                have HB9 := hide hb'
                clear hown' hgrow hb'
                go_roundw
                case rel => exact ⟨ni + 1, nk, _, by omega, by omega, by first | rfl | go_num, by first | rfl | go_num, HM9, HO9, HB9⟩
                case measure => first | (simp [intOf]; done) | (simp [intOf]; omega)
          · have HIE : Hid (ni = na) := hide (by omega)
            have HBF := hide (Joins.ownsRow_forms H2.out)
            have y0 : ¬ (ni : Int) < (na : Int) := by omega
            rcases HBF.out with ⟨q, hq⟩ | ⟨g, c, q⟩
            · injection q with q1 q2 q3
              subst q1
              subst hq
              subst q3
              clear q2 HBF
              obtain rfl : nk = 0 := by omega
              have HD : Hid (O ++ [] = stS (a ++ b)) := hide (by have e : ni = a.length := (by have := HIE.out; have := HLA.out; omega); have q := HM.out; rw [e] at q; have q2 := MgI.done q RB.out; rw [List.drop_eq_nil_of_le (by have := HLB.out; omega)] at q2; exact q2)
              obtain ⟨v', w', hrun, ho', hg⟩ := append_rd_E (P := Try.prog) wr 24 24 w.heap.size 33 i0 (.agg #[.int .i64 0, .int .i64 0, .int .i64 0, .int .i64 0]) 4 32 Try.underlying24 I.out.1 I.out.2.1 I.out.2.2.1 I.out.2.2.2 rfl (by decide) u6 (ni + 0) (rEvent O) HO.out none (0) 0 0 w.heap.size (rEvent []) (Rd.nil _ _ _ _ _) (oneI_E _) (by unfold maxLen; omega) (by omega) (by omega)
              have hb' : Below w.heap.size w w' := HB.out.grown hg (by omega) (fun g hg => (HO.out.lt g hg).1)
              have HRUN := hide hrun
              have HO2 := hide ho'
              have HB2 := hide hb'
              clear hrun ho' hg hb'
              go_wp2_with (at_builtin; refine Lib.wpList_append_run _ (by rfl) (.tmp 63) (.tmp 66) 24 24 (by rfl) _ _ (by rfl) (by rfl) _ _ HRUN.out ?_)
              go_ret2
              refine ⟨v', by rw [HC.out]; rfl, ?_, HB2.out⟩
              rw [show mgL a b = stS (a ++ b) by unfold mgL; rw [HC.out]; simp]
              have q := HD.out
              have q2 := HO2.out
              rw [← rE_app, q] at q2
              rw [show (stS (a ++ b)).length = ni + 0 + (0) by rw [stS_len, List.length_append]; have := HLA.out; have := HLB.out; have := HIE.out; omega]
              exact Own.of_owns q2
            · injection q with q1 q2 q3
              subst q1
              subst q3
              clear q2 HBF
              have y1 : (nk : Int) ≤ (nb : Int) := by omega
              have y2 : (nk : Int) ≤ (cb : Int) := by omega
              have y3 : (nb : Int) ≤ (cb : Int) := by omega
              have HD : Hid (O ++ b.drop nk = stS (a ++ b)) := hide (by have e : ni = a.length := (by have := HIE.out; have := HLA.out; omega); have q := HM.out; rw [e] at q; exact MgI.done q RB.out)
              by_cases hcap : nk = cb
              · subst hcap
                replace HD : Hid (O ++ [] = stS (a ++ b)) := hide (by have q2 := HD.out; rw [List.drop_eq_nil_of_le (by have := HLB.out; omega)] at q2; exact q2)
                obtain ⟨v', w', hrun, ho', hg⟩ := append_rd_E (P := Try.prog) wr 24 24 w.heap.size 33 i0 (.agg #[.int .i64 0, .int .i64 0, .int .i64 0, .int .i64 0]) 4 32 Try.underlying24 I.out.1 I.out.2.1 I.out.2.2.1 I.out.2.2.2 rfl (by decide) u6 (ni + nk) (rEvent O) HO.out (some ⟨g, 0, none⟩) (0) 0 0 w.heap.size (rEvent []) (Rd.nil _ _ _ _ _) (oneI_E _) (by unfold maxLen; omega) (by omega) (by omega)
                have hb' : Below w.heap.size w w' := HB.out.grown hg (by omega) (fun g hg => (HO.out.lt g hg).1)
                have HRUN := hide hrun
                have HO2 := hide ho'
                have HB2 := hide hb'
                clear hrun ho' hg hb'
                go_wp2_with (at_builtin; refine Lib.wpList_append_run _ (by rfl) (.tmp 63) (.tmp 66) 24 24 (by rfl) _ _ (by rfl) (by rfl) _ _ HRUN.out ?_)
                go_ret2
                refine ⟨v', by rw [HC.out]; rfl, ?_, HB2.out⟩
                rw [show mgL a b = stS (a ++ b) by unfold mgL; rw [HC.out]; simp]
                have q := HD.out
                have q2 := HO2.out
                rw [← rE_app, q] at q2
                rw [show (stS (a ++ b)).length = ni + nk + (0) by rw [stS_len, List.length_append]; have := HLA.out; have := HLB.out; have := HIE.out; omega]
                exact Own.of_owns q2
              · have HRD : Hid (Rd wr 0 w.heap.size 4 (some ⟨g, nk * 4, none⟩) (nb - nk) (rEvent (b.drop nk))) := hide (rd_drop (HRB.out.below HB.out (Nat.le_refl _)) HLB.out (by omega))
                have y4 : ¬ cb - nk = 0 := by omega
                have y5 : ¬ (cb : Int) = (nk : Int) := by omega
                obtain ⟨v', w', hrun, ho', hg⟩ := append_rd_E (P := Try.prog) wr 24 24 w.heap.size 33 i0 (.agg #[.int .i64 0, .int .i64 0, .int .i64 0, .int .i64 0]) 4 32 Try.underlying24 I.out.1 I.out.2.1 I.out.2.2.1 I.out.2.2.2 rfl (by decide) u6 (ni + nk) (rEvent O) HO.out (some ⟨g, nk * 4, none⟩) (nb - nk) (cb - nk) 0 w.heap.size (rEvent (b.drop nk)) (HRD.out) (oneI_E _) (by unfold maxLen; omega) (by omega) (by omega)
                have hb' : Below w.heap.size w w' := HB.out.grown hg (by omega) (fun g hg => (HO.out.lt g hg).1)
                have HRUN := hide hrun
                have HO2 := hide ho'
                have HB2 := hide hb'
                clear hrun ho' hg hb'
                go_wp2_with (at_builtin; refine Lib.wpList_append_run _ (by rfl) (.tmp 63) (.tmp 66) 24 24 (by rfl) _ _ (by rfl) (by rfl) _ _ HRUN.out ?_)
                go_ret2
                refine ⟨v', by rw [HC.out]; rfl, ?_, HB2.out⟩
                rw [show mgL a b = stS (a ++ b) by unfold mgL; rw [HC.out]; simp]
                have q := HD.out
                have q2 := HO2.out
                rw [← rE_app, q] at q2
                rw [show (stS (a ++ b)).length = ni + nk + (nb - nk) by rw [stS_len, List.length_append]; have := HLA.out; have := HLB.out; have := HIE.out; omega]
                exact Own.of_owns q2
      · have HC : Hid (mgC a b = 5) := hide (by rw [HC0.out, if_neg hs])
        have z1 : (na : Int) + (nb : Int) > 100 := by omega
        go_wp2_with fail
        go_ret2
        exact mgV_bad HC.out (by decide) HB2.out

/-- The answer by its letters. -/
def MgW (w w' : World) (e : Ending) (co : Int) (L : List Evt) : Prop := ∃ v, e = .returned (.tuple #[v, .int .i64 co]) ∧ Own w' w.heap.size w'.heap.size 33 4 v L.length (rEvent L) ∧ Below w.heap.size w w'
theorem specMerge_at (va vb : Value) (na nb la lb ha hb : Nat) (a b : List Evt) (co : Int) (L : List Evt) (hn : na + nb ≤ 1048576) (hc : Hid (mgC a b = co)) (hL : Hid (mgL a b = L)) (w : World) (h1 : Own w la ha 33 4 va na (rEvent a)) (h2 : Own w lb hb 33 4 vb nb (rEvent b)) :
    Calls Try.prog 5 #[va, vb] w fun e w' => MgW w w' e co L := by
  refine (specMerge_any va vb na nb la lb a b hn w h1.1 h2.1).mono ?_
  intro e w' h
  unfold MgV at h
  rw [hc.out, hL.out] at h
  exact h
theorem implMerge_at (va vb : Value) (na nb la lb ha hb : Nat) (a b : List Evt) (co : Int) (L : List Evt) (hn : na + nb ≤ 1048576) (hc : Hid (mgC a b = co)) (hL : Hid (mgL a b = L)) (w : World) (h1 : Own w la ha 33 4 va na (rEvent a)) (h2 : Own w lb hb 33 4 vb nb (rEvent b)) :
    Calls Try.prog 7 #[va, vb] w fun e w' => MgW w w' e co L := by
  refine (implMerge_any va vb na nb la lb a b hn w h1.1 h2.1).mono ?_
  intro e w' h
  unfold MgV at h
  rw [hc.out, hL.out] at h
  exact h

end Go.Proofs.Ytdmhoabidlagmaa
